/- What is wrong with a node: the document's answer. A node's text: the document's answer. Any node is written as the document says, or refused. What came in, as it reads. A table's bytes: plain. What came in, its rows' lengths together. -/
import Derived.Test.YtgdemplcpcacaaaProg
import Derived.Test.YtgdemplcpcacaaaK03
import Derived.Test.YtgdemplcpcacaaaK05
import Derived.Test.YtgdemplcpcacaaaK14
import Derived.Test.YtgdemplcpcacaaaK13
import Derived.Test.YtgdemplcpcacaaaK06
import Derived.Test.YtgdemplcpcacaaaRows
import Derived.Test.YtgdemplcpcacaaaK02
import Derived.WalkKit
import Derived.ProofKit
import Derived.OpenShut
import Derived.JoinedCond
import Derived.Deep.Slices
import Derived.Deep.Strs
import Derived.Lib.SmallJoins
import Derived.Carry
import Derived.WideShapes
set_option linter.unusedVariables false
set_option linter.unusedSimpArgs false
/-! What is wrong with a node: the document's answer. -/
namespace Go.Proofs.Ytgdemplcpcacaaa.WrongR
open Go Go.RowKit Go.Proofs.YtgdemplcpcacaaaFx Go.Proofs.Ytgdemplcpcacaaa.NameW
theorem agg24 : Agg Try.prog 24 4 := agg_of Try.underlying24 (by kernel_rfl)
theorem en46 : Enters Try.prog 46 := enters Try.func46 (by kernel_rfl) rfl
theorem en74 : Enters Try.prog 74 := enters Try.func74 (by kernel_rfl) rfl
theorem fa24_0 : FieldAt Try.prog 24 0 0 := field_at (sz := 0) Try.underlying24 rfl (by kernel_rfl) rfl
theorem fa24_1 : FieldAt Try.prog 24 1 1 := field_at (sz := 0) Try.underlying24 rfl (by kernel_rfl) rfl
theorem fa24_2 : FieldAt Try.prog 24 2 2 := field_at (sz := 0) Try.underlying24 rfl (by kernel_rfl) rfl
theorem fa24_3 : FieldAt Try.prog 24 3 3 := field_at (sz := 0) Try.underlying24 rfl (by kernel_rfl) rfl
theorem fa85_1 : FieldAt Try.prog 85 1 1 := field_at (sz := 0) Try.underlying85 rfl (by kernel_rfl) rfl
theorem fa85_2 : FieldAt Try.prog 85 2 2 := field_at (sz := 0) Try.underlying85 rfl (by kernel_rfl) rfl
theorem mixed : Try.prog.follows .mixedOrders = true := by kernel_rfl
theorem one22 : One Try.prog 22 := one_of Try.underlying22 rfl (by kernel_rfl)
theorem one3 : One Try.prog 3 := one_of Try.underlying3 rfl (by kernel_rfl)
theorem one9 : One Try.prog 9 := one_of Try.underlying9 rfl (by kernel_rfl)
theorem sz24 : ∀ W, (sizeOf 24).run Try.prog W = .ok 4 W := size_of (by kernel_rfl)
theorem sz85 : ∀ W, (sizeOf 85).run Try.prog W = .ok 3 W := size_of (by kernel_rfl)

def wP (src : ByteArray) (toks : List Tk) (q : Int) (x : NdP) (k : Nat) : Prop := (q = 1 → rowP src toks x k) ∧ (q = 2 → namP x k) ∧ (q = 3 → lonP toks x k)
def WrongOk (src : ByteArray) (toks : List Tk) (q : Int) (t : Nd) : Prop := ∀ (w : World) (A B : Option Addr) (k kt : Nat) (hT : Rd fTk.kn w A toks) (hr : Rd (kTr fNd) w B t.kids) (hf : t.All smallN) (hq : q = 1 ∨ ((q = 2 ∨ q = 3) ∧ t.All (rowP src toks))), Calls Try.prog 46 #[.agg #[.int .i64 t.x.kind, .string t.x.name, .int .i64 t.x.tok, .slice B t.kids.length k], .string src, .slice A toks.length kt, .int .i64 q] w fun e w' => ∃ v, e = .returned v ∧ v = .bool (dec (¬ t.All (wP src toks q))) ∧ Holds w [] w'

set_option maxHeartbeats 6400000 in
set_option maxRecDepth 100000 in
theorem wrong_step {src : ByteArray} {toks : List Tk} {q : Int} {t : Nd} {w : World} {A B : Option Addr} {k kt : Nat} (hss : src.size ≤ 1099511627776) (htl : toks.length ≤ 1099511627776) (hT : Rd fTk.kn w A toks) (hr : Rd (kTr fNd) w B t.kids) (hf : t.All smallN) (hq : q = 1 ∨ ((q = 2 ∨ q = 3) ∧ t.All (rowP src toks))) (ih : ∀ t' ∈ t.kids, WrongOk src toks q t') : Calls Try.prog 46 #[.agg #[.int .i64 t.x.kind, .string t.x.name, .int .i64 t.x.tok, .slice B t.kids.length k], .string src, .slice A toks.length kt, .int .i64 q] w fun e w' => ∃ v, e = .returned v ∧ v = .bool (dec (¬ t.All (wP src toks q))) ∧ Holds w [] w' := by
  obtain ⟨⟨hsz, hkk⟩, hks⟩ := (Tr.All_eq t).1 hf
  have hrw : q = 1 ∨ rowP src toks t.x t.kids.length := hq.elim .inl fun h => .inr ((Tr.All_eq t).1 h.2).1
  have hq3 : q = 1 ∨ q = 2 ∨ q = 3 := hq.elim .inl fun h => .inr h.1
  have hkq : ∀ t' ∈ t.kids, q = 1 ∨ ((q = 2 ∨ q = 3) ∧ t'.All (rowP src toks)) := fun t' ht' => hq.elim .inl fun h => .inr ⟨h.1, (Tr.Alls_iff _).1 ((Tr.All_eq t).1 h.2).2 t' ht'⟩
  refine calls_of Try.func46 rfl Try.ntmps46 rfl ?_
  have H := Holds.start w
  refine wcR ?_
  refine wl_box (cs := [_, _, _, _]) H rfl rfl rfl ?_
  intro b4 w1 hb4 H2
  refine wA ?_
  refine wl_nil ?_
  refine wcR ?_
  refine wA ?_
  refine wl_nil ?_
  refine wc_cut (σ := Bool) (fun z => [(1, .string src), (2, .slice A toks.length kt), (3, .int .i64 q), (4, .pointer (some ⟨b4, 0, none⟩)), (9, .bool z)]) (fun z W => z = dec (¬ wP src toks q t.x t.kids.length) ∧ Holds w [Blk b4 24 [.int .i64 t.x.kind, .string t.x.name, .int .i64 t.x.tok, .slice B t.kids.length k]] W) ?_ ?_
  rotate_left
  ·rintro z0 Wm ⟨hz, H⟩
   refine wc_seq ?_
   refine wcR ?_
   refine wA ?_
   refine wl_nil ?_
   refine wc_block ?_
   refine wc_loop (σ := Nat × Bool) (fun z => [(1, .string src), (2, .slice A toks.length kt), (3, .int .i64 q), (4, .pointer (some ⟨b4, 0, none⟩)), (9, .bool z.2), (10, .int .i64 z.1)]) (fun z W => (z.1 ≤ t.kids.length ∧ (z.2 = false → wP src toks q t.x t.kids.length ∧ ∀ j, j < z.1 → (t.kids.getD j nd0).All (wP src toks q)) ∧ (z.2 = true → ¬ t.All (wP src toks q))) ∧ Holds w [Blk b4 24 [.int .i64 t.x.kind, .string t.x.name, .int .i64 t.x.tok, .slice B t.kids.length k]] W) (fun z => t.kids.length - z.1) (0, z0) (sc rfl (sc rfl (sc rfl (sc rfl (sc rfl (sc rfl (sn _))))))) ⟨⟨Nat.zero_le _, fun h => ⟨Classical.byContradiction fun h_ => of_ndec (hz.symm.trans h) h_, upto0⟩, fun h hh => of_dec (hz.symm.trans h) ((Tr.All_eq t).1 hh).1⟩, H⟩ ?_
   rintro ⟨i, z1⟩ W0 ⟨⟨hi, hz1, hz2⟩, H⟩
   dsimp only at hi hz1 hz2 H ⊢
   refine wc_seq ?_
   refine wcR ?_
   refine wM ?_
   refine wV (v_fb (o2 := 3) fa24_3 rfl rfl) ?_
   refine wV (v_load one22 rfl (H.at (by repeat constructor) rfl)) ?_
   refine wV (v_len Try.underlying22 rfl) ?_
   refine wV (v_lss rfl rfl) ?_
   refine wM ?_
   refine wl_guard rfl rfl rfl (fun g109 => ?_) (fun g109 => ?_)
   rotate_left
   ·have g109p := oF g109
    refine wF g109 ?_
    refine wV (v_pick_f rfl g109 rfl) ?_
    refine wl_nil ?_
    refine wc_cond_f rfl ?_
    refine wc_exit ?_
    refine wcR ?_
    refine wM ?_
    refine wA ?_
    refine wl_nil ?_
    refine wc_ret ?_
    rcases Bool.eq_false_or_eq_true z1 with hb_ | hb_
    · exact ⟨_, res1 rfl rfl, by rw [dec_t (hz2 hb_), hb_], H.pm (by repeat (first | exact Pm.nil _ | constructor))⟩
    · exact ⟨_, res1 rfl rfl, by (rw [hb_, dec_f fun hh => hh ((Tr.All_eq t).2 ⟨(hz1 hb_).1, (Tr.Alls_iff _).2 fun t' ht' => by
        obtain ⟨j, hj, rfl⟩ := List.mem_iff_getElem.1 ht'
        have h2 := (hz1 hb_).2 j (by first | omega | exact Bool.noConfusion (hb_.symm.trans (of_n_f c5)))
        rwa [List.getD_eq_getElem?_getD, List.getElem?_eq_getElem hj] at h2⟩)]), H.pm (by repeat (first | exact Pm.nil _ | constructor))⟩
   have g109p := oT g109
   have hin : i < t.kids.length := by omega
   refine wM ?_
   refine wO g109 ?_
   refine wV (v_not rfl) ?_
   refine wV (v_pick_t rfl g109 rfl) ?_
   refine wl_nil ?_
   refine wc_cond rfl (fun c5 => ?_) (fun c5 => ?_)
   rotate_left
   ·have c5p := of_n_f c5
    refine wc_exit ?_
    refine wcR ?_
    refine wM ?_
    refine wA ?_
    refine wl_nil ?_
    refine wc_ret ?_
    rcases Bool.eq_false_or_eq_true z1 with hb_ | hb_
    · exact ⟨_, res1 rfl rfl, by rw [dec_t (hz2 hb_), hb_], H.pm (by repeat (first | exact Pm.nil _ | constructor))⟩
    · exact ⟨_, res1 rfl rfl, by (rw [hb_, dec_f fun hh => hh ((Tr.All_eq t).2 ⟨(hz1 hb_).1, (Tr.Alls_iff _).2 fun t' ht' => by
        obtain ⟨j, hj, rfl⟩ := List.mem_iff_getElem.1 ht'
        have h2 := (hz1 hb_).2 j (by first | omega | exact Bool.noConfusion (hb_.symm.trans (of_n_f c5)))
        rwa [List.getD_eq_getElem?_getD, List.getElem?_eq_getElem hj] at h2⟩)]), H.pm (by repeat (first | exact Pm.nil _ | constructor))⟩
   have c5p := of_n_t c5
   refine wc_skip ?_
   refine wc_seq ?_
   refine wc_block ?_
   refine wc_region ?_
   refine wV (v_fb (o2 := 3) fa24_3 rfl rfl) ?_
   refine wV (v_load one22 rfl (H.at (by repeat constructor) rfl)) ?_
   refine wM ?_
   refine wV (v_idx Try.underlying22 sz24 hr.ad rfl rfl (by omega) (by omega)) ?_
   obtain ⟨B119_, k119_, hc119_, hl119_, hr119_⟩ := hr.atTr nd0 (i := i) (by omega)
   refine wV (v_loadN (cs := [.int .i64 (t.kids.getD i nd0).x.kind, .string (t.kids.getD i nd0).x.name, .int .i64 (t.kids.getD i nd0).x.tok, .slice B119_ (t.kids.getD i nd0).kids.length k119_]) agg24 rfl rfl (fun q_ u_ hu_ => H.cell (hc119_ q_ u_ hu_))) ?_
   refine wM ?_
   refine wM ?_
   refine wM ?_
   refine wl_call en46 rfl rfl (ih _ (getD_mem (z := nd0) hin) _ A _ _ kt (hT.below H.old) (hr119_.below H.old) (Tr.Alls_at nd0 hin hks) (hkq _ (getD_mem hin))) ?_
   rintro _ w6 ⟨rfl, Hc⟩
   have H7 := H.call0 Hc
   refine wA ?_
   refine wl_nil ?_
   refine wc_region ?_
   refine wM ?_
   refine wV (v_addi rfl rfl (by omega)) ?_
   refine wA ?_
   refine wl_nil ?_
   exact ⟨(i + 1, _), (sc rfl (sc rfl (sc rfl (sc rfl (sc rfl (sc rfl (sn _))))))), ⟨⟨by dsimp only; omega, fun h => ⟨(hz1 (of_n_t c5)).1, uptoS (hz1 (of_n_t c5)).2 (Classical.byContradiction fun h_ => of_ndec h h_)⟩, fun h hh => of_dec h (Tr.Alls_at nd0 hin ((Tr.All_eq t).1 hh).2)⟩, H7.pm (by repeat (first | exact Pm.nil _ | constructor))⟩, by dsimp only; omega⟩
  refine wcR ?_
  refine wV (v_fb (o2 := 0) fa24_0 rfl rfl) ?_
  refine wV (v_load one3 rfl (H2.at (by repeat constructor) rfl)) ?_
  refine wl_nil ?_
  refine wc_block ?_
  refine wcR ?_
  refine wV (v_eql rfl rfl) ?_
  refine wA ?_
  refine wl_nil ?_
  refine wc_cond rfl (fun c0 => ?_) (fun c0 => ?_)
  rotate_left
  ·have c0p := oF c0
   refine wcR ?_
   refine wV (v_eql rfl rfl) ?_
   refine wA ?_
   refine wl_nil ?_
   refine wc_cond rfl (fun c2 => ?_) (fun c2 => ?_)
   ·have c2p := oT c2
    refine wc_region ?_
    refine wM ?_
    refine wV (v_eql rfl rfl) ?_
    refine wM ?_
    refine wl_guard rfl rfl rfl (fun g86 => ?_) (fun g86 => ?_)
    rotate_left
    ·have g86p := oF g86
     refine wF g86 ?_
     refine wF g86 ?_
     refine wF g86 ?_
     refine wV (v_pick_f rfl g86 rfl) ?_
     refine wA ?_
     refine wl_nil ?_
     first
       | exact ⟨_, (sc rfl (sc rfl (sc rfl (sc rfl (sc rfl (sn _)))))), ⟨(dec_f fun hh => hh ⟨fun e1 e2 => by omega, fun e1 => ⟨by omega, fun e2 => by omega⟩, fun e1 => ⟨fun e2 => by omega, fun e2 => by omega⟩⟩).symm, H2.pm (by repeat (first | exact Pm.nil _ | constructor))⟩⟩
       | (have q_ := g66p
          exact ⟨_, (sc rfl (sc rfl (sc rfl (sc rfl (sc rfl (sn _)))))), ⟨dec_eq ⟨fun hd hh => (by have e_ := oT hd; have h_ := (hh.2.2 g66p).1 c0p; omega), fun hh => decide_eq_true (Classical.byContradiction fun h_ => hh ⟨fun e1 => by omega, fun e1 => by omega, fun e1 => ⟨fun e2 => by omega, fun e2 => by omega⟩⟩)⟩, H2.pm (by repeat (first | exact Pm.nil _ | constructor))⟩⟩)
       | (have q_ := g86p
          exact ⟨_, (sc rfl (sc rfl (sc rfl (sc rfl (sc rfl (sn _)))))), ⟨dec_eq ⟨fun hd hh => (by have e_ := oT hd; have h_ := (hh.2.2 g86p).2 c2p; omega), fun hh => decide_eq_true (Classical.byContradiction fun h_ => hh ⟨fun e1 => by omega, fun e1 => by omega, fun e1 => ⟨fun e2 => by omega, fun e2 => by omega⟩⟩)⟩, H2.pm (by repeat (first | exact Pm.nil _ | constructor))⟩⟩)
       | (have q_ := g96p
          exact ⟨_, (sc rfl (sc rfl (sc rfl (sc rfl (sc rfl (sn _)))))), ⟨dec_eq ⟨fun hd hh => of_ndec (of_n_t hd) ((hh.2.1 g96p).2 c3p), fun hh => (by
            cases h_ : dec (NameOk 32 t.x.name)
            · rfl
            · exact absurd ⟨fun e1 => by omega, fun e1 => ⟨by omega, fun e2 => of_dec h_⟩, fun e1 => by omega⟩ hh)⟩, H2.pm (by repeat (first | exact Pm.nil _ | constructor))⟩⟩)
       | (have q_ := c0p
          exact ⟨_, (sc rfl (sc rfl (sc rfl (sc rfl (sc rfl (sn _)))))), ⟨dec_eq ⟨fun hd hh => (by have e_ := oT hd; have h_ := hh.1 e_ c0p; omega), fun hh => decide_eq_true (hrw.elim id fun e_ => absurd (e_ c0p) (by omega))⟩, H2.pm (by repeat (first | exact Pm.nil _ | constructor))⟩⟩)
       | exact ⟨_, (sc rfl (sc rfl (sc rfl (sc rfl (sc rfl (sn _)))))), ⟨dec_eq ⟨fun hd hh => (by have e_ := oT hd; have h_ := (hh.2.1 e_).1; omega), fun hh => decide_eq_true (Classical.byContradiction fun h_ => hh ⟨fun e1 e2 => by omega, fun e1 => by omega, fun e1 => ⟨fun e2 => by omega, fun e2 => by omega⟩⟩)⟩, H2.pm (by repeat (first | exact Pm.nil _ | constructor))⟩⟩
    have g86p := oT g86
    refine wV (v_fb (o2 := 1) fa24_1 rfl rfl) ?_
    refine wO g86 ?_
    refine wV (v_load one9 rfl (H2.at (by repeat constructor) rfl)) ?_
    refine wO g86 ?_
    refine wV (v_lens Try.underlying9 rfl) ?_
    refine wO g86 ?_
    refine wV (v_gtr rfl rfl) ?_
    refine wV (v_pick_t rfl g86 rfl) ?_
    refine wA ?_
    refine wl_nil ?_
    first
      | exact ⟨_, (sc rfl (sc rfl (sc rfl (sc rfl (sc rfl (sn _)))))), ⟨(dec_f fun hh => hh ⟨fun e1 e2 => by omega, fun e1 => ⟨by omega, fun e2 => by omega⟩, fun e1 => ⟨fun e2 => by omega, fun e2 => by omega⟩⟩).symm, H2.pm (by repeat (first | exact Pm.nil _ | constructor))⟩⟩
      | (have q_ := g66p
         exact ⟨_, (sc rfl (sc rfl (sc rfl (sc rfl (sc rfl (sn _)))))), ⟨dec_eq ⟨fun hd hh => (by have e_ := oT hd; have h_ := (hh.2.2 g66p).1 c0p; omega), fun hh => decide_eq_true (Classical.byContradiction fun h_ => hh ⟨fun e1 => by omega, fun e1 => by omega, fun e1 => ⟨fun e2 => by omega, fun e2 => by omega⟩⟩)⟩, H2.pm (by repeat (first | exact Pm.nil _ | constructor))⟩⟩)
      | (have q_ := g86p
         exact ⟨_, (sc rfl (sc rfl (sc rfl (sc rfl (sc rfl (sn _)))))), ⟨dec_eq ⟨fun hd hh => (by have e_ := oT hd; have h_ := (hh.2.2 g86p).2 c2p; omega), fun hh => decide_eq_true (Classical.byContradiction fun h_ => hh ⟨fun e1 => by omega, fun e1 => by omega, fun e1 => ⟨fun e2 => by omega, fun e2 => by omega⟩⟩)⟩, H2.pm (by repeat (first | exact Pm.nil _ | constructor))⟩⟩)
      | (have q_ := g96p
         exact ⟨_, (sc rfl (sc rfl (sc rfl (sc rfl (sc rfl (sn _)))))), ⟨dec_eq ⟨fun hd hh => of_ndec (of_n_t hd) ((hh.2.1 g96p).2 c3p), fun hh => (by
           cases h_ : dec (NameOk 32 t.x.name)
           · rfl
           · exact absurd ⟨fun e1 => by omega, fun e1 => ⟨by omega, fun e2 => of_dec h_⟩, fun e1 => by omega⟩ hh)⟩, H2.pm (by repeat (first | exact Pm.nil _ | constructor))⟩⟩)
      | (have q_ := c0p
         exact ⟨_, (sc rfl (sc rfl (sc rfl (sc rfl (sc rfl (sn _)))))), ⟨dec_eq ⟨fun hd hh => (by have e_ := oT hd; have h_ := hh.1 e_ c0p; omega), fun hh => decide_eq_true (hrw.elim id fun e_ => absurd (e_ c0p) (by omega))⟩, H2.pm (by repeat (first | exact Pm.nil _ | constructor))⟩⟩)
      | exact ⟨_, (sc rfl (sc rfl (sc rfl (sc rfl (sc rfl (sn _)))))), ⟨dec_eq ⟨fun hd hh => (by have e_ := oT hd; have h_ := (hh.2.1 e_).1; omega), fun hh => decide_eq_true (Classical.byContradiction fun h_ => hh ⟨fun e1 e2 => by omega, fun e1 => by omega, fun e1 => ⟨fun e2 => by omega, fun e2 => by omega⟩⟩)⟩, H2.pm (by repeat (first | exact Pm.nil _ | constructor))⟩⟩
   have c2p := oF c2
   refine wcR ?_
   refine wV (v_eql rfl rfl) ?_
   refine wA ?_
   refine wl_nil ?_
   refine wc_cond rfl (fun c3 => ?_) (fun c3 => ?_)
   rotate_left
   ·have c3p := oF c3
    refine wcR ?_
    refine wV (v_eql rfl rfl) ?_
    refine wA ?_
    refine wl_nil ?_
    refine wc_cond rfl (fun c4 => ?_) (fun c4 => ?_)
    ·have c4p := oT c4
     refine wc_skip ?_
     first
       | exact ⟨_, (sc rfl (sc rfl (sc rfl (sc rfl (sc rfl (sn _)))))), ⟨(dec_f fun hh => hh ⟨fun e1 e2 => by omega, fun e1 => ⟨by omega, fun e2 => by omega⟩, fun e1 => ⟨fun e2 => by omega, fun e2 => by omega⟩⟩).symm, H2.pm (by repeat (first | exact Pm.nil _ | constructor))⟩⟩
       | (have q_ := g66p
          exact ⟨_, (sc rfl (sc rfl (sc rfl (sc rfl (sc rfl (sn _)))))), ⟨dec_eq ⟨fun hd hh => (by have e_ := oT hd; have h_ := (hh.2.2 g66p).1 c0p; omega), fun hh => decide_eq_true (Classical.byContradiction fun h_ => hh ⟨fun e1 => by omega, fun e1 => by omega, fun e1 => ⟨fun e2 => by omega, fun e2 => by omega⟩⟩)⟩, H2.pm (by repeat (first | exact Pm.nil _ | constructor))⟩⟩)
       | (have q_ := g86p
          exact ⟨_, (sc rfl (sc rfl (sc rfl (sc rfl (sc rfl (sn _)))))), ⟨dec_eq ⟨fun hd hh => (by have e_ := oT hd; have h_ := (hh.2.2 g86p).2 c2p; omega), fun hh => decide_eq_true (Classical.byContradiction fun h_ => hh ⟨fun e1 => by omega, fun e1 => by omega, fun e1 => ⟨fun e2 => by omega, fun e2 => by omega⟩⟩)⟩, H2.pm (by repeat (first | exact Pm.nil _ | constructor))⟩⟩)
       | (have q_ := g96p
          exact ⟨_, (sc rfl (sc rfl (sc rfl (sc rfl (sc rfl (sn _)))))), ⟨dec_eq ⟨fun hd hh => of_ndec (of_n_t hd) ((hh.2.1 g96p).2 c3p), fun hh => (by
            cases h_ : dec (NameOk 32 t.x.name)
            · rfl
            · exact absurd ⟨fun e1 => by omega, fun e1 => ⟨by omega, fun e2 => of_dec h_⟩, fun e1 => by omega⟩ hh)⟩, H2.pm (by repeat (first | exact Pm.nil _ | constructor))⟩⟩)
       | (have q_ := c0p
          exact ⟨_, (sc rfl (sc rfl (sc rfl (sc rfl (sc rfl (sn _)))))), ⟨dec_eq ⟨fun hd hh => (by have e_ := oT hd; have h_ := hh.1 e_ c0p; omega), fun hh => decide_eq_true (hrw.elim id fun e_ => absurd (e_ c0p) (by omega))⟩, H2.pm (by repeat (first | exact Pm.nil _ | constructor))⟩⟩)
       | exact ⟨_, (sc rfl (sc rfl (sc rfl (sc rfl (sc rfl (sn _)))))), ⟨dec_eq ⟨fun hd hh => (by have e_ := oT hd; have h_ := (hh.2.1 e_).1; omega), fun hh => decide_eq_true (Classical.byContradiction fun h_ => hh ⟨fun e1 e2 => by omega, fun e1 => by omega, fun e1 => ⟨fun e2 => by omega, fun e2 => by omega⟩⟩)⟩, H2.pm (by repeat (first | exact Pm.nil _ | constructor))⟩⟩
    have c4p := oF c4
    refine wc_region ?_
    refine wM ?_
    refine wV (v_eql rfl rfl) ?_
    refine wA ?_
    refine wl_nil ?_
    first
      | exact ⟨_, (sc rfl (sc rfl (sc rfl (sc rfl (sc rfl (sn _)))))), ⟨(dec_f fun hh => hh ⟨fun e1 e2 => by omega, fun e1 => ⟨by omega, fun e2 => by omega⟩, fun e1 => ⟨fun e2 => by omega, fun e2 => by omega⟩⟩).symm, H2.pm (by repeat (first | exact Pm.nil _ | constructor))⟩⟩
      | (have q_ := g66p
         exact ⟨_, (sc rfl (sc rfl (sc rfl (sc rfl (sc rfl (sn _)))))), ⟨dec_eq ⟨fun hd hh => (by have e_ := oT hd; have h_ := (hh.2.2 g66p).1 c0p; omega), fun hh => decide_eq_true (Classical.byContradiction fun h_ => hh ⟨fun e1 => by omega, fun e1 => by omega, fun e1 => ⟨fun e2 => by omega, fun e2 => by omega⟩⟩)⟩, H2.pm (by repeat (first | exact Pm.nil _ | constructor))⟩⟩)
      | (have q_ := g86p
         exact ⟨_, (sc rfl (sc rfl (sc rfl (sc rfl (sc rfl (sn _)))))), ⟨dec_eq ⟨fun hd hh => (by have e_ := oT hd; have h_ := (hh.2.2 g86p).2 c2p; omega), fun hh => decide_eq_true (Classical.byContradiction fun h_ => hh ⟨fun e1 => by omega, fun e1 => by omega, fun e1 => ⟨fun e2 => by omega, fun e2 => by omega⟩⟩)⟩, H2.pm (by repeat (first | exact Pm.nil _ | constructor))⟩⟩)
      | (have q_ := g96p
         exact ⟨_, (sc rfl (sc rfl (sc rfl (sc rfl (sc rfl (sn _)))))), ⟨dec_eq ⟨fun hd hh => of_ndec (of_n_t hd) ((hh.2.1 g96p).2 c3p), fun hh => (by
           cases h_ : dec (NameOk 32 t.x.name)
           · rfl
           · exact absurd ⟨fun e1 => by omega, fun e1 => ⟨by omega, fun e2 => of_dec h_⟩, fun e1 => by omega⟩ hh)⟩, H2.pm (by repeat (first | exact Pm.nil _ | constructor))⟩⟩)
      | (have q_ := c0p
         exact ⟨_, (sc rfl (sc rfl (sc rfl (sc rfl (sc rfl (sn _)))))), ⟨dec_eq ⟨fun hd hh => (by have e_ := oT hd; have h_ := hh.1 e_ c0p; omega), fun hh => decide_eq_true (hrw.elim id fun e_ => absurd (e_ c0p) (by omega))⟩, H2.pm (by repeat (first | exact Pm.nil _ | constructor))⟩⟩)
      | exact ⟨_, (sc rfl (sc rfl (sc rfl (sc rfl (sc rfl (sn _)))))), ⟨dec_eq ⟨fun hd hh => (by have e_ := oT hd; have h_ := (hh.2.1 e_).1; omega), fun hh => decide_eq_true (Classical.byContradiction fun h_ => hh ⟨fun e1 e2 => by omega, fun e1 => by omega, fun e1 => ⟨fun e2 => by omega, fun e2 => by omega⟩⟩)⟩, H2.pm (by repeat (first | exact Pm.nil _ | constructor))⟩⟩
   have c3p := oT c3
   refine wc_region ?_
   refine wM ?_
   refine wV (v_eql rfl rfl) ?_
   refine wM ?_
   refine wl_guard rfl rfl rfl (fun g96 => ?_) (fun g96 => ?_)
   rotate_left
   ·have g96p := oF g96
    refine wF g96 ?_
    refine wF g96 ?_
    refine wF g96 ?_
    refine wV (v_pick_f rfl g96 rfl) ?_
    refine wA ?_
    refine wl_nil ?_
    first
      | exact ⟨_, (sc rfl (sc rfl (sc rfl (sc rfl (sc rfl (sn _)))))), ⟨(dec_f fun hh => hh ⟨fun e1 e2 => by omega, fun e1 => ⟨by omega, fun e2 => by omega⟩, fun e1 => ⟨fun e2 => by omega, fun e2 => by omega⟩⟩).symm, H2.pm (by repeat (first | exact Pm.nil _ | constructor))⟩⟩
      | (have q_ := g66p
         exact ⟨_, (sc rfl (sc rfl (sc rfl (sc rfl (sc rfl (sn _)))))), ⟨dec_eq ⟨fun hd hh => (by have e_ := oT hd; have h_ := (hh.2.2 g66p).1 c0p; omega), fun hh => decide_eq_true (Classical.byContradiction fun h_ => hh ⟨fun e1 => by omega, fun e1 => by omega, fun e1 => ⟨fun e2 => by omega, fun e2 => by omega⟩⟩)⟩, H2.pm (by repeat (first | exact Pm.nil _ | constructor))⟩⟩)
      | (have q_ := g86p
         exact ⟨_, (sc rfl (sc rfl (sc rfl (sc rfl (sc rfl (sn _)))))), ⟨dec_eq ⟨fun hd hh => (by have e_ := oT hd; have h_ := (hh.2.2 g86p).2 c2p; omega), fun hh => decide_eq_true (Classical.byContradiction fun h_ => hh ⟨fun e1 => by omega, fun e1 => by omega, fun e1 => ⟨fun e2 => by omega, fun e2 => by omega⟩⟩)⟩, H2.pm (by repeat (first | exact Pm.nil _ | constructor))⟩⟩)
      | (have q_ := g96p
         exact ⟨_, (sc rfl (sc rfl (sc rfl (sc rfl (sc rfl (sn _)))))), ⟨dec_eq ⟨fun hd hh => of_ndec (of_n_t hd) ((hh.2.1 g96p).2 c3p), fun hh => (by
           cases h_ : dec (NameOk 32 t.x.name)
           · rfl
           · exact absurd ⟨fun e1 => by omega, fun e1 => ⟨by omega, fun e2 => of_dec h_⟩, fun e1 => by omega⟩ hh)⟩, H2.pm (by repeat (first | exact Pm.nil _ | constructor))⟩⟩)
      | (have q_ := c0p
         exact ⟨_, (sc rfl (sc rfl (sc rfl (sc rfl (sc rfl (sn _)))))), ⟨dec_eq ⟨fun hd hh => (by have e_ := oT hd; have h_ := hh.1 e_ c0p; omega), fun hh => decide_eq_true (hrw.elim id fun e_ => absurd (e_ c0p) (by omega))⟩, H2.pm (by repeat (first | exact Pm.nil _ | constructor))⟩⟩)
      | exact ⟨_, (sc rfl (sc rfl (sc rfl (sc rfl (sc rfl (sn _)))))), ⟨dec_eq ⟨fun hd hh => (by have e_ := oT hd; have h_ := (hh.2.1 e_).1; omega), fun hh => decide_eq_true (Classical.byContradiction fun h_ => hh ⟨fun e1 e2 => by omega, fun e1 => by omega, fun e1 => ⟨fun e2 => by omega, fun e2 => by omega⟩⟩)⟩, H2.pm (by repeat (first | exact Pm.nil _ | constructor))⟩⟩
   have g96p := oT g96
   refine wV (v_fb (o2 := 1) fa24_1 rfl rfl) ?_
   refine wO g96 ?_
   refine wV (v_load one9 rfl (H2.at (by repeat constructor) rfl)) ?_
   refine wO g96 ?_
   refine wl_call en74 rfl rfl (rword_calls hsz) ?_
   rintro _ w3 ⟨rfl, Hc⟩
   have H4 := H2.call0 Hc
   refine wO g96 ?_
   refine wV (v_not rfl) ?_
   refine wV (v_pick_t rfl g96 rfl) ?_
   refine wA ?_
   refine wl_nil ?_
   first
     | exact ⟨_, (sc rfl (sc rfl (sc rfl (sc rfl (sc rfl (sn _)))))), ⟨(dec_f fun hh => hh ⟨fun e1 e2 => by omega, fun e1 => ⟨by omega, fun e2 => by omega⟩, fun e1 => ⟨fun e2 => by omega, fun e2 => by omega⟩⟩).symm, H4.pm (by repeat (first | exact Pm.nil _ | constructor))⟩⟩
     | (have q_ := g66p
        exact ⟨_, (sc rfl (sc rfl (sc rfl (sc rfl (sc rfl (sn _)))))), ⟨dec_eq ⟨fun hd hh => (by have e_ := oT hd; have h_ := (hh.2.2 g66p).1 c0p; omega), fun hh => decide_eq_true (Classical.byContradiction fun h_ => hh ⟨fun e1 => by omega, fun e1 => by omega, fun e1 => ⟨fun e2 => by omega, fun e2 => by omega⟩⟩)⟩, H4.pm (by repeat (first | exact Pm.nil _ | constructor))⟩⟩)
     | (have q_ := g86p
        exact ⟨_, (sc rfl (sc rfl (sc rfl (sc rfl (sc rfl (sn _)))))), ⟨dec_eq ⟨fun hd hh => (by have e_ := oT hd; have h_ := (hh.2.2 g86p).2 c2p; omega), fun hh => decide_eq_true (Classical.byContradiction fun h_ => hh ⟨fun e1 => by omega, fun e1 => by omega, fun e1 => ⟨fun e2 => by omega, fun e2 => by omega⟩⟩)⟩, H4.pm (by repeat (first | exact Pm.nil _ | constructor))⟩⟩)
     | (have q_ := g96p
        exact ⟨_, (sc rfl (sc rfl (sc rfl (sc rfl (sc rfl (sn _)))))), ⟨dec_eq ⟨fun hd hh => of_ndec (of_n_t hd) ((hh.2.1 g96p).2 c3p), fun hh => (by
          cases h_ : dec (NameOk 32 t.x.name)
          · rfl
          · exact absurd ⟨fun e1 => by omega, fun e1 => ⟨by omega, fun e2 => of_dec h_⟩, fun e1 => by omega⟩ hh)⟩, H4.pm (by repeat (first | exact Pm.nil _ | constructor))⟩⟩)
     | (have q_ := c0p
        exact ⟨_, (sc rfl (sc rfl (sc rfl (sc rfl (sc rfl (sn _)))))), ⟨dec_eq ⟨fun hd hh => (by have e_ := oT hd; have h_ := hh.1 e_ c0p; omega), fun hh => decide_eq_true (hrw.elim id fun e_ => absurd (e_ c0p) (by omega))⟩, H4.pm (by repeat (first | exact Pm.nil _ | constructor))⟩⟩)
     | exact ⟨_, (sc rfl (sc rfl (sc rfl (sc rfl (sc rfl (sn _)))))), ⟨dec_eq ⟨fun hd hh => (by have e_ := oT hd; have h_ := (hh.2.1 e_).1; omega), fun hh => decide_eq_true (Classical.byContradiction fun h_ => hh ⟨fun e1 e2 => by omega, fun e1 => by omega, fun e1 => ⟨fun e2 => by omega, fun e2 => by omega⟩⟩)⟩, H4.pm (by repeat (first | exact Pm.nil _ | constructor))⟩⟩
  have c0p := oT c0
  refine wc_seq ?_
  refine wc_still mixed (by kernel_rfl) ?_
  have Hd := H2.drew
  refine ws_v rfl rfl rfl (v_fb (o2 := 2) fa24_2 rfl rfl) ?_
  refine ws_v rfl rfl rfl (v_load one3 rfl (Hd.at (by repeat constructor) rfl)) ?_
  refine ws_v rfl rfl rfl (v_lss rfl rfl) ?_
  refine ws_v rfl rfl rfl (v_move rfl) ?_
  refine ws_guard rfl rfl rfl (fun g20 => ?_) (fun g20 => ?_)
  rotate_left
  ·have g20p := oT g20
   refine ws_off rfl rfl g20 rfl ?_
   refine ws_off rfl rfl g20 rfl ?_
   refine ws_off rfl rfl g20 rfl ?_
   refine ws_off rfl rfl g20 rfl ?_
   refine ws_v rfl rfl rfl (v_pick_t rfl g20 rfl) ?_
   refine ws_v rfl rfl rfl (v_move rfl) ?_
   refine ws_off rfl rfl rfl rfl ?_
   refine ws_off rfl rfl rfl rfl ?_
   refine ws_off rfl rfl rfl rfl ?_
   refine ws_off rfl rfl rfl rfl ?_
   refine ws_off rfl rfl rfl rfl ?_
   refine ws_off rfl rfl rfl rfl ?_
   refine ws_off rfl rfl rfl rfl ?_
   refine ws_v rfl rfl rfl (v_pick_t rfl rfl rfl) ?_
   refine ws_v rfl rfl rfl (v_move rfl) ?_
   refine ws_off rfl rfl rfl rfl ?_
   refine ws_off rfl rfl rfl rfl ?_
   refine ws_off rfl rfl rfl rfl ?_
   refine ws_off rfl rfl rfl rfl ?_
   refine ws_off rfl rfl rfl rfl ?_
   refine ws_off rfl rfl rfl rfl ?_
   refine ws_off rfl rfl rfl rfl ?_
   refine ws_off rfl rfl rfl rfl ?_
   refine ws_off rfl rfl rfl rfl ?_
   refine ws_off rfl rfl rfl rfl ?_
   refine ws_off rfl rfl rfl rfl ?_
   refine ws_off rfl rfl rfl rfl ?_
   refine ws_off rfl rfl rfl rfl ?_
   refine ws_v rfl rfl rfl (v_pick_t rfl rfl rfl) ?_
   refine ws_v rfl rfl rfl (v_move rfl) ?_
   refine ws_off rfl rfl rfl rfl ?_
   refine ws_off rfl rfl rfl rfl ?_
   refine ws_off rfl rfl rfl rfl ?_
   refine ws_off rfl rfl rfl rfl ?_
   refine ws_off rfl rfl rfl rfl ?_
   refine ws_off rfl rfl rfl rfl ?_
   refine ws_off rfl rfl rfl rfl ?_
   refine ws_off rfl rfl rfl rfl ?_
   refine ws_off rfl rfl rfl rfl ?_
   refine ws_v rfl rfl rfl (v_pick_t rfl rfl rfl) ?_
   refine ws_nil ?_
   refine wc_cond_t rfl ?_
   refine wc_region ?_
   refine wM ?_
   refine wV (v_eql rfl rfl) ?_
   refine wA ?_
   refine wl_nil ?_
   first
     | exact ⟨_, (sc rfl (sc rfl (sc rfl (sc rfl (sc rfl (sn _)))))), ⟨(dec_f fun hh => hh ⟨fun e1 e2 => by omega, fun e1 => ⟨by omega, fun e2 => by omega⟩, fun e1 => ⟨fun e2 => by omega, fun e2 => by omega⟩⟩).symm, Hd.pm (by repeat (first | exact Pm.nil _ | constructor))⟩⟩
     | (have q_ := g66p
        exact ⟨_, (sc rfl (sc rfl (sc rfl (sc rfl (sc rfl (sn _)))))), ⟨dec_eq ⟨fun hd hh => (by have e_ := oT hd; have h_ := (hh.2.2 g66p).1 c0p; omega), fun hh => decide_eq_true (Classical.byContradiction fun h_ => hh ⟨fun e1 => by omega, fun e1 => by omega, fun e1 => ⟨fun e2 => by omega, fun e2 => by omega⟩⟩)⟩, Hd.pm (by repeat (first | exact Pm.nil _ | constructor))⟩⟩)
     | (have q_ := g86p
        exact ⟨_, (sc rfl (sc rfl (sc rfl (sc rfl (sc rfl (sn _)))))), ⟨dec_eq ⟨fun hd hh => (by have e_ := oT hd; have h_ := (hh.2.2 g86p).2 c2p; omega), fun hh => decide_eq_true (Classical.byContradiction fun h_ => hh ⟨fun e1 => by omega, fun e1 => by omega, fun e1 => ⟨fun e2 => by omega, fun e2 => by omega⟩⟩)⟩, Hd.pm (by repeat (first | exact Pm.nil _ | constructor))⟩⟩)
     | (have q_ := g96p
        exact ⟨_, (sc rfl (sc rfl (sc rfl (sc rfl (sc rfl (sn _)))))), ⟨dec_eq ⟨fun hd hh => of_ndec (of_n_t hd) ((hh.2.1 g96p).2 c3p), fun hh => (by
          cases h_ : dec (NameOk 32 t.x.name)
          · rfl
          · exact absurd ⟨fun e1 => by omega, fun e1 => ⟨by omega, fun e2 => of_dec h_⟩, fun e1 => by omega⟩ hh)⟩, Hd.pm (by repeat (first | exact Pm.nil _ | constructor))⟩⟩)
     | (have q_ := c0p
        exact ⟨_, (sc rfl (sc rfl (sc rfl (sc rfl (sc rfl (sn _)))))), ⟨dec_eq ⟨fun hd hh => (by have e_ := oT hd; have h_ := hh.1 e_ c0p; omega), fun hh => decide_eq_true (hrw.elim id fun e_ => absurd (e_ c0p) (by omega))⟩, Hd.pm (by repeat (first | exact Pm.nil _ | constructor))⟩⟩)
     | exact ⟨_, (sc rfl (sc rfl (sc rfl (sc rfl (sc rfl (sn _)))))), ⟨dec_eq ⟨fun hd hh => (by have e_ := oT hd; have h_ := (hh.2.1 e_).1; omega), fun hh => decide_eq_true (Classical.byContradiction fun h_ => hh ⟨fun e1 e2 => by omega, fun e1 => by omega, fun e1 => ⟨fun e2 => by omega, fun e2 => by omega⟩⟩)⟩, Hd.pm (by repeat (first | exact Pm.nil _ | constructor))⟩⟩
  have g20p := oF g20
  refine ws_v rfl rfl rfl (v_fb (o2 := 2) fa24_2 rfl rfl) ?_
  refine ws_on' rfl rfl g20 ?_
  refine ws_v rfl rfl rfl (v_load one3 rfl (Hd.at (by repeat constructor) rfl)) ?_
  refine ws_on' rfl rfl g20 ?_
  refine ws_v rfl rfl rfl (v_move rfl) ?_
  refine ws_on' rfl rfl g20 ?_
  refine ws_v rfl rfl rfl (v_len Try.underlying25 rfl) ?_
  refine ws_on' rfl rfl g20 ?_
  refine ws_v rfl rfl rfl (v_geq rfl rfl) ?_
  refine ws_v rfl rfl rfl (v_pick_f rfl g20 rfl) ?_
  refine ws_v rfl rfl rfl (v_move rfl) ?_
  refine ws_guard rfl rfl rfl (fun g27 => ?_) (fun g27 => ?_)
  rotate_left
  ·have g27p := oT g27
   refine ws_off rfl rfl g27 rfl ?_
   refine ws_off rfl rfl g27 rfl ?_
   refine ws_off rfl rfl g27 rfl ?_
   refine ws_off rfl rfl g27 rfl ?_
   refine ws_off rfl rfl g27 rfl ?_
   refine ws_off rfl rfl g27 rfl ?_
   refine ws_v rfl rfl rfl (v_pick_t rfl g27 rfl) ?_
   refine ws_v rfl rfl rfl (v_move rfl) ?_
   refine ws_off rfl rfl rfl rfl ?_
   refine ws_off rfl rfl rfl rfl ?_
   refine ws_off rfl rfl rfl rfl ?_
   refine ws_off rfl rfl rfl rfl ?_
   refine ws_off rfl rfl rfl rfl ?_
   refine ws_off rfl rfl rfl rfl ?_
   refine ws_off rfl rfl rfl rfl ?_
   refine ws_off rfl rfl rfl rfl ?_
   refine ws_off rfl rfl rfl rfl ?_
   refine ws_off rfl rfl rfl rfl ?_
   refine ws_off rfl rfl rfl rfl ?_
   refine ws_off rfl rfl rfl rfl ?_
   refine ws_off rfl rfl rfl rfl ?_
   refine ws_v rfl rfl rfl (v_pick_t rfl rfl rfl) ?_
   refine ws_v rfl rfl rfl (v_move rfl) ?_
   refine ws_off rfl rfl rfl rfl ?_
   refine ws_off rfl rfl rfl rfl ?_
   refine ws_off rfl rfl rfl rfl ?_
   refine ws_off rfl rfl rfl rfl ?_
   refine ws_off rfl rfl rfl rfl ?_
   refine ws_off rfl rfl rfl rfl ?_
   refine ws_off rfl rfl rfl rfl ?_
   refine ws_off rfl rfl rfl rfl ?_
   refine ws_off rfl rfl rfl rfl ?_
   refine ws_v rfl rfl rfl (v_pick_t rfl rfl rfl) ?_
   refine ws_nil ?_
   refine wc_cond_t rfl ?_
   refine wc_region ?_
   refine wM ?_
   refine wV (v_eql rfl rfl) ?_
   refine wA ?_
   refine wl_nil ?_
   first
     | exact ⟨_, (sc rfl (sc rfl (sc rfl (sc rfl (sc rfl (sn _)))))), ⟨(dec_f fun hh => hh ⟨fun e1 e2 => by omega, fun e1 => ⟨by omega, fun e2 => by omega⟩, fun e1 => ⟨fun e2 => by omega, fun e2 => by omega⟩⟩).symm, Hd.pm (by repeat (first | exact Pm.nil _ | constructor))⟩⟩
     | (have q_ := g66p
        exact ⟨_, (sc rfl (sc rfl (sc rfl (sc rfl (sc rfl (sn _)))))), ⟨dec_eq ⟨fun hd hh => (by have e_ := oT hd; have h_ := (hh.2.2 g66p).1 c0p; omega), fun hh => decide_eq_true (Classical.byContradiction fun h_ => hh ⟨fun e1 => by omega, fun e1 => by omega, fun e1 => ⟨fun e2 => by omega, fun e2 => by omega⟩⟩)⟩, Hd.pm (by repeat (first | exact Pm.nil _ | constructor))⟩⟩)
     | (have q_ := g86p
        exact ⟨_, (sc rfl (sc rfl (sc rfl (sc rfl (sc rfl (sn _)))))), ⟨dec_eq ⟨fun hd hh => (by have e_ := oT hd; have h_ := (hh.2.2 g86p).2 c2p; omega), fun hh => decide_eq_true (Classical.byContradiction fun h_ => hh ⟨fun e1 => by omega, fun e1 => by omega, fun e1 => ⟨fun e2 => by omega, fun e2 => by omega⟩⟩)⟩, Hd.pm (by repeat (first | exact Pm.nil _ | constructor))⟩⟩)
     | (have q_ := g96p
        exact ⟨_, (sc rfl (sc rfl (sc rfl (sc rfl (sc rfl (sn _)))))), ⟨dec_eq ⟨fun hd hh => of_ndec (of_n_t hd) ((hh.2.1 g96p).2 c3p), fun hh => (by
          cases h_ : dec (NameOk 32 t.x.name)
          · rfl
          · exact absurd ⟨fun e1 => by omega, fun e1 => ⟨by omega, fun e2 => of_dec h_⟩, fun e1 => by omega⟩ hh)⟩, Hd.pm (by repeat (first | exact Pm.nil _ | constructor))⟩⟩)
     | (have q_ := c0p
        exact ⟨_, (sc rfl (sc rfl (sc rfl (sc rfl (sc rfl (sn _)))))), ⟨dec_eq ⟨fun hd hh => (by have e_ := oT hd; have h_ := hh.1 e_ c0p; omega), fun hh => decide_eq_true (hrw.elim id fun e_ => absurd (e_ c0p) (by omega))⟩, Hd.pm (by repeat (first | exact Pm.nil _ | constructor))⟩⟩)
     | exact ⟨_, (sc rfl (sc rfl (sc rfl (sc rfl (sc rfl (sn _)))))), ⟨dec_eq ⟨fun hd hh => (by have e_ := oT hd; have h_ := (hh.2.1 e_).1; omega), fun hh => decide_eq_true (Classical.byContradiction fun h_ => hh ⟨fun e1 e2 => by omega, fun e1 => by omega, fun e1 => ⟨fun e2 => by omega, fun e2 => by omega⟩⟩)⟩, Hd.pm (by repeat (first | exact Pm.nil _ | constructor))⟩⟩
  have g27p := oF g27
  refine ws_v rfl rfl rfl (v_move rfl) ?_
  refine ws_on' rfl rfl g27 ?_
  refine ws_v rfl rfl rfl (v_fb (o2 := 2) fa24_2 rfl rfl) ?_
  refine ws_on' rfl rfl g27 ?_
  refine ws_v rfl rfl rfl (v_load one3 rfl (Hd.at (by repeat constructor) rfl)) ?_
  refine ws_on' rfl rfl g27 ?_
  refine ws_v rfl rfl rfl (v_idx Try.underlying25 sz85 hT.ad rfl rfl (by omega) (by omega)) ?_
  refine ws_on' rfl rfl g27 ?_
  refine ws_v rfl rfl rfl (v_fp fa85_1 rfl) ?_
  refine ws_on' rfl rfl g27 ?_
  refine ws_v rfl rfl rfl (v_load one3 rfl (Hd.cell (hT.at (k := 1) tk0 (by omega) (by omega) rfl))) ?_
  refine ws_on' rfl rfl g27 ?_
  refine ws_v rfl rfl rfl (v_lss rfl rfl) ?_
  refine ws_v rfl rfl rfl (v_pick_f rfl g27 rfl) ?_
  refine ws_v rfl rfl rfl (v_move rfl) ?_
  refine ws_guard rfl rfl rfl (fun g36 => ?_) (fun g36 => ?_)
  rotate_left
  ·have g36p := oT g36
   refine ws_off rfl rfl g36 rfl ?_
   refine ws_off rfl rfl g36 rfl ?_
   refine ws_off rfl rfl g36 rfl ?_
   refine ws_off rfl rfl g36 rfl ?_
   refine ws_off rfl rfl g36 rfl ?_
   refine ws_off rfl rfl g36 rfl ?_
   refine ws_off rfl rfl g36 rfl ?_
   refine ws_off rfl rfl g36 rfl ?_
   refine ws_off rfl rfl g36 rfl ?_
   refine ws_off rfl rfl g36 rfl ?_
   refine ws_off rfl rfl g36 rfl ?_
   refine ws_off rfl rfl g36 rfl ?_
   refine ws_v rfl rfl rfl (v_pick_t rfl g36 rfl) ?_
   refine ws_v rfl rfl rfl (v_move rfl) ?_
   refine ws_off rfl rfl rfl rfl ?_
   refine ws_off rfl rfl rfl rfl ?_
   refine ws_off rfl rfl rfl rfl ?_
   refine ws_off rfl rfl rfl rfl ?_
   refine ws_off rfl rfl rfl rfl ?_
   refine ws_off rfl rfl rfl rfl ?_
   refine ws_off rfl rfl rfl rfl ?_
   refine ws_off rfl rfl rfl rfl ?_
   refine ws_off rfl rfl rfl rfl ?_
   refine ws_v rfl rfl rfl (v_pick_t rfl rfl rfl) ?_
   refine ws_nil ?_
   refine wc_cond_t rfl ?_
   refine wc_region ?_
   refine wM ?_
   refine wV (v_eql rfl rfl) ?_
   refine wA ?_
   refine wl_nil ?_
   first
     | exact ⟨_, (sc rfl (sc rfl (sc rfl (sc rfl (sc rfl (sn _)))))), ⟨(dec_f fun hh => hh ⟨fun e1 e2 => by omega, fun e1 => ⟨by omega, fun e2 => by omega⟩, fun e1 => ⟨fun e2 => by omega, fun e2 => by omega⟩⟩).symm, Hd.pm (by repeat (first | exact Pm.nil _ | constructor))⟩⟩
     | (have q_ := g66p
        exact ⟨_, (sc rfl (sc rfl (sc rfl (sc rfl (sc rfl (sn _)))))), ⟨dec_eq ⟨fun hd hh => (by have e_ := oT hd; have h_ := (hh.2.2 g66p).1 c0p; omega), fun hh => decide_eq_true (Classical.byContradiction fun h_ => hh ⟨fun e1 => by omega, fun e1 => by omega, fun e1 => ⟨fun e2 => by omega, fun e2 => by omega⟩⟩)⟩, Hd.pm (by repeat (first | exact Pm.nil _ | constructor))⟩⟩)
     | (have q_ := g86p
        exact ⟨_, (sc rfl (sc rfl (sc rfl (sc rfl (sc rfl (sn _)))))), ⟨dec_eq ⟨fun hd hh => (by have e_ := oT hd; have h_ := (hh.2.2 g86p).2 c2p; omega), fun hh => decide_eq_true (Classical.byContradiction fun h_ => hh ⟨fun e1 => by omega, fun e1 => by omega, fun e1 => ⟨fun e2 => by omega, fun e2 => by omega⟩⟩)⟩, Hd.pm (by repeat (first | exact Pm.nil _ | constructor))⟩⟩)
     | (have q_ := g96p
        exact ⟨_, (sc rfl (sc rfl (sc rfl (sc rfl (sc rfl (sn _)))))), ⟨dec_eq ⟨fun hd hh => of_ndec (of_n_t hd) ((hh.2.1 g96p).2 c3p), fun hh => (by
          cases h_ : dec (NameOk 32 t.x.name)
          · rfl
          · exact absurd ⟨fun e1 => by omega, fun e1 => ⟨by omega, fun e2 => of_dec h_⟩, fun e1 => by omega⟩ hh)⟩, Hd.pm (by repeat (first | exact Pm.nil _ | constructor))⟩⟩)
     | (have q_ := c0p
        exact ⟨_, (sc rfl (sc rfl (sc rfl (sc rfl (sc rfl (sn _)))))), ⟨dec_eq ⟨fun hd hh => (by have e_ := oT hd; have h_ := hh.1 e_ c0p; omega), fun hh => decide_eq_true (hrw.elim id fun e_ => absurd (e_ c0p) (by omega))⟩, Hd.pm (by repeat (first | exact Pm.nil _ | constructor))⟩⟩)
     | exact ⟨_, (sc rfl (sc rfl (sc rfl (sc rfl (sc rfl (sn _)))))), ⟨dec_eq ⟨fun hd hh => (by have e_ := oT hd; have h_ := (hh.2.1 e_).1; omega), fun hh => decide_eq_true (Classical.byContradiction fun h_ => hh ⟨fun e1 e2 => by omega, fun e1 => by omega, fun e1 => ⟨fun e2 => by omega, fun e2 => by omega⟩⟩)⟩, Hd.pm (by repeat (first | exact Pm.nil _ | constructor))⟩⟩
  have g36p := oF g36
  refine ws_v rfl rfl rfl (v_move rfl) ?_
  refine ws_on' rfl rfl g36 ?_
  refine ws_v rfl rfl rfl (v_fb (o2 := 2) fa24_2 rfl rfl) ?_
  refine ws_on' rfl rfl g36 ?_
  refine ws_v rfl rfl rfl (v_load one3 rfl (Hd.at (by repeat constructor) rfl)) ?_
  refine ws_on' rfl rfl g36 ?_
  refine ws_v rfl rfl rfl (v_idx Try.underlying25 sz85 hT.ad rfl rfl (by omega) (by omega)) ?_
  refine ws_on' rfl rfl g36 ?_
  refine ws_v rfl rfl rfl (v_fp fa85_1 rfl) ?_
  refine ws_on' rfl rfl g36 ?_
  refine ws_v rfl rfl rfl (v_load one3 rfl (Hd.cell (hT.at (k := 1) tk0 (by omega) (by omega) rfl))) ?_
  refine ws_on' rfl rfl g36 ?_
  refine ws_v rfl rfl rfl (v_move rfl) ?_
  refine ws_on' rfl rfl g36 ?_
  refine ws_v rfl rfl rfl (v_fb (o2 := 2) fa24_2 rfl rfl) ?_
  refine ws_on' rfl rfl g36 ?_
  refine ws_v rfl rfl rfl (v_load one3 rfl (Hd.at (by repeat constructor) rfl)) ?_
  refine ws_on' rfl rfl g36 ?_
  refine ws_v rfl rfl rfl (v_idx Try.underlying25 sz85 hT.ad rfl rfl (by omega) (by omega)) ?_
  refine ws_on' rfl rfl g36 ?_
  refine ws_v rfl rfl rfl (v_fp fa85_2 rfl) ?_
  refine ws_on' rfl rfl g36 ?_
  refine ws_v rfl rfl rfl (v_load one3 rfl (Hd.cell (hT.at (k := 2) tk0 (by omega) (by omega) rfl))) ?_
  refine ws_on' rfl rfl g36 ?_
  refine ws_v rfl rfl rfl (v_gtr rfl rfl) ?_
  refine ws_v rfl rfl rfl (v_pick_f rfl g36 rfl) ?_
  refine ws_v rfl rfl rfl (v_move rfl) ?_
  refine ws_guard rfl rfl rfl (fun g51 => ?_) (fun g51 => ?_)
  rotate_left
  ·have g51p := oT g51
   refine ws_off rfl rfl g51 rfl ?_
   refine ws_off rfl rfl g51 rfl ?_
   refine ws_off rfl rfl g51 rfl ?_
   refine ws_off rfl rfl g51 rfl ?_
   refine ws_off rfl rfl g51 rfl ?_
   refine ws_off rfl rfl g51 rfl ?_
   refine ws_off rfl rfl g51 rfl ?_
   refine ws_off rfl rfl g51 rfl ?_
   refine ws_v rfl rfl rfl (v_pick_t rfl g51 rfl) ?_
   refine ws_nil ?_
   refine wc_cond_t rfl ?_
   refine wc_region ?_
   refine wM ?_
   refine wV (v_eql rfl rfl) ?_
   refine wA ?_
   refine wl_nil ?_
   first
     | exact ⟨_, (sc rfl (sc rfl (sc rfl (sc rfl (sc rfl (sn _)))))), ⟨(dec_f fun hh => hh ⟨fun e1 e2 => by omega, fun e1 => ⟨by omega, fun e2 => by omega⟩, fun e1 => ⟨fun e2 => by omega, fun e2 => by omega⟩⟩).symm, Hd.pm (by repeat (first | exact Pm.nil _ | constructor))⟩⟩
     | (have q_ := g66p
        exact ⟨_, (sc rfl (sc rfl (sc rfl (sc rfl (sc rfl (sn _)))))), ⟨dec_eq ⟨fun hd hh => (by have e_ := oT hd; have h_ := (hh.2.2 g66p).1 c0p; omega), fun hh => decide_eq_true (Classical.byContradiction fun h_ => hh ⟨fun e1 => by omega, fun e1 => by omega, fun e1 => ⟨fun e2 => by omega, fun e2 => by omega⟩⟩)⟩, Hd.pm (by repeat (first | exact Pm.nil _ | constructor))⟩⟩)
     | (have q_ := g86p
        exact ⟨_, (sc rfl (sc rfl (sc rfl (sc rfl (sc rfl (sn _)))))), ⟨dec_eq ⟨fun hd hh => (by have e_ := oT hd; have h_ := (hh.2.2 g86p).2 c2p; omega), fun hh => decide_eq_true (Classical.byContradiction fun h_ => hh ⟨fun e1 => by omega, fun e1 => by omega, fun e1 => ⟨fun e2 => by omega, fun e2 => by omega⟩⟩)⟩, Hd.pm (by repeat (first | exact Pm.nil _ | constructor))⟩⟩)
     | (have q_ := g96p
        exact ⟨_, (sc rfl (sc rfl (sc rfl (sc rfl (sc rfl (sn _)))))), ⟨dec_eq ⟨fun hd hh => of_ndec (of_n_t hd) ((hh.2.1 g96p).2 c3p), fun hh => (by
          cases h_ : dec (NameOk 32 t.x.name)
          · rfl
          · exact absurd ⟨fun e1 => by omega, fun e1 => ⟨by omega, fun e2 => of_dec h_⟩, fun e1 => by omega⟩ hh)⟩, Hd.pm (by repeat (first | exact Pm.nil _ | constructor))⟩⟩)
     | (have q_ := c0p
        exact ⟨_, (sc rfl (sc rfl (sc rfl (sc rfl (sc rfl (sn _)))))), ⟨dec_eq ⟨fun hd hh => (by have e_ := oT hd; have h_ := hh.1 e_ c0p; omega), fun hh => decide_eq_true (hrw.elim id fun e_ => absurd (e_ c0p) (by omega))⟩, Hd.pm (by repeat (first | exact Pm.nil _ | constructor))⟩⟩)
     | exact ⟨_, (sc rfl (sc rfl (sc rfl (sc rfl (sc rfl (sn _)))))), ⟨dec_eq ⟨fun hd hh => (by have e_ := oT hd; have h_ := (hh.2.1 e_).1; omega), fun hh => decide_eq_true (Classical.byContradiction fun h_ => hh ⟨fun e1 e2 => by omega, fun e1 => by omega, fun e1 => ⟨fun e2 => by omega, fun e2 => by omega⟩⟩)⟩, Hd.pm (by repeat (first | exact Pm.nil _ | constructor))⟩⟩
  have g51p := oF g51
  refine ws_v rfl rfl rfl (v_move rfl) ?_
  refine ws_on' rfl rfl g51 ?_
  refine ws_v rfl rfl rfl (v_fb (o2 := 2) fa24_2 rfl rfl) ?_
  refine ws_on' rfl rfl g51 ?_
  refine ws_v rfl rfl rfl (v_load one3 rfl (Hd.at (by repeat constructor) rfl)) ?_
  refine ws_on' rfl rfl g51 ?_
  refine ws_v rfl rfl rfl (v_idx Try.underlying25 sz85 hT.ad rfl rfl (by omega) (by omega)) ?_
  refine ws_on' rfl rfl g51 ?_
  refine ws_v rfl rfl rfl (v_fp fa85_2 rfl) ?_
  refine ws_on' rfl rfl g51 ?_
  refine ws_v rfl rfl rfl (v_load one3 rfl (Hd.cell (hT.at (k := 2) tk0 (by omega) (by omega) rfl))) ?_
  refine ws_on' rfl rfl g51 ?_
  refine ws_v rfl rfl rfl (v_move rfl) ?_
  refine ws_on' rfl rfl g51 ?_
  refine ws_v rfl rfl rfl (v_lens Try.underlying9 rfl) ?_
  refine ws_on' rfl rfl g51 ?_
  refine ws_v rfl rfl rfl (v_gtr rfl rfl) ?_
  refine ws_v rfl rfl rfl (v_pick_f rfl g51 rfl) ?_
  refine ws_nil ?_
  refine wc_cond rfl (fun c1 => ?_) (fun c1 => ?_)
  ·have c1p := oT c1
   refine wc_region ?_
   refine wM ?_
   refine wV (v_eql rfl rfl) ?_
   refine wA ?_
   refine wl_nil ?_
   first
     | exact ⟨_, (sc rfl (sc rfl (sc rfl (sc rfl (sc rfl (sn _)))))), ⟨(dec_f fun hh => hh ⟨fun e1 e2 => by omega, fun e1 => ⟨by omega, fun e2 => by omega⟩, fun e1 => ⟨fun e2 => by omega, fun e2 => by omega⟩⟩).symm, Hd.pm (by repeat (first | exact Pm.nil _ | constructor))⟩⟩
     | (have q_ := g66p
        exact ⟨_, (sc rfl (sc rfl (sc rfl (sc rfl (sc rfl (sn _)))))), ⟨dec_eq ⟨fun hd hh => (by have e_ := oT hd; have h_ := (hh.2.2 g66p).1 c0p; omega), fun hh => decide_eq_true (Classical.byContradiction fun h_ => hh ⟨fun e1 => by omega, fun e1 => by omega, fun e1 => ⟨fun e2 => by omega, fun e2 => by omega⟩⟩)⟩, Hd.pm (by repeat (first | exact Pm.nil _ | constructor))⟩⟩)
     | (have q_ := g86p
        exact ⟨_, (sc rfl (sc rfl (sc rfl (sc rfl (sc rfl (sn _)))))), ⟨dec_eq ⟨fun hd hh => (by have e_ := oT hd; have h_ := (hh.2.2 g86p).2 c2p; omega), fun hh => decide_eq_true (Classical.byContradiction fun h_ => hh ⟨fun e1 => by omega, fun e1 => by omega, fun e1 => ⟨fun e2 => by omega, fun e2 => by omega⟩⟩)⟩, Hd.pm (by repeat (first | exact Pm.nil _ | constructor))⟩⟩)
     | (have q_ := g96p
        exact ⟨_, (sc rfl (sc rfl (sc rfl (sc rfl (sc rfl (sn _)))))), ⟨dec_eq ⟨fun hd hh => of_ndec (of_n_t hd) ((hh.2.1 g96p).2 c3p), fun hh => (by
          cases h_ : dec (NameOk 32 t.x.name)
          · rfl
          · exact absurd ⟨fun e1 => by omega, fun e1 => ⟨by omega, fun e2 => of_dec h_⟩, fun e1 => by omega⟩ hh)⟩, Hd.pm (by repeat (first | exact Pm.nil _ | constructor))⟩⟩)
     | (have q_ := c0p
        exact ⟨_, (sc rfl (sc rfl (sc rfl (sc rfl (sc rfl (sn _)))))), ⟨dec_eq ⟨fun hd hh => (by have e_ := oT hd; have h_ := hh.1 e_ c0p; omega), fun hh => decide_eq_true (hrw.elim id fun e_ => absurd (e_ c0p) (by omega))⟩, Hd.pm (by repeat (first | exact Pm.nil _ | constructor))⟩⟩)
     | exact ⟨_, (sc rfl (sc rfl (sc rfl (sc rfl (sc rfl (sn _)))))), ⟨dec_eq ⟨fun hd hh => (by have e_ := oT hd; have h_ := (hh.2.1 e_).1; omega), fun hh => decide_eq_true (Classical.byContradiction fun h_ => hh ⟨fun e1 e2 => by omega, fun e1 => by omega, fun e1 => ⟨fun e2 => by omega, fun e2 => by omega⟩⟩)⟩, Hd.pm (by repeat (first | exact Pm.nil _ | constructor))⟩⟩
  have c1p := oF c1
  refine wc_still mixed (by kernel_rfl) ?_
  have Hd := Hd.drew
  refine ws_v rfl rfl rfl (v_move rfl) ?_
  refine ws_v rfl rfl rfl (v_eql rfl rfl) ?_
  refine ws_v rfl rfl rfl (v_move rfl) ?_
  refine ws_guard rfl rfl rfl (fun g66 => ?_) (fun g66 => ?_)
  rotate_left
  ·have g66p := oF g66
   refine ws_off rfl rfl g66 rfl ?_
   refine ws_off rfl rfl g66 rfl ?_
   refine ws_off rfl rfl g66 rfl ?_
   refine ws_off rfl rfl g66 rfl ?_
   refine ws_off rfl rfl g66 rfl ?_
   refine ws_off rfl rfl g66 rfl ?_
   refine ws_off rfl rfl g66 rfl ?_
   refine ws_off rfl rfl g66 rfl ?_
   refine ws_off rfl rfl g66 rfl ?_
   refine ws_off rfl rfl g66 rfl ?_
   refine ws_off rfl rfl g66 rfl ?_
   refine ws_off rfl rfl g66 rfl ?_
   refine ws_off rfl rfl g66 rfl ?_
   refine ws_v rfl rfl rfl (v_pick_f rfl g66 rfl) ?_
   refine ws_v rfl rfl rfl (v_assign rfl) ?_
   refine ws_nil ?_
   first
     | exact ⟨_, (sc rfl (sc rfl (sc rfl (sc rfl (sc rfl (sn _)))))), ⟨(dec_f fun hh => hh ⟨fun e1 e2 => by omega, fun e1 => ⟨by omega, fun e2 => by omega⟩, fun e1 => ⟨fun e2 => by omega, fun e2 => by omega⟩⟩).symm, Hd.pm (by repeat (first | exact Pm.nil _ | constructor))⟩⟩
     | (have q_ := g66p
        exact ⟨_, (sc rfl (sc rfl (sc rfl (sc rfl (sc rfl (sn _)))))), ⟨dec_eq ⟨fun hd hh => (by have e_ := oT hd; have h_ := (hh.2.2 g66p).1 c0p; omega), fun hh => decide_eq_true (Classical.byContradiction fun h_ => hh ⟨fun e1 => by omega, fun e1 => by omega, fun e1 => ⟨fun e2 => by omega, fun e2 => by omega⟩⟩)⟩, Hd.pm (by repeat (first | exact Pm.nil _ | constructor))⟩⟩)
     | (have q_ := g86p
        exact ⟨_, (sc rfl (sc rfl (sc rfl (sc rfl (sc rfl (sn _)))))), ⟨dec_eq ⟨fun hd hh => (by have e_ := oT hd; have h_ := (hh.2.2 g86p).2 c2p; omega), fun hh => decide_eq_true (Classical.byContradiction fun h_ => hh ⟨fun e1 => by omega, fun e1 => by omega, fun e1 => ⟨fun e2 => by omega, fun e2 => by omega⟩⟩)⟩, Hd.pm (by repeat (first | exact Pm.nil _ | constructor))⟩⟩)
     | (have q_ := g96p
        exact ⟨_, (sc rfl (sc rfl (sc rfl (sc rfl (sc rfl (sn _)))))), ⟨dec_eq ⟨fun hd hh => of_ndec (of_n_t hd) ((hh.2.1 g96p).2 c3p), fun hh => (by
          cases h_ : dec (NameOk 32 t.x.name)
          · rfl
          · exact absurd ⟨fun e1 => by omega, fun e1 => ⟨by omega, fun e2 => of_dec h_⟩, fun e1 => by omega⟩ hh)⟩, Hd.pm (by repeat (first | exact Pm.nil _ | constructor))⟩⟩)
     | (have q_ := c0p
        exact ⟨_, (sc rfl (sc rfl (sc rfl (sc rfl (sc rfl (sn _)))))), ⟨dec_eq ⟨fun hd hh => (by have e_ := oT hd; have h_ := hh.1 e_ c0p; omega), fun hh => decide_eq_true (hrw.elim id fun e_ => absurd (e_ c0p) (by omega))⟩, Hd.pm (by repeat (first | exact Pm.nil _ | constructor))⟩⟩)
     | exact ⟨_, (sc rfl (sc rfl (sc rfl (sc rfl (sc rfl (sn _)))))), ⟨dec_eq ⟨fun hd hh => (by have e_ := oT hd; have h_ := (hh.2.1 e_).1; omega), fun hh => decide_eq_true (Classical.byContradiction fun h_ => hh ⟨fun e1 e2 => by omega, fun e1 => by omega, fun e1 => ⟨fun e2 => by omega, fun e2 => by omega⟩⟩)⟩, Hd.pm (by repeat (first | exact Pm.nil _ | constructor))⟩⟩
  have g66p := oT g66
  have hrw1 := (hrw.resolve_left (by omega))
  refine ws_v rfl rfl rfl (v_move rfl) ?_
  refine ws_on' rfl rfl g66 ?_
  refine ws_v rfl rfl rfl (v_fb (o2 := 2) fa24_2 rfl rfl) ?_
  refine ws_on' rfl rfl g66 ?_
  refine ws_v rfl rfl rfl (v_load one3 rfl (Hd.at (by repeat constructor) rfl)) ?_
  refine ws_on' rfl rfl g66 ?_
  refine ws_v rfl rfl rfl (v_idx Try.underlying25 sz85 hT.ad rfl rfl (by omega) (by omega)) ?_
  refine ws_on' rfl rfl g66 ?_
  refine ws_v rfl rfl rfl (v_fp fa85_2 rfl) ?_
  refine ws_on' rfl rfl g66 ?_
  refine ws_v rfl rfl rfl (v_load one3 rfl (Hd.cell (hT.at (k := 2) tk0 (by omega) (by omega) rfl))) ?_
  refine ws_on' rfl rfl g66 ?_
  refine ws_v rfl rfl rfl (v_move rfl) ?_
  refine ws_on' rfl rfl g66 ?_
  refine ws_v rfl rfl rfl (v_fb (o2 := 2) fa24_2 rfl rfl) ?_
  refine ws_on' rfl rfl g66 ?_
  refine ws_v rfl rfl rfl (v_load one3 rfl (Hd.at (by repeat constructor) rfl)) ?_
  refine ws_on' rfl rfl g66 ?_
  refine ws_v rfl rfl rfl (v_idx Try.underlying25 sz85 hT.ad rfl rfl (by omega) (by omega)) ?_
  refine ws_on' rfl rfl g66 ?_
  refine ws_v rfl rfl rfl (v_fp fa85_1 rfl) ?_
  refine ws_on' rfl rfl g66 ?_
  refine ws_v rfl rfl rfl (v_load one3 rfl (Hd.cell (hT.at (k := 1) tk0 (by omega) (by omega) rfl))) ?_
  refine ws_on' rfl rfl g66 ?_
  refine ws_v rfl rfl rfl (v_subi rfl rfl (by omega)) ?_
  refine ws_on' rfl rfl g66 ?_
  refine ws_v rfl rfl rfl (v_gtr rfl rfl) ?_
  refine ws_v rfl rfl rfl (v_pick_t rfl g66 rfl) ?_
  refine ws_v rfl rfl rfl (v_assign rfl) ?_
  refine ws_nil ?_
  first
    | exact ⟨_, (sc rfl (sc rfl (sc rfl (sc rfl (sc rfl (sn _)))))), ⟨(dec_f fun hh => hh ⟨fun e1 e2 => by omega, fun e1 => ⟨by omega, fun e2 => by omega⟩, fun e1 => ⟨fun e2 => by omega, fun e2 => by omega⟩⟩).symm, Hd.pm (by repeat (first | exact Pm.nil _ | constructor))⟩⟩
    | (have q_ := g66p
       exact ⟨_, (sc rfl (sc rfl (sc rfl (sc rfl (sc rfl (sn _)))))), ⟨dec_eq ⟨fun hd hh => (by have e_ := oT hd; have h_ := (hh.2.2 g66p).1 c0p; omega), fun hh => decide_eq_true (Classical.byContradiction fun h_ => hh ⟨fun e1 => by omega, fun e1 => by omega, fun e1 => ⟨fun e2 => by omega, fun e2 => by omega⟩⟩)⟩, Hd.pm (by repeat (first | exact Pm.nil _ | constructor))⟩⟩)
    | (have q_ := g86p
       exact ⟨_, (sc rfl (sc rfl (sc rfl (sc rfl (sc rfl (sn _)))))), ⟨dec_eq ⟨fun hd hh => (by have e_ := oT hd; have h_ := (hh.2.2 g86p).2 c2p; omega), fun hh => decide_eq_true (Classical.byContradiction fun h_ => hh ⟨fun e1 => by omega, fun e1 => by omega, fun e1 => ⟨fun e2 => by omega, fun e2 => by omega⟩⟩)⟩, Hd.pm (by repeat (first | exact Pm.nil _ | constructor))⟩⟩)
    | (have q_ := g96p
       exact ⟨_, (sc rfl (sc rfl (sc rfl (sc rfl (sc rfl (sn _)))))), ⟨dec_eq ⟨fun hd hh => of_ndec (of_n_t hd) ((hh.2.1 g96p).2 c3p), fun hh => (by
         cases h_ : dec (NameOk 32 t.x.name)
         · rfl
         · exact absurd ⟨fun e1 => by omega, fun e1 => ⟨by omega, fun e2 => of_dec h_⟩, fun e1 => by omega⟩ hh)⟩, Hd.pm (by repeat (first | exact Pm.nil _ | constructor))⟩⟩)
    | (have q_ := c0p
       exact ⟨_, (sc rfl (sc rfl (sc rfl (sc rfl (sc rfl (sn _)))))), ⟨dec_eq ⟨fun hd hh => (by have e_ := oT hd; have h_ := hh.1 e_ c0p; omega), fun hh => decide_eq_true (hrw.elim id fun e_ => absurd (e_ c0p) (by omega))⟩, Hd.pm (by repeat (first | exact Pm.nil _ | constructor))⟩⟩)
    | exact ⟨_, (sc rfl (sc rfl (sc rfl (sc rfl (sc rfl (sn _)))))), ⟨dec_eq ⟨fun hd hh => (by have e_ := oT hd; have h_ := (hh.2.1 e_).1; omega), fun hh => decide_eq_true (Classical.byContradiction fun h_ => hh ⟨fun e1 e2 => by omega, fun e1 => by omega, fun e1 => ⟨fun e2 => by omega, fun e2 => by omega⟩⟩)⟩, Hd.pm (by repeat (first | exact Pm.nil _ | constructor))⟩⟩

theorem wrong_calls {src : ByteArray} {toks : List Tk} {q : Int} (hss : src.size ≤ 1099511627776) (htl : toks.length ≤ 1099511627776) : ∀ t : Nd, WrongOk src toks q t := Tr.ind fun x kids ih => fun w A B k kt hT hr hf hq => wrong_step (t := .mk x kids) hss htl hT hr hf hq ih
end Go.Proofs.Ytgdemplcpcacaaa.WrongR

/-! A node's text: the document's answer. -/
namespace Go.Proofs.Ytgdemplcpcacaaa.ShowR
open Go Go.RowKit Go.Proofs.YtgdemplcpcacaaaFx Go.Proofs.Ytgdemplcpcacaaa.QuoteR Go.Proofs.Ytgdemplcpcacaaa.WrongR
theorem agg24 : Agg Try.prog 24 4 := agg_of Try.underlying24 (by kernel_rfl)
theorem en46 : Enters Try.prog 46 := enters Try.func46 (by kernel_rfl) rfl
theorem en47 : Enters Try.prog 47 := enters Try.func47 (by kernel_rfl) rfl
theorem en75 : Enters Try.prog 75 := enters Try.func75 (by kernel_rfl) rfl
theorem fa24_0 : FieldAt Try.prog 24 0 0 := field_at (sz := 0) Try.underlying24 rfl (by kernel_rfl) rfl
theorem fa24_1 : FieldAt Try.prog 24 1 1 := field_at (sz := 0) Try.underlying24 rfl (by kernel_rfl) rfl
theorem fa24_2 : FieldAt Try.prog 24 2 2 := field_at (sz := 0) Try.underlying24 rfl (by kernel_rfl) rfl
theorem fa24_3 : FieldAt Try.prog 24 3 3 := field_at (sz := 0) Try.underlying24 rfl (by kernel_rfl) rfl
theorem fa85_1 : FieldAt Try.prog 85 1 1 := field_at (sz := 0) Try.underlying85 rfl (by kernel_rfl) rfl
theorem fa85_2 : FieldAt Try.prog 85 2 2 := field_at (sz := 0) Try.underlying85 rfl (by kernel_rfl) rfl
theorem info5 : (Try.prog.info? 5).map (fun i => (i.zero, i.size, i.bytes)) = some (some (.int .u8 0), 1, 1) := by kernel_rfl
theorem mixed : Try.prog.follows .mixedOrders = true := by kernel_rfl
theorem one22 : One Try.prog 22 := one_of Try.underlying22 rfl (by kernel_rfl)
theorem one3 : One Try.prog 3 := one_of Try.underlying3 rfl (by kernel_rfl)
theorem one9 : One Try.prog 9 := one_of Try.underlying9 rfl (by kernel_rfl)
theorem sz24 : ∀ W, (sizeOf 24).run Try.prog W = .ok 4 W := size_of (by kernel_rfl)
theorem sz5 : ∀ W, (sizeOf 5).run Try.prog W = .ok 1 W := size_of (by kernel_rfl)
theorem sz85 : ∀ W, (sizeOf 85).run Try.prog W = .ok 3 W := size_of (by kernel_rfl)
theorem zv5 : ∀ W, (zeroValue 5).run Try.prog W = .ok (.int .u8 0) W := zero_of (by kernel_rfl)

theorem sepN_len (i : Nat) : 1 ≤ (sepN i).length ∧ (sepN i).length ≤ 2 := by
  unfold sepN
  split
  · exact ⟨by decide, by decide⟩
  · exact ⟨by decide, by decide⟩
def ShowOk (src : ByteArray) (toks : List Tk) (t : Nd) : Prop := ∀ (w : World) (A B : Option Addr) (k kt : Nat) (hT : Rd fTk.kn w A toks) (hr : Rd (kTr fNd) w B t.kids) (hf : t.All smallN) (hrow : t.All (rowP src toks)) (hnam : t.All namP) (hlon : t.All (lonP toks)) (hl : (shw src toks t).length ≤ 1099511627776), Calls Try.prog 47 #[.agg #[.int .i64 t.x.kind, .string t.x.name, .int .i64 t.x.tok, .slice B t.kids.length k], .string src, .slice A toks.length kt] w fun e w' => ∃ v, e = .returned v ∧ ∃ g c, v = .slice (some ⟨g, 0, none⟩) (shw src toks t).length c ∧ Holds w [MR 5 g c (shw src toks t)] w'

set_option maxHeartbeats 6400000 in
set_option maxRecDepth 100000 in
theorem show_step {src : ByteArray} {toks : List Tk} {t : Nd} {w : World} {A B : Option Addr} {k kt : Nat} (hss : src.size ≤ 1099511627776) (htl : toks.length ≤ 1099511627776) (hT : Rd fTk.kn w A toks) (hr : Rd (kTr fNd) w B t.kids) (hf : t.All smallN) (hrow : t.All (rowP src toks)) (hnam : t.All namP) (hlon : t.All (lonP toks)) (hl : (shw src toks t).length ≤ 1099511627776) (ih : ∀ t' ∈ t.kids, ShowOk src toks t') : Calls Try.prog 47 #[.agg #[.int .i64 t.x.kind, .string t.x.name, .int .i64 t.x.tok, .slice B t.kids.length k], .string src, .slice A toks.length kt] w fun e w' => ∃ v, e = .returned v ∧ ∃ g c, v = .slice (some ⟨g, 0, none⟩) (shw src toks t).length c ∧ Holds w [MR 5 g c (shw src toks t)] w' := by
  obtain ⟨⟨hsz, hkk⟩, hks⟩ := (Tr.All_eq t).1 hf
  obtain ⟨hrw0, hrws⟩ := (Tr.All_eq t).1 hrow
  obtain ⟨hnm0, hnms⟩ := (Tr.All_eq t).1 hnam
  obtain ⟨hln0, hlns⟩ := (Tr.All_eq t).1 hlon
  refine calls_of Try.func47 rfl Try.ntmps47 rfl ?_
  have H := Holds.start w
  refine wcR ?_
  refine wl_box (cs := [_, _, _, _]) H rfl rfl rfl ?_
  intro b3 w1 hb3 H2
  refine wA ?_
  refine wl_nil ?_
  refine wc_seq ?_
  refine wcR ?_
  refine wV (v_fb (o2 := 0) fa24_0 rfl rfl) ?_
  refine wV (v_load one3 rfl (H2.at (by repeat constructor) rfl)) ?_
  refine wl_nil ?_
  refine wc_block ?_
  refine wcR ?_
  refine wV (v_eql rfl rfl) ?_
  refine wA ?_
  refine wl_nil ?_
  refine wc_cond rfl (fun c0 => ?_) (fun c0 => ?_)
  ·have c0p := oT c0
   have hrw1 := hrw0 c0p
   have hln1 := hln0.1 c0p
   refine wc_seq ?_
   refine wc_tree [0, 1, 2, 3, 4, 5, 6, 7, 8, 9, 10, 11, 12, 13, 15, 16, 17, 18, 19] (fun W => Holds w [Blk b3 24 [.int .i64 t.x.kind, .string t.x.name, .int .i64 t.x.tok, .slice B t.kids.length k]] W) mixed ?_
   have Hd := H2.drew
   have HSd : Holds w [Blk b3 24 [.int .i64 t.x.kind, .string t.x.name, .int .i64 t.x.tok, .slice B t.kids.length k]] _ := Hd.pm (by repeat (first | exact pm_refl _ | exact Pm.nil _ | constructor | refine pm_skip ?_))
   refine wjV (k := 0) rfl HSd (fun W HW => v_move rfl) ?_
   refine wjV (k := 1) rfl HSd (fun W HW => v_move rfl) ?_
   refine wjV (k := 2) rfl HSd (fun W HW => v_fb (o2 := 2) fa24_2 rfl rfl) ?_
   refine wjV (k := 3) rfl HSd (fun W HW => v_load one3 rfl (HW.at (by repeat constructor) rfl)) ?_
   refine wjV (k := 4) rfl HSd (fun W HW => v_idx Try.underlying25 sz85 hT.ad rfl rfl (by omega) (by omega)) ?_
   refine wjV (k := 5) rfl HSd (fun W HW => v_fp fa85_1 rfl) ?_
   refine wjV (k := 6) rfl HSd (fun W HW => v_load one3 rfl (HW.cell (hT.at (k := 1) tk0 (by omega) (by omega) rfl))) ?_
   refine wjV (k := 7) rfl HSd (fun W HW => v_move rfl) ?_
   refine wjV (k := 8) rfl HSd (fun W HW => v_fb (o2 := 2) fa24_2 rfl rfl) ?_
   refine wjV (k := 9) rfl HSd (fun W HW => v_load one3 rfl (HW.at (by repeat constructor) rfl)) ?_
   refine wjV (k := 10) rfl HSd (fun W HW => v_idx Try.underlying25 sz85 hT.ad rfl rfl (by omega) (by omega)) ?_
   refine wjV (k := 11) rfl HSd (fun W HW => v_fp fa85_2 rfl) ?_
   refine wjV (k := 12) rfl HSd (fun W HW => v_load one3 rfl (HW.cell (hT.at (k := 2) tk0 (by omega) (by omega) rfl))) ?_
   refine wjV (k := 13) rfl HSd (fun W HW => v_cut Try.underlying9 rfl rfl rfl (by omega) (by omega) (by omega)) ?_
   refine wj_t (k := 14) rfl (by kernel_rfl) ?_
   refine wl_call en75 rfl rfl (rquote_calls (by first | omega | (rw [ByteArray.size_extract]; omega))) ?_
   rintro _ w3 ⟨rfl, Hc⟩
   have H4 := Hd.call0 Hc
   have HS5 : Holds w [Blk b3 24 [.int .i64 t.x.kind, .string t.x.name, .int .i64 t.x.tok, .slice B t.kids.length k]] _ := H4.pm (by repeat (first | exact pm_refl _ | exact Pm.nil _ | constructor | refine pm_skip ?_))
   refine wl_nil (tn ⟨fun _ => HS5, ?_⟩)
   refine wjV (k := 15) rfl HS5 (fun W HW => v_move rfl) ?_
   refine wjV (k := 16) rfl HS5 (fun W HW => v_extract rfl rfl) ?_
   refine wjV (k := 17) rfl HS5 (fun W HW => v_extract rfl rfl) ?_
   refine wjV (k := 18) rfl HS5 (fun W HW => v_assign rfl) ?_
   refine wjV (k := 19) rfl HS5 (fun W HW => v_assign rfl) ?_
   refine wj_done (by kernel_rfl) ?_
   refine wcR ?_
   refine wM ?_
   refine wl_convSB H4 rfl Try.underlying9 Try.underlying88 Try.underlying5 rfl (by first | exact Nat.le_trans (qv_len _) (by decide) | omega) ?_
   intro g36_ k36_ w6 hg36_ H6 hs6
   
   refine wA ?_
   refine wl_nil ?_
   refine wc_ret ?_
   first
     | (have q_ := c0p
        exact ⟨_, res1 rfl rfl, _, _, by rw [shw1 c0p]; rfl, by rw [shw1 c0p]; exact H6.pm (by repeat (first | exact pm_refl _ | exact Pm.nil _ | constructor | refine pm_skip ?_))⟩)
     | (have q_ := c1p
        exact ⟨_, res1 rfl rfl, _, _, by rw [shw2 c1p], by rw [shw2 c1p]; exact H6.pm (by repeat (first | exact pm_refl _ | exact Pm.nil _ | constructor | refine pm_skip ?_))⟩)
     | (have q_ := c5p
        have e_ : shw src toks t = (t.x.name.data.toList ++ shws src toks t.kids true) ++ [41] := by rw [shw3 c2p, if_neg (show ¬ t.kids.length = 0 by omega)]
        exact ⟨_, res1 rfl rfl, _, _, by rw [e_], by rw [e_]; exact H6.pm (by repeat (first | exact pm_refl _ | exact Pm.nil _ | constructor | refine pm_skip ?_))⟩)
     | (have q_ := c2p
        have e_ : shw src toks t = (t.x.name.data.toList ++ shws src toks t.kids true) := by rw [shw3 c2p, if_pos (show t.kids.length = 0 by omega), List.append_nil]
        exact ⟨_, res1 rfl rfl, _, _, by rw [e_], by rw [e_]; exact H6.pm (by repeat (first | exact pm_refl _ | exact Pm.nil _ | constructor | refine pm_skip ?_))⟩)
     | (have e_ : shw src toks t = [45] := shw0 (by have h_ := hnm0.1; omega)
        exact ⟨_, res1 rfl rfl, _, _, by rw [e_]; rfl, by rw [e_]; exact H6.pm (by repeat (first | exact pm_refl _ | exact Pm.nil _ | constructor | refine pm_skip ?_))⟩)
  have c0p := oF c0
  refine wcR ?_
  refine wV (v_eql rfl rfl) ?_
  refine wA ?_
  refine wl_nil ?_
  refine wc_cond rfl (fun c1 => ?_) (fun c1 => ?_)
  ·have c1p := oT c1
   refine wcR ?_
   refine wV (v_fb (o2 := 1) fa24_1 rfl rfl) ?_
   refine wV (v_load one9 rfl (H2.at (by repeat constructor) rfl)) ?_
   refine wl_call en75 rfl rfl (rquote_calls (by first | omega | (rw [ByteArray.size_extract]; omega))) ?_
   rintro _ w7 ⟨rfl, Hc⟩
   have H8 := H2.call0 Hc
   refine wM ?_
   refine wV (v_extract rfl rfl) ?_
   refine wV (v_extract rfl rfl) ?_
   refine wA ?_
   refine wA ?_
   refine wl_nil ?_
   refine wcR ?_
   refine wM ?_
   refine wl_convSB H8 rfl Try.underlying9 Try.underlying88 Try.underlying5 rfl (by first | exact Nat.le_trans (qv_len _) (by decide) | omega) ?_
   intro g46_ k46_ w9 hg46_ H9 hs9
   
   refine wA ?_
   refine wl_nil ?_
   refine wc_ret ?_
   first
     | (have q_ := c0p
        exact ⟨_, res1 rfl rfl, _, _, by rw [shw1 c0p]; rfl, by rw [shw1 c0p]; exact H9.pm (by repeat (first | exact pm_refl _ | exact Pm.nil _ | constructor | refine pm_skip ?_))⟩)
     | (have q_ := c1p
        exact ⟨_, res1 rfl rfl, _, _, by rw [shw2 c1p], by rw [shw2 c1p]; exact H9.pm (by repeat (first | exact pm_refl _ | exact Pm.nil _ | constructor | refine pm_skip ?_))⟩)
     | (have q_ := c5p
        have e_ : shw src toks t = (t.x.name.data.toList ++ shws src toks t.kids true) ++ [41] := by rw [shw3 c2p, if_neg (show ¬ t.kids.length = 0 by omega)]
        exact ⟨_, res1 rfl rfl, _, _, by rw [e_], by rw [e_]; exact H9.pm (by repeat (first | exact pm_refl _ | exact Pm.nil _ | constructor | refine pm_skip ?_))⟩)
     | (have q_ := c2p
        have e_ : shw src toks t = (t.x.name.data.toList ++ shws src toks t.kids true) := by rw [shw3 c2p, if_pos (show t.kids.length = 0 by omega), List.append_nil]
        exact ⟨_, res1 rfl rfl, _, _, by rw [e_], by rw [e_]; exact H9.pm (by repeat (first | exact pm_refl _ | exact Pm.nil _ | constructor | refine pm_skip ?_))⟩)
     | (have e_ : shw src toks t = [45] := shw0 (by have h_ := hnm0.1; omega)
        exact ⟨_, res1 rfl rfl, _, _, by rw [e_]; rfl, by rw [e_]; exact H9.pm (by repeat (first | exact pm_refl _ | exact Pm.nil _ | constructor | refine pm_skip ?_))⟩)
  have c1p := oF c1
  refine wcR ?_
  refine wV (v_eql rfl rfl) ?_
  refine wA ?_
  refine wl_nil ?_
  refine wc_cond rfl (fun c2 => ?_) (fun c2 => ?_)
  rotate_left
  ·have c2p := oF c2
   refine wc_skip ?_
   refine wcR ?_
   refine wl_slit (v := .int .u8 0) (z := [.int .u8 0]) (cs := byC [45]) (sz := 1) H2 rfl Try.underlying88 sz5 zv5 (by decide) (by decide) (by kernel_rfl) rfl (by repeat constructor) ?_
   intro b85 w21 hb85 H21 hs21
   replace H21 := H21.litM (l := [45]) (by decide)
   refine wA ?_
   refine wl_nil ?_
   refine wc_ret ?_
   first
     | (have q_ := c0p
        exact ⟨_, res1 rfl rfl, _, _, by rw [shw1 c0p]; rfl, by rw [shw1 c0p]; exact H21.pm (by repeat (first | exact pm_refl _ | exact Pm.nil _ | constructor | refine pm_skip ?_))⟩)
     | (have q_ := c1p
        exact ⟨_, res1 rfl rfl, _, _, by rw [shw2 c1p], by rw [shw2 c1p]; exact H21.pm (by repeat (first | exact pm_refl _ | exact Pm.nil _ | constructor | refine pm_skip ?_))⟩)
     | (have q_ := c5p
        have e_ : shw src toks t = (t.x.name.data.toList ++ shws src toks t.kids true) ++ [41] := by rw [shw3 c2p, if_neg (show ¬ t.kids.length = 0 by omega)]
        exact ⟨_, res1 rfl rfl, _, _, by rw [e_], by rw [e_]; exact H21.pm (by repeat (first | exact pm_refl _ | exact Pm.nil _ | constructor | refine pm_skip ?_))⟩)
     | (have q_ := c2p
        have e_ : shw src toks t = (t.x.name.data.toList ++ shws src toks t.kids true) := by rw [shw3 c2p, if_pos (show t.kids.length = 0 by omega), List.append_nil]
        exact ⟨_, res1 rfl rfl, _, _, by rw [e_], by rw [e_]; exact H21.pm (by repeat (first | exact pm_refl _ | exact Pm.nil _ | constructor | refine pm_skip ?_))⟩)
     | (have e_ : shw src toks t = [45] := shw0 (by have h_ := hnm0.1; omega)
        exact ⟨_, res1 rfl rfl, _, _, by rw [e_]; rfl, by rw [e_]; exact H21.pm (by repeat (first | exact pm_refl _ | exact Pm.nil _ | constructor | refine pm_skip ?_))⟩)
  have c2p := oT c2
  have hle3 := congrArg List.length (shw3 (src := src) (toks := toks) c2p)
  have hnn := (hnm0.2 c2p).2.1
  have hnd : t.x.name.data.toList.length = t.x.name.size := rfl
  refine wcR ?_
  refine wV (v_fb (o2 := 1) fa24_1 rfl rfl) ?_
  refine wV (v_load one9 rfl (H2.at (by repeat constructor) rfl)) ?_
  refine wl_convSB H2 rfl Try.underlying9 Try.underlying88 Try.underlying5 rfl (by first | exact Nat.le_trans (qv_len _) (by decide) | omega) ?_
  intro g51_ k51_ w10 hg51_ H10 hs10
  have e51_ : t.x.name.data.toList = (t.x.name.data.toList ++ shws src toks (t.kids.take 0) true) := by rw [List.take_zero, shws_nil, List.append_nil]
  rw [e51_] at H10 ⊢
  refine wA ?_
  refine wl_nil ?_
  refine wc_seq ?_
  refine wcR ?_
  refine wA ?_
  refine wl_nil ?_
  refine wc_block ?_
  refine wc_loop (σ := Nat × Nat × Nat) (fun q => [(1, .string src), (2, .slice A toks.length kt), (3, .pointer (some ⟨b3, 0, none⟩)), (11, .slice (some ⟨q.2.1, 0, none⟩) (t.x.name.data.toList ++ shws src toks (t.kids.take q.1) true).length q.2.2), (12, .int .i64 q.1)]) (fun q W => q.1 ≤ t.kids.length ∧ Holds w [MR 5 q.2.1 q.2.2 (t.x.name.data.toList ++ shws src toks (t.kids.take q.1) true), Blk b3 24 [.int .i64 t.x.kind, .string t.x.name, .int .i64 t.x.tok, .slice B t.kids.length k]] W) (fun q => t.kids.length - q.1) (0, g51_, k51_) (sc rfl (sc rfl (sc rfl (sc rfl (sc rfl (sn _)))))) ⟨Nat.zero_le _, by (dsimp only; exact H10.pm (by repeat (first | exact pm_refl _ | exact Pm.nil _ | constructor | refine pm_skip ?_)))⟩ ?_
  rintro ⟨i, gl_, kl_⟩ W0 ⟨hi, H⟩
  dsimp only at hi H ⊢
  refine wc_seq ?_
  refine wcR ?_
  refine wM ?_
  refine wV (v_fb (o2 := 3) fa24_3 rfl rfl) ?_
  refine wV (v_load one22 rfl (H.at (by repeat constructor) rfl)) ?_
  refine wV (v_len Try.underlying22 rfl) ?_
  refine wV (v_lss rfl rfl) ?_
  refine wl_nil ?_
  refine wc_cond rfl (fun c3 => ?_) (fun c3 => ?_)
  rotate_left
  ·have c3p := oF c3
   have hie : t.kids.take i = t.kids := List.take_of_length_le (by omega)
   rw [hie] at H ⊢
   refine wc_exit ?_
   refine wc_seq ?_
   refine wcR ?_
   refine wV (v_fb (o2 := 3) fa24_3 rfl rfl) ?_
   refine wV (v_load one22 rfl (H.at (by repeat constructor) rfl)) ?_
   refine wV (v_len Try.underlying22 rfl) ?_
   refine wV (v_gtr rfl rfl) ?_
   refine wl_nil ?_
   refine wc_cond rfl (fun c5 => ?_) (fun c5 => ?_)
   rotate_left
   ·have c5p := oF c5
    refine wc_skip ?_
    refine wcR ?_
    refine wM ?_
    refine wA ?_
    refine wl_nil ?_
    refine wc_ret ?_
    first
      | (have q_ := c0p
         exact ⟨_, res1 rfl rfl, _, _, by rw [shw1 c0p]; rfl, by rw [shw1 c0p]; exact H.pm (by repeat (first | exact pm_refl _ | exact Pm.nil _ | constructor | refine pm_skip ?_))⟩)
      | (have q_ := c1p
         exact ⟨_, res1 rfl rfl, _, _, by rw [shw2 c1p], by rw [shw2 c1p]; exact H.pm (by repeat (first | exact pm_refl _ | exact Pm.nil _ | constructor | refine pm_skip ?_))⟩)
      | (have q_ := c5p
         have e_ : shw src toks t = (t.x.name.data.toList ++ shws src toks t.kids true) ++ [41] := by rw [shw3 c2p, if_neg (show ¬ t.kids.length = 0 by omega)]
         exact ⟨_, res1 rfl rfl, _, _, by rw [e_], by rw [e_]; exact H.pm (by repeat (first | exact pm_refl _ | exact Pm.nil _ | constructor | refine pm_skip ?_))⟩)
      | (have q_ := c2p
         have e_ : shw src toks t = (t.x.name.data.toList ++ shws src toks t.kids true) := by rw [shw3 c2p, if_pos (show t.kids.length = 0 by omega), List.append_nil]
         exact ⟨_, res1 rfl rfl, _, _, by rw [e_], by rw [e_]; exact H.pm (by repeat (first | exact pm_refl _ | exact Pm.nil _ | constructor | refine pm_skip ?_))⟩)
      | (have e_ : shw src toks t = [45] := shw0 (by have h_ := hnm0.1; omega)
         exact ⟨_, res1 rfl rfl, _, _, by rw [e_]; rfl, by rw [e_]; exact H.pm (by repeat (first | exact pm_refl _ | exact Pm.nil _ | constructor | refine pm_skip ?_))⟩)
   have c5p := oT c5
   rw [if_neg (show ¬ t.kids.length = 0 by omega)] at hle3
   refine wc_region ?_
   refine wM ?_
   refine wl_slit (v := .int .u8 0) (z := [.int .u8 0]) (cs := byC [41]) (sz := 1) H rfl Try.underlying88 sz5 zv5 (by decide) (by decide) (by kernel_rfl) rfl (by repeat constructor) ?_
   intro b82 w19 hb82 H19 hs19
   refine wl_appM (bs := (t.x.name.data.toList ++ shws src toks t.kids true)) (ys := [41]) H19 (fun g' c' => (by repeat constructor)) rfl Try.underlying88 info5 rfl rfl rfl (H19.ats (b := b82) (by repeat constructor)) (by (try simp only [List.length_append, List.length_cons, List.length_nil]); (try simp only [List.length_append, List.length_cons, List.length_nil] at *); omega) ?_
   intro g83_ k83_ w20 H20 hs20
   refine wA ?_
   refine wl_nil ?_
   refine wcR ?_
   refine wM ?_
   refine wA ?_
   refine wl_nil ?_
   refine wc_ret ?_
   first
     | (have q_ := c0p
        exact ⟨_, res1 rfl rfl, _, _, by rw [shw1 c0p]; rfl, by rw [shw1 c0p]; exact H20.pm (by repeat (first | exact pm_refl _ | exact Pm.nil _ | constructor | refine pm_skip ?_))⟩)
     | (have q_ := c1p
        exact ⟨_, res1 rfl rfl, _, _, by rw [shw2 c1p], by rw [shw2 c1p]; exact H20.pm (by repeat (first | exact pm_refl _ | exact Pm.nil _ | constructor | refine pm_skip ?_))⟩)
     | (have q_ := c5p
        have e_ : shw src toks t = (t.x.name.data.toList ++ shws src toks t.kids true) ++ [41] := by rw [shw3 c2p, if_neg (show ¬ t.kids.length = 0 by omega)]
        exact ⟨_, res1 rfl rfl, _, _, by rw [e_], by rw [e_]; exact H20.pm (by repeat (first | exact pm_refl _ | exact Pm.nil _ | constructor | refine pm_skip ?_))⟩)
     | (have q_ := c2p
        have e_ : shw src toks t = (t.x.name.data.toList ++ shws src toks t.kids true) := by rw [shw3 c2p, if_pos (show t.kids.length = 0 by omega), List.append_nil]
        exact ⟨_, res1 rfl rfl, _, _, by rw [e_], by rw [e_]; exact H20.pm (by repeat (first | exact pm_refl _ | exact Pm.nil _ | constructor | refine pm_skip ?_))⟩)
     | (have e_ : shw src toks t = [45] := shw0 (by have h_ := hnm0.1; omega)
        exact ⟨_, res1 rfl rfl, _, _, by rw [e_]; rfl, by rw [e_]; exact H20.pm (by repeat (first | exact pm_refl _ | exact Pm.nil _ | constructor | refine pm_skip ?_))⟩)
  have c3p := oT c3
  have hin : i < t.kids.length := by omega
  have hlk := shws_take (src := src) (toks := toks) t.kids (i + 1) true
  have hls := congrArg List.length (shws_succ (src := src) (toks := toks) t.kids i hin)
  have hsn := sepN_len i
  refine wc_skip ?_
  refine wc_seq ?_
  refine wc_block ?_
  refine wc_cut (σ := Nat × Nat) (fun q => [(1, .string src), (2, .slice A toks.length kt), (3, .pointer (some ⟨b3, 0, none⟩)), (11, .slice (some ⟨q.1, 0, none⟩) ((t.x.name.data.toList ++ shws src toks (t.kids.take i) true) ++ sepN i).length q.2), (12, .int .i64 i)]) (fun q W => Holds w [MR 5 q.1 q.2 ((t.x.name.data.toList ++ shws src toks (t.kids.take i) true) ++ sepN i), Blk b3 24 [.int .i64 t.x.kind, .string t.x.name, .int .i64 t.x.tok, .slice B t.kids.length k]] W) ?_ ?_
  rotate_left
  ·rintro ⟨g5_, k5_⟩ Wm H
   dsimp only at H ⊢
   refine wc_region ?_
   refine wM ?_
   refine wV (v_fb (o2 := 3) fa24_3 rfl rfl) ?_
   refine wV (v_load one22 rfl (H.at (by repeat constructor) rfl)) ?_
   refine wM ?_
   refine wV (v_idx Try.underlying22 sz24 hr.ad rfl rfl (by omega) (by omega)) ?_
   obtain ⟨B72_, k72_, hc72_, hl72_, hr72_⟩ := hr.atTr nd0 (i := i) (by omega)
   refine wV (v_loadN (cs := [.int .i64 (t.kids.getD i nd0).x.kind, .string (t.kids.getD i nd0).x.name, .int .i64 (t.kids.getD i nd0).x.tok, .slice B72_ (t.kids.getD i nd0).kids.length k72_]) agg24 rfl rfl (fun q_ u_ hu_ => H.cell (hc72_ q_ u_ hu_))) ?_
   refine wM ?_
   refine wM ?_
   refine wl_call en47 rfl rfl (ih _ (getD_mem (z := nd0) hin) _ A _ _ kt (hT.below H.old) (hr72_.below H.old) (Tr.Alls_at nd0 hin hks) (Tr.Alls_at nd0 hin hrws) (Tr.Alls_at nd0 hin hnms) (Tr.Alls_at nd0 hin hlns) (by (try simp only [List.length_append, List.length_cons, List.length_nil]); (try simp only [List.length_append, List.length_cons, List.length_nil] at *); omega)) ?_
   rintro _ w16 ⟨g75_, k75_, rfl, Hc⟩
   have H17 := H.call Hc
   refine wl_appM (bs := ((t.x.name.data.toList ++ shws src toks (t.kids.take i) true) ++ sepN i)) (ys := (shw src toks (t.kids.getD i nd0))) H17 (fun g' c' => (by repeat constructor)) rfl Try.underlying88 info5 rfl rfl rfl (H17.mrAt (l := shw src toks (t.kids.getD i nd0)) (by repeat constructor)) (by (try simp only [List.length_append, List.length_cons, List.length_nil]); (try simp only [List.length_append, List.length_cons, List.length_nil] at *); omega) ?_
   intro g76_ k76_ w18 H18 hs18
   refine wA ?_
   refine wl_nil ?_
   refine wc_region ?_
   refine wM ?_
   refine wV (v_addi rfl rfl (by omega)) ?_
   refine wA ?_
   refine wl_nil ?_
   exact ⟨(i + 1, g76_, k76_), by (dsimp only; rw [shws_succ _ _ hin]; (try simp only [← List.append_assoc]); (try simp only [← List.append_assoc] at *); exact (sc rfl (sc rfl (sc rfl (sc rfl (sc rfl (sn _))))))), ⟨by dsimp only; omega, by dsimp only; rw [shws_succ _ _ hin]; (try simp only [← List.append_assoc]); (try simp only [← List.append_assoc] at H18); exact H18.pm (by repeat (first | exact pm_refl _ | exact Pm.nil _ | constructor | refine pm_skip ?_))⟩, by dsimp only; omega⟩
  refine wcR ?_
  refine wM ?_
  refine wV (v_eql rfl rfl) ?_
  refine wl_nil ?_
  refine wc_cond rfl (fun c4 => ?_) (fun c4 => ?_)
  ·have c4p := oT c4
   refine wc_region ?_
   refine wM ?_
   refine wl_slit (v := .int .u8 0) (z := [.int .u8 0]) (cs := byC [40]) (sz := 1) H rfl Try.underlying88 sz5 zv5 (by decide) (by decide) (by kernel_rfl) rfl (by repeat constructor) ?_
   intro b62 w11 hb62 H11 hs11
   refine wl_appM (bs := (t.x.name.data.toList ++ shws src toks (t.kids.take i) true)) (ys := [40]) H11 (fun g' c' => (by repeat constructor)) rfl Try.underlying88 info5 rfl rfl rfl (H11.ats (b := b62) (by repeat constructor)) (by (try simp only [List.length_append, List.length_cons, List.length_nil]); (try simp only [List.length_append, List.length_cons, List.length_nil] at *); omega) ?_
   intro g63_ k63_ w12 H12 hs12
   refine wA ?_
   refine wl_nil ?_
   first
     | (have e_ : sepN i = [40] := by unfold sepN; rw [if_pos (by omega)]
        exact ⟨(_, _), by (rw [e_]; exact (sc rfl (sc rfl (sc rfl (sc rfl (sc rfl (sn _))))))), by rw [e_]; exact H12.pm (by repeat (first | exact pm_refl _ | exact Pm.nil _ | constructor | refine pm_skip ?_))⟩)
     | (have e_ : sepN i = [44, 32] := by unfold sepN; rw [if_neg (by omega)]
        exact ⟨(_, _), by (rw [e_]; exact (sc rfl (sc rfl (sc rfl (sc rfl (sc rfl (sn _))))))), by rw [e_]; exact H12.pm (by repeat (first | exact pm_refl _ | exact Pm.nil _ | constructor | refine pm_skip ?_))⟩)
  have c4p := oF c4
  refine wc_region ?_
  refine wM ?_
  refine wl_slit (v := .int .u8 0) (z := [.int .u8 0, .int .u8 0]) (cs := byC [44, 32]) (sz := 1) H rfl Try.underlying88 sz5 zv5 (by decide) (by decide) (by kernel_rfl) rfl (by repeat constructor) ?_
  intro b65 w13 hb65 H13 hs13
  refine wl_appM (bs := (t.x.name.data.toList ++ shws src toks (t.kids.take i) true)) (ys := [44, 32]) H13 (fun g' c' => (by repeat constructor)) rfl Try.underlying88 info5 rfl rfl rfl (H13.ats (b := b65) (by repeat constructor)) (by (try simp only [List.length_append, List.length_cons, List.length_nil]); (try simp only [List.length_append, List.length_cons, List.length_nil] at *); omega) ?_
  intro g66_ k66_ w14 H14 hs14
  refine wA ?_
  refine wl_nil ?_
  first
    | (have e_ : sepN i = [40] := by unfold sepN; rw [if_pos (by omega)]
       exact ⟨(_, _), by (rw [e_]; exact (sc rfl (sc rfl (sc rfl (sc rfl (sc rfl (sn _))))))), by rw [e_]; exact H14.pm (by repeat (first | exact pm_refl _ | exact Pm.nil _ | constructor | refine pm_skip ?_))⟩)
    | (have e_ : sepN i = [44, 32] := by unfold sepN; rw [if_neg (by omega)]
       exact ⟨(_, _), by (rw [e_]; exact (sc rfl (sc rfl (sc rfl (sc rfl (sc rfl (sn _))))))), by rw [e_]; exact H14.pm (by repeat (first | exact pm_refl _ | exact Pm.nil _ | constructor | refine pm_skip ?_))⟩)

theorem show_calls {src : ByteArray} {toks : List Tk} (hss : src.size ≤ 1099511627776) (htl : toks.length ≤ 1099511627776) : ∀ t : Nd, ShowOk src toks t := Tr.ind fun x kids ih => fun w A B k kt hT hr hf hrow hnam hlon hl => show_step (t := .mk x kids) hss htl hT hr hf hrow hnam hlon hl ih

theorem wP_1 (src : ByteArray) (toks : List Tk) : wP src toks 1 = rowP src toks := funext fun x => funext fun k => propext ⟨fun h => h.1 rfl, fun h => ⟨fun _ => h, fun e => absurd e (by decide), fun e => absurd e (by decide)⟩⟩
theorem wP_2 (src : ByteArray) (toks : List Tk) : wP src toks 2 = namP := funext fun x => funext fun k => propext ⟨fun h => h.2.1 rfl, fun h => ⟨fun e => absurd e (by decide), fun _ => h, fun e => absurd e (by decide)⟩⟩
theorem wP_3 (src : ByteArray) (toks : List Tk) : wP src toks 3 = lonP toks := funext fun x => funext fun k => propext ⟨fun h => h.2.2 rfl, fun h => ⟨fun e => absurd e (by decide), fun e => absurd e (by decide), fun _ => h⟩⟩
theorem wrong1 {src : ByteArray} {toks : List Tk} {t : Nd} {b : Bool} (h : dec (¬ t.All (wP src toks 1)) = b) : b = dec (¬ t.All (rowP src toks)) := by rw [← wP_1]; exact h.symm
theorem wrong2 {src : ByteArray} {toks : List Tk} {t : Nd} {b : Bool} (h : dec (¬ t.All (wP src toks 2)) = b) : b = dec (¬ t.All namP) := by rw [← wP_2 src toks]; exact h.symm
theorem wrong3 {src : ByteArray} {toks : List Tk} {t : Nd} {b : Bool} (h : dec (¬ t.All (wP src toks 3)) = b) : b = dec (¬ t.All (lonP toks)) := by rw [← wP_3 src toks]; exact h.symm
theorem all_f {p : Prop} (h : false = dec (¬ p)) : p := Classical.byContradiction fun h_ => of_ndec h.symm h_
theorem all_t {p : Prop} (h : true = dec (¬ p)) : ¬ p := of_dec h.symm

set_option maxHeartbeats 3200000 in
set_option maxRecDepth 100000 in
theorem rtext_calls {src : ByteArray} {toks : List Tk} {t : Nd} {w : World} {A B : Option Addr} {k kt : Nat} (hss : src.size ≤ 1099511627776) (htl : toks.length ≤ 1099511627776) (hT : Rd fTk.kn w A toks) (hr : Rd (kTr fNd) w B t.kids) (hf : t.All smallN) (hcn : 20002 * t.cnt ≤ 1099511627776) : Calls Try.prog 18 #[.agg #[.int .i64 t.x.kind, .string t.x.name, .int .i64 t.x.tok, .slice B t.kids.length k], .string src, .slice A toks.length kt] w fun e w' => ∃ v, e = .returned v ∧ v = .tuple #[.string (txS src toks t), .int .i64 (txE src toks t)] ∧ Holds w [] w' := by
  refine calls_of Try.func18 rfl Try.ntmps18 rfl ?_
  have H := Holds.start w
  refine wcR ?_
  refine wl_box (cs := [_, _, _, _]) H rfl rfl rfl ?_
  intro b3 w1 hb3 H2
  refine wA ?_
  refine wA ?_
  refine wl_nil ?_
  refine wc_seq ?_
  refine wc_block ?_
  refine wcR ?_
  refine wV (v_loadN agg24 rfl rfl (H2.ats (by repeat constructor))) ?_
  refine wM ?_
  refine wM ?_
  refine wl_call en46 rfl rfl (wrong_calls hss htl (q := 1) t _ A B k kt (hT.below H2.old) (hr.below H2.old) hf (.inl rfl)) ?_
  rintro _ w3 ⟨rfl, Hc⟩
  have H4 := H2.call0 Hc
  refine wA ?_
  refine wl_nil ?_
  refine wc_cond rfl (fun c0 => ?_) (fun c0 => ?_)
  ·have hrow : ¬ t.All (rowP src toks) := all_t (wrong1 c0)
   refine wcR ?_
   refine wA ?_
   refine wA ?_
   refine wl_nil ?_
   refine wc_ret ?_
   first
     | exact ⟨_, res2 rfl rfl rfl, by rw [(txE_ok hrow hnam hlon).1, (txE_ok hrow hnam hlon).2], H4.pm (by repeat (first | exact Pm.nil _ | constructor))⟩
     | exact ⟨_, res2 rfl rfl rfl, by rw [(txE_lon hrow hnam hlon).1, (txE_lon hrow hnam hlon).2], H4.pm (by repeat (first | exact Pm.nil _ | constructor))⟩
     | exact ⟨_, res2 rfl rfl rfl, by rw [(txE_nam hrow hnam).1, (txE_nam hrow hnam).2], H4.pm (by repeat (first | exact Pm.nil _ | constructor))⟩
     | exact ⟨_, res2 rfl rfl rfl, by rw [(txE_row hrow).1, (txE_row hrow).2], H4.pm (by repeat (first | exact Pm.nil _ | constructor))⟩
  have hrow : t.All (rowP src toks) := all_f (wrong1 c0)
  refine wcR ?_
  refine wV (v_loadN agg24 rfl rfl (H4.ats (by repeat constructor))) ?_
  refine wM ?_
  refine wM ?_
  refine wl_call en46 rfl rfl (wrong_calls hss htl (q := 2) t _ A B k kt (hT.below H4.old) (hr.below H4.old) hf (.inr ⟨.inl rfl, hrow⟩)) ?_
  rintro _ w5 ⟨rfl, Hc⟩
  have H6 := H4.call0 Hc
  refine wA ?_
  refine wl_nil ?_
  refine wc_cond rfl (fun c1 => ?_) (fun c1 => ?_)
  ·have hnam : ¬ t.All namP := all_t (wrong2 c1)
   refine wcR ?_
   refine wA ?_
   refine wA ?_
   refine wl_nil ?_
   refine wc_ret ?_
   first
     | exact ⟨_, res2 rfl rfl rfl, by rw [(txE_ok hrow hnam hlon).1, (txE_ok hrow hnam hlon).2], H6.pm (by repeat (first | exact Pm.nil _ | constructor))⟩
     | exact ⟨_, res2 rfl rfl rfl, by rw [(txE_lon hrow hnam hlon).1, (txE_lon hrow hnam hlon).2], H6.pm (by repeat (first | exact Pm.nil _ | constructor))⟩
     | exact ⟨_, res2 rfl rfl rfl, by rw [(txE_nam hrow hnam).1, (txE_nam hrow hnam).2], H6.pm (by repeat (first | exact Pm.nil _ | constructor))⟩
     | exact ⟨_, res2 rfl rfl rfl, by rw [(txE_row hrow).1, (txE_row hrow).2], H6.pm (by repeat (first | exact Pm.nil _ | constructor))⟩
  have hnam : t.All namP := all_f (wrong2 c1)
  refine wcR ?_
  refine wV (v_loadN agg24 rfl rfl (H6.ats (by repeat constructor))) ?_
  refine wM ?_
  refine wM ?_
  refine wl_call en46 rfl rfl (wrong_calls hss htl (q := 3) t _ A B k kt (hT.below H6.old) (hr.below H6.old) hf (.inr ⟨.inr rfl, hrow⟩)) ?_
  rintro _ w7 ⟨rfl, Hc⟩
  have H8 := H6.call0 Hc
  refine wA ?_
  refine wl_nil ?_
  refine wc_cond rfl (fun c2 => ?_) (fun c2 => ?_)
  ·have hlon : ¬ t.All (lonP toks) := all_t (wrong3 c2)
   refine wcR ?_
   refine wA ?_
   refine wA ?_
   refine wl_nil ?_
   refine wc_ret ?_
   first
     | exact ⟨_, res2 rfl rfl rfl, by rw [(txE_ok hrow hnam hlon).1, (txE_ok hrow hnam hlon).2], H8.pm (by repeat (first | exact Pm.nil _ | constructor))⟩
     | exact ⟨_, res2 rfl rfl rfl, by rw [(txE_lon hrow hnam hlon).1, (txE_lon hrow hnam hlon).2], H8.pm (by repeat (first | exact Pm.nil _ | constructor))⟩
     | exact ⟨_, res2 rfl rfl rfl, by rw [(txE_nam hrow hnam).1, (txE_nam hrow hnam).2], H8.pm (by repeat (first | exact Pm.nil _ | constructor))⟩
     | exact ⟨_, res2 rfl rfl rfl, by rw [(txE_row hrow).1, (txE_row hrow).2], H8.pm (by repeat (first | exact Pm.nil _ | constructor))⟩
  have hlon : t.All (lonP toks) := all_f (wrong3 c2)
  refine wc_skip ?_
  refine wcR ?_
  refine wV (v_loadN agg24 rfl rfl (H8.ats (by repeat constructor))) ?_
  refine wM ?_
  refine wM ?_
  refine wl_call en47 rfl rfl (show_calls hss htl t _ A B k kt (hT.below H8.old) (hr.below H8.old) hf hrow hnam hlon (by have h_ := shw_len (src := src) (toks := toks) t hnam; omega)) ?_
  rintro _ w9 ⟨g26_, k26_, rfl, Hc⟩
  have H10 := H8.call Hc
  refine wV (v_convBS (bs := shw src toks t) Try.underlying88 Try.underlying5 Try.underlying9 rfl (H10.mrAt (l := shw src toks t) (by repeat constructor)) rfl) ?_
  refine wA ?_
  refine wA ?_
  refine wl_nil ?_
  refine wc_ret ?_
  first
    | exact ⟨_, res2 rfl rfl rfl, by rw [(txE_ok hrow hnam hlon).1, (txE_ok hrow hnam hlon).2], H10.pm (by repeat (first | exact Pm.nil _ | constructor))⟩
    | exact ⟨_, res2 rfl rfl rfl, by rw [(txE_lon hrow hnam hlon).1, (txE_lon hrow hnam hlon).2], H10.pm (by repeat (first | exact Pm.nil _ | constructor))⟩
    | exact ⟨_, res2 rfl rfl rfl, by rw [(txE_nam hrow hnam).1, (txE_nam hrow hnam).2], H10.pm (by repeat (first | exact Pm.nil _ | constructor))⟩
    | exact ⟨_, res2 rfl rfl rfl, by rw [(txE_row hrow).1, (txE_row hrow).2], H10.pm (by repeat (first | exact Pm.nil _ | constructor))⟩
end Go.Proofs.Ytgdemplcpcacaaa.ShowR

/-! Any node is written as the document says, or refused. -/
namespace Go.Proofs.Ytgdemplcpcacaaa.BShows
open Go Go.RowKit Go.Proofs.YtgdemplcpcacaaaFx Go.Proofs.Ytgdemplcpcacaaa.AliveB Go.Proofs.Ytgdemplcpcacaaa.WriteW Go.Proofs.Ytgdemplcpcacaaa.ShowR
theorem agg24 : Agg Try.prog 24 4 := agg_of Try.underlying24 (by kernel_rfl)
theorem en10 : Enters Try.prog 10 := enters Try.func10 (by kernel_rfl) rfl
theorem en11 : Enters Try.prog 11 := enters Try.func11 (by kernel_rfl) rfl
theorem en18 : Enters Try.prog 18 := enters Try.func18 (by kernel_rfl) rfl
theorem fa27_0 : FieldAt Try.prog 27 0 0 := field_at (sz := 3) Try.underlying27 rfl (by kernel_rfl) rfl
theorem fa27_1 : FieldAt Try.prog 27 1 4 := field_at (sz := 0) Try.underlying27 rfl (by kernel_rfl) rfl
theorem fa27_2 : FieldAt Try.prog 27 2 5 := field_at (sz := 0) Try.underlying27 rfl (by kernel_rfl) rfl
theorem one25 : One Try.prog 25 := one_of Try.underlying25 rfl (by kernel_rfl)
theorem one9 : One Try.prog 9 := one_of Try.underlying9 rfl (by kernel_rfl)

set_option maxHeartbeats 3200000 in
set_option maxRecDepth 100000 in
theorem shows_calls {src : ByteArray} {toks : List Tk} {t : Nd} {A B : Option Addr} {k kt : Nat} {w : World} (hss : src.size ≤ 1048576) (htl : toks.length ≤ 1048576) (hT : Rd fTk.kn w A toks) (hr : Rd (kTr fNd) w B t.kids) (hf : t.All smallN) (hcn : t.cnt ≤ 1048576) : Calls Try.prog 5 #[.agg #[.int .i64 t.x.kind, .string t.x.name, .int .i64 t.x.tok, .slice B t.kids.length k, .string src, .slice A toks.length kt]] w fun e w' => ∃ v, e = .returned v ∧ v = .bool true ∧ Holds w [] w' := by
  refine calls_of Try.func5 rfl Try.ntmps5 rfl ?_
  have H := Holds.start w
  refine wcR ?_
  refine wl_box (cs := [_, _, _, _, _, _]) H rfl rfl rfl ?_
  intro b1 w1 hb1 H2
  refine wA ?_
  refine wl_nil ?_
  refine wcR ?_
  refine wV (v_fb (o2 := 0) fa27_0 rfl rfl) ?_
  refine wV (v_loadN (cs := [_, _, _, _]) agg24 rfl rfl (H2.atsN (k := 4) (by repeat constructor) rfl)) ?_
  refine wV (v_fb (o2 := 4) fa27_1 rfl rfl) ?_
  refine wV (v_load one9 rfl (H2.at (by repeat constructor) rfl)) ?_
  refine wV (v_fb (o2 := 5) fa27_2 rfl rfl) ?_
  refine wV (v_load one25 rfl (H2.at (by repeat constructor) rfl)) ?_
  refine wl_call en11 rfl rfl (ptext_calls (by omega) (by omega) (hT.below H2.old) (hr.below H2.old) hf (by omega)) ?_
  rintro _ w3 ⟨rfl, Hc⟩
  have H4 := H2.call0 Hc
  refine wM ?_
  refine wV (v_extract rfl rfl) ?_
  refine wV (v_extract rfl rfl) ?_
  refine wA ?_
  refine wA ?_
  refine wl_nil ?_
  refine wcR ?_
  refine wV (v_fb (o2 := 0) fa27_0 rfl rfl) ?_
  refine wV (v_loadN (cs := [_, _, _, _]) agg24 rfl rfl (H4.atsN (k := 4) (by repeat constructor) rfl)) ?_
  refine wV (v_fb (o2 := 4) fa27_1 rfl rfl) ?_
  refine wV (v_load one9 rfl (H4.at (by repeat constructor) rfl)) ?_
  refine wV (v_fb (o2 := 5) fa27_2 rfl rfl) ?_
  refine wV (v_load one25 rfl (H4.at (by repeat constructor) rfl)) ?_
  refine wl_call en18 rfl rfl (rtext_calls (by omega) (by omega) (hT.below H4.old) (hr.below H4.old) hf (by omega)) ?_
  rintro _ w5 ⟨rfl, Hc⟩
  have H6 := H4.call0 Hc
  refine wM ?_
  refine wV (v_extract rfl rfl) ?_
  refine wV (v_extract rfl rfl) ?_
  refine wA ?_
  refine wA ?_
  refine wl_nil ?_
  refine wcR ?_
  refine wM ?_
  refine wM ?_
  refine wV (v_eqls rfl rfl) ?_
  refine wM ?_
  refine wl_guard rfl rfl rfl (fun g30 => ?_) (fun g30 => ?_)
  rotate_left
  ·have g30p := oF g30
   exact absurd g30 (by simp)
  have g30p := oT g30
  refine wM ?_
  refine wO g30 ?_
  refine wM ?_
  refine wO g30 ?_
  refine wV (v_eql rfl rfl) ?_
  refine wV (v_pick_t rfl g30 rfl) ?_
  refine wM ?_
  refine wl_guard rfl rfl rfl (fun g35 => ?_) (fun g35 => ?_)
  rotate_left
  ·have g35p := oF g35
   exact absurd g35 (by simp)
  have g35p := oT g35
  refine wl_call en10 rfl rfl (alive_calls) ?_
  rintro _ w7 ⟨rfl, Hc⟩
  have H8 := H6.call0 Hc
  refine wV (v_pick_t rfl g35 rfl) ?_
  refine wA ?_
  refine wl_nil ?_
  refine wc_ret ?_
  exact ⟨_, res1 rfl rfl, rfl, H8.pm (by repeat (first | exact pm_refl _ | exact Pm.nil _ | constructor | refine pm_skip ?_))⟩
end Go.Proofs.Ytgdemplcpcacaaa.BShows

/-! What came in, as it reads. -/
namespace Go.Proofs.YtgdemplcpcacaaaFx
open Go Go.RowKit Go.ChangeShapes Go.WideShapes Go.ChangeAt Go.Deep
open Go.Proofs.Ytgdemplcpcacaaa (Rows.uptoBulk Rows.uptoBulkAll Rows.uptoSmall)
theorem bulk_one {H : Type} (d : DataW H) : 1 ≤ Rows.uptoBulk d := by
  cases d with
  | lit l => cases l <;> simp [Rows.uptoBulk]
  | nil => simp [Rows.uptoBulk]
  | ptr d => simp [Rows.uptoBulk]
  | slice elems spare => simp [Rows.uptoBulk]
  | agg parts => simp [Rows.uptoBulk]
  | iface t d => simp [Rows.uptoBulk]
  | map entries => simp [Rows.uptoBulk]
  | held h => simp [Rows.uptoBulk]
theorem bulk_part {H : Type} {d : DataW H} {l : List (DataW H)} (h : d ∈ l) : Rows.uptoBulk d ≤ Rows.uptoBulkAll l := by
  induction l with
  | nil => cases h
  | cons x r ih =>
    simp only [Rows.uptoBulkAll]
    cases List.mem_cons.1 h with
    | inl e => subst e; omega
    | inr e => have := ih e; omega
theorem bulk_len {H : Type} (l : List (DataW H)) : l.length ≤ Rows.uptoBulkAll l := by
  induction l with
  | nil => simp [Rows.uptoBulkAll]
  | cons x r ih => have := bulk_one x; simp only [Rows.uptoBulkAll, List.length_cons]; omega
/-- A kind of elements that a type reads as; B: what is so of an element of such a bulk. -/
structure Rds (P : Program) (t : TypeId) {α : Type} (K : Kn α) (B : α → Nat → Prop) : Prop where
  sz : P.cellsOf t = K.sz
  rd : ∀ {H : Type} {enc : TypeId × Value → H} {w : World} {base : Nat} {spare : Nat → Bool} {held : Bool} {fuel : Nat} {cs : List Value} {x : DataW H × List MemPlace}, DataW.trod enc P w base spare held fuel t cs = some x → ∃ a, K.K w a cs ∧ B a (Rows.uptoBulk x.1)
section
variable {P : Program} {t e : TypeId} {k : IntKind}
theorem rds_int (ht : P.underlying t = some (.int k)) (hc : P.cellsOf t = 1) : Rds P t (kInt k) (fun a n => (Lit.int k a).wf = true ∧ 1 ≤ n) := ⟨hc, fun h => by
  obtain ⟨n, rfl, rfl, hw⟩ := DataW.trod_int ht h
  exact ⟨n, rfl, hw, bulk_one _⟩⟩
theorem rds_str (ht : P.underlying t = some .string) (hc : P.cellsOf t = 1) : Rds P t kStr (fun a n => a.size + 1 ≤ n) := ⟨hc, fun h => by
  obtain ⟨s, rfl, rfl, hw⟩ := DataW.trod_string ht h
  refine ⟨s, rfl, ?_⟩
  simp only [Rows.uptoBulk, Array.length_toList]
  exact Nat.le_refl _⟩
theorem i64_wf {a : Int} (h : (Lit.int .i64 a).wf = true) : I64 a := by
  have e1 : (if IntKind.i64.signed = true then -(2 ^ (IntKind.i64.bits - 1) : Int) else 0) = -9223372036854775808 := rfl
  have h1 : -9223372036854775808 ≤ a ∧ a ≤ 9223372036854775807 := by simpa [Lit.wf, IntKind.min, e1] using h
  exact h1
theorem two_len {cs : List Value} (h : cs.length = 2) : ∃ a b, cs = [a, b] := by
  match cs, h with
  | [a, b], _ => exact ⟨a, b, rfl⟩
theorem rds_mv {f0 f1 : Field} (ht : P.underlying t = some (.struct #[f0, f1])) (he : P.underlying e = some (.int .i64)) (hc : P.cellsOf t = 2) (hce : P.cellsOf e = 1) (h0 : (f0.type, f0.offset) = (e, 0)) (h1 : (f1.type, f1.offset) = (e, 1)) : Rds P t fMv.kn (fun a n => (I64 a.d ∧ I64 a.n) ∧ 1 ≤ n) := ⟨hc, fun {H enc w base spare held fuel cs x} h => by
  simp only [Prod.mk.injEq] at h0 h1
  obtain ⟨y0, y1, n, rfl, hl, e0, e1⟩ := trod_struct2 ht h
  rw [h0.1, h0.2, hce] at e0
  rw [h1.1, h1.2, hce] at e1
  obtain ⟨a, ha, _, wa⟩ := DataW.trod_int he e0
  obtain ⟨b, hb, _, wb⟩ := DataW.trod_int he e1
  rw [hc] at hl
  obtain ⟨c0, c1, rfl⟩ := two_len hl
  · simp at ha hb
    subst ha hb
    exact ⟨⟨a, b⟩, rfl, ⟨i64_wf wa, i64_wf wb⟩, bulk_one _⟩⟩
theorem rds_sl {α : Type} {K : Kn α} {B : α → Nat → Prop} (ht : P.underlying t = some (.slice e)) (hc : P.cellsOf t = 1) (he : Rds P e K B) : Rds P t K.sl (fun xs n => xs.length + 1 ≤ n ∧ ∀ x ∈ xs, ∃ m, m ≤ n ∧ B x m) := ⟨hc, fun {H enc w base spare held fuel cs x} h => by
  rcases open_slice ht h with ⟨rfl, rfl⟩ | ⟨a, len, cap, m, n, D, Pl, rfl, _, hl, hm, hmm, rfl, hx⟩
  · exact ⟨[], ⟨none, 0, rfl, Nat.le_refl _, Rd.nil _ _ _⟩, by simp [Rows.uptoBulk], fun x hx => by simp at hx⟩
  · have hlm : len ≤ m := by rw [hmm]; split <;> omega
    have hex : ∀ i, i < len → ∃ a' : α, (∃ cs', w.cells? base (a.add (i * P.cellsOf e)) (P.cellsOf e) = some cs' ∧ K.K w a' cs') ∧ B a' (Rows.uptoBulk (D i)) := fun i hi => by
      obtain ⟨cs', h1, h2⟩ := hx i (by omega)
      obtain ⟨a', h3, h4⟩ := he.rd h2
      exact ⟨a', ⟨cs', h1, h3⟩, h4⟩
    refine ⟨List.ofFn fun i : Fin len => Classical.choose (hex i.1 i.2), ⟨some a, cap, by rw [List.length_ofFn], by rw [List.length_ofFn]; exact hl, fun _ => rfl, fun j y hy => ?_⟩, ?_, fun y hy => ?_⟩
    · rw [List.getElem?_ofFn] at hy
      split at hy
      · rename_i hj
        simp only [Option.some.injEq] at hy
        subst hy
        obtain ⟨⟨cs', h1, h2⟩, _⟩ := Classical.choose_spec (hex j hj)
        refine ⟨cs', h2, fun i u hu => ?_⟩
        obtain ⟨_, h5, h6⟩ := World.cells?_some h1
        have hi : i < P.cellsOf e := by rw [← h5]; exact (List.getElem?_eq_some_iff.1 hu).1
        have := h6 i hi
        rw [hu, add_add, he.sz] at this
        exact this
      · simp at hy
    · rw [List.length_ofFn]
      have h1 := bulk_len ((List.range len).map D)
      rw [List.length_map, List.length_range] at h1
      simp only [Rows.uptoBulk]
      omega
    · obtain ⟨i, hi⟩ := (List.mem_ofFn ..).1 hy
      subst hi
      refine ⟨Rows.uptoBulk (D i.1), ?_, (Classical.choose_spec (hex i.1 i.2)).2⟩
      have h1 := bulk_part (d := D i.1) (l := (List.range len).map D) (List.mem_map.2 ⟨i.1, List.mem_range.2 i.2, rfl⟩)
      simp only [Rows.uptoBulk]
      omega⟩
/-- A table. -/
def kTb : Kn Tb where
  sz := 2
  K := fun w t cs => ∃ A B ca cb, cs = [.slice A t.mv.length ca, .slice B t.go.length cb] ∧ t.rd w A B
  len := fun ⟨_, _, _, _, h, _⟩ => by rw [h]; rfl
  one := fun ⟨_, _, _, _, h, _⟩ u hu => by
    rw [h] at hu
    simp only [List.mem_cons, List.not_mem_nil, or_false] at hu
    rcases hu with rfl | rfl <;> rfl
  st := fun hb ⟨A, B, ca, cb, h, hr⟩ => ⟨A, B, ca, cb, h, hr.below hb⟩
theorem rds_tb {f0 f1 : Field} {t0 t1 : TypeId} (ht : P.underlying t = some (.struct #[f0, f1])) (hc : P.cellsOf t = 2) (h0 : (f0.type, f0.offset) = (t0, 0)) (h1 : (f1.type, f1.offset) = (t1, 1))
    {B0 B1 : _} (r0 : Rds P t0 fMv.kn.sl.sl B0) (r1 : Rds P t1 (kInt .i64).sl.sl B1) : Rds P t kTb (fun a n => ∃ n0 n1, n0 + n1 ≤ n ∧ B0 a.mv n0 ∧ B1 a.go n1) := ⟨hc, fun {H enc w base spare held fuel cs x} h => by
  simp only [Prod.mk.injEq] at h0 h1
  obtain ⟨y0, y1, n, rfl, hl, e0, e1⟩ := trod_struct2 ht h
  rw [h0.1, h0.2] at e0
  rw [h1.1, h1.2] at e1
  have s0 : P.cellsOf t0 = 1 := r0.sz
  have s1 : P.cellsOf t1 = 1 := r1.sz
  rw [s0] at e0
  rw [s1] at e1
  obtain ⟨mv, ⟨A, ca, ha, _, hra⟩, b0⟩ := r0.rd e0
  obtain ⟨go, ⟨B, cb, hb, _, hrb⟩, b1⟩ := r1.rd e1
  rw [hc] at hl
  obtain ⟨c0, c1, rfl⟩ := two_len hl
  · simp at ha hb
    subst ha hb
    exact ⟨⟨mv, go⟩, ⟨A, B, ca, cb, rfl, hra, hrb⟩, _, _, by simp only [Rows.uptoBulk, Rows.uptoBulkAll]; omega, b0, b1⟩⟩
def BRow (K : List Mv → Nat → Prop) : Prop := True
abbrev BMv (xs : List Mv) (n : Nat) : Prop := xs.length + 1 ≤ n ∧ ∀ x ∈ xs, ∃ m, m ≤ n ∧ (I64 x.d ∧ I64 x.n) ∧ 1 ≤ m
abbrev BInt (xs : List Int) (n : Nat) : Prop := xs.length + 1 ≤ n ∧ ∀ x ∈ xs, ∃ m, m ≤ n ∧ (Lit.int .i64 x).wf = true ∧ 1 ≤ m
theorem tb_ok {a : Tb} {n0 n1 : Nat} (h0 : a.mv.length + 1 ≤ n0 ∧ ∀ x ∈ a.mv, ∃ m, m ≤ n0 ∧ BMv x m) (h1 : a.go.length + 1 ≤ n1 ∧ ∀ x ∈ a.go, ∃ m, m ≤ n1 ∧ BInt x m) (hn : n0 + n1 ≤ 1048576) : a.ok :=
  ⟨by omega, by omega, fun r hr => by
    obtain ⟨m, hm, h2, h3⟩ := h0.2 r hr
    exact ⟨by omega, fun x hx => by obtain ⟨_, _, h4, _⟩ := h3 x hx; exact h4⟩, fun r hr => by
    obtain ⟨m, hm, h2, h3⟩ := h1.2 r hr
    exact ⟨by omega, fun x hx => by obtain ⟨_, _, h4, _⟩ := h3 x hx; exact i64_wf h4⟩⟩
end
end Go.Proofs.YtgdemplcpcacaaaFx

/-! A table's bytes: plain. -/
namespace Go.Proofs.YtgdemplcpcacaaaFx
open Go Go.RowKit
def okMv (m : Mv) : Prop := 0 ≤ m.d ∧ m.d ≤ 2147483647 ∧ 0 ≤ m.n ∧ m.n ≤ 2147483647
def okGo (x : Int) : Prop := -1 ≤ x ∧ x < 2147483647
def mvB (m : Mv) : List Int := vint m.d.toNat ++ vint m.n.toNat
def goB (x : Int) : List Int := vint (x + 1).toNat
def mvsB (ms : List Mv) : List Int := ms.flatMap mvB
def gosB (xs : List Int) : List Int := xs.flatMap goB
def rowB (t : Tb) (s : Nat) : List Int := mvsB (t.mv.getD s []) ++ gosB (t.go.getD s [])
def rowsB (t : Tb) (i : Nat) : List Int := (List.range i).flatMap (rowB t)
def headB (t : Tb) : List Int := vint t.mv.length ++ vint (t.mv.getD 0 []).length ++ vint (t.go.getD 0 []).length
def tbB (t : Tb) : List Int := headB t ++ rowsB t t.mv.length
def RowOk2 (t : Tb) (s : Nat) : Prop := (∀ m ∈ t.mv.getD s [], okMv m) ∧ ∀ x ∈ t.go.getD s [], okGo x
def ByOk (t : Tb) : Prop := Rect t ∧ ∀ s, s < t.mv.length → RowOk2 t s
noncomputable def bytesA (t : Tb) : List Int := if dec (ByOk t) then tbB t else []
noncomputable def bytesE (t : Tb) : Int := if dec (ByOk t) then 0 else 170
theorem by_t {t : Tb} (h : ByOk t) : bytesA t = tbB t ∧ bytesE t = 0 := by rw [bytesA, bytesE, dec_t h]; exact ⟨rfl, rfl⟩
theorem by_f {t : Tb} (h : ¬ ByOk t) : bytesA t = [] ∧ bytesE t = 170 := by rw [bytesA, bytesE, dec_f h]; exact ⟨rfl, rfl⟩
/-- A table of bulk at most the bound. -/
structure BSm (t : Tb) : Prop where
  ok : t.ok
  m : t.mv.length ≤ 1048576
  mr : ∀ r ∈ t.mv, r.length ≤ 1048576
  gr : ∀ r ∈ t.go, r.length ≤ 1048576
theorem BSm.ml {t : Tb} (h : BSm t) {i : Nat} (hi : i < t.mv.length) : (t.mv.getD i []).length ≤ 1048576 := h.mr _ (getD_mem hi)
theorem BSm.gl {t : Tb} (h : BSm t) {i : Nat} (hi : i < t.go.length) : (t.go.getD i []).length ≤ 1048576 := h.gr _ (getD_mem hi)
theorem vint5 {n : Nat} (h : n ≤ 2147483647) : (vint n).length ≤ 5 := vint_len 5 n (by simp only [Nat.reducePow]; omega) (by decide)
theorem mvsB_len {ms : List Mv} (h : ∀ m ∈ ms, okMv m) : (mvsB ms).length ≤ 10 * ms.length := by
  induction ms with
  | nil => simp [mvsB]
  | cons m r ih =>
    have h1 := ih fun x hx => h x (List.mem_cons_of_mem _ hx)
    obtain ⟨h2, h3, h4, h5⟩ := h m (List.mem_cons_self ..)
    have v1 := vint5 (n := m.d.toNat) (by omega)
    have v2 := vint5 (n := m.n.toNat) (by omega)
    show (mvB m ++ mvsB r).length ≤ _
    rw [List.length_append, mvB, List.length_append, List.length_cons]
    omega
theorem gosB_len {xs : List Int} (h : ∀ x ∈ xs, okGo x) : (gosB xs).length ≤ 5 * xs.length := by
  induction xs with
  | nil => simp [gosB]
  | cons m r ih =>
    have h1 := ih fun x hx => h x (List.mem_cons_of_mem _ hx)
    obtain ⟨h2, h3⟩ := h m (List.mem_cons_self ..)
    have v1 := vint5 (n := (m + 1).toNat) (by omega)
    show (goB m ++ gosB r).length ≤ _
    rw [List.length_append, goB, List.length_cons]
    omega
theorem rowsB_succ (t : Tb) (i : Nat) : rowsB t (i + 1) = rowsB t i ++ mvsB (t.mv.getD i []) ++ gosB (t.go.getD i []) := by
  rw [rowsB, List.range_succ, List.flatMap_append, List.append_assoc]
  simp [rowsB, rowB]
theorem rowsB_len {t : Tb} (hs : BSm t) (hg : t.go.length = t.mv.length) : ∀ i, i ≤ t.mv.length → (∀ s, s < i → RowOk2 t s) → (rowsB t i).length ≤ i * 15728640
  | 0, _, _ => by simp [rowsB]
  | i + 1, hi, h => by
    have h1 := rowsB_len hs hg i (by omega) fun s hs => h s (by omega)
    have h2 := mvsB_len (h i (by omega)).1
    have h3 := gosB_len (h i (by omega)).2
    have h4 := hs.ml (i := i) (by omega)
    have h5 := hs.gl (i := i) (by omega)
    rw [rowsB_succ, List.length_append, List.length_append]
    omega
theorem headB_len {t : Tb} (hs : BSm t) (hg : t.go.length = t.mv.length) (h0 : 0 < t.mv.length) : (headB t).length ≤ 15 := by
  have h1 := vint5 (n := t.mv.length) (by have := hs.m; omega)
  have h2 := vint5 (n := (t.mv.getD 0 []).length) (by have := hs.ml (i := 0) h0; omega)
  have h3 := vint5 (n := (t.go.getD 0 []).length) (by have := hs.gl (i := 0) (by omega); omega)
  rw [headB, List.length_append, List.length_append]
  omega
theorem mvsB_succ {ms : List Mv} {j : Nat} (h : j < ms.length) : mvsB (ms.take (j + 1)) = mvsB (ms.take j) ++ vint (ms.getD j mv0).d.toNat ++ vint (ms.getD j mv0).n.toNat := by
  rw [mvsB, take_succ' mv0 h, List.flatMap_append, List.append_assoc]
  simp [mvsB, mvB]
theorem gosB_succ {xs : List Int} {j : Nat} (h : j < xs.length) : gosB (xs.take (j + 1)) = gosB (xs.take j) ++ vint (xs.getD j 0 + 1).toNat := by
  rw [gosB, take_succ' 0 h, List.flatMap_append]
  simp [gosB, goB]
theorem take_ok {α : Type} {p : α → Prop} {xs : List α} {j : Nat} (z : α) (hj : j < xs.length) (h : ∀ x ∈ xs.take j, p x) (hx : p (xs.getD j z)) : ∀ x ∈ xs.take (j + 1), p x := fun x hxm => by
  rw [take_succ' z hj, List.mem_append, List.mem_singleton] at hxm
  rcases hxm with h1 | rfl
  · exact h x h1
  · exact hx
theorem out0 {t : Tb} (hs : BSm t) (hg : t.go.length = t.mv.length) (h0 : 0 < t.mv.length) {i : Nat} (hi : i ≤ t.mv.length) (h : ∀ s, s < i → RowOk2 t s) : (headB t ++ rowsB t i).length ≤ 20000000000000 := by
  have h1 := headB_len hs hg h0
  have h2 := rowsB_len hs hg i hi h
  have h3 := hs.m
  rw [List.length_append]
  omega
theorem out1 {t : Tb} (hs : BSm t) (hg : t.go.length = t.mv.length) {i j : Nat} (hi : i < t.mv.length) (h : ∀ s, s < i → RowOk2 t s) (hj : ∀ m ∈ (t.mv.getD i []).take j, okMv m) : (headB t ++ rowsB t i ++ mvsB ((t.mv.getD i []).take j)).length ≤ 30000000000000 := by
  have h1 := out0 hs hg (by omega) (Nat.le_of_lt hi) h
  have h2 := mvsB_len hj
  have h3 := hs.ml hi
  rw [List.length_take] at h2
  rw [List.length_append]
  omega
theorem out2 {t : Tb} (hs : BSm t) (hg : t.go.length = t.mv.length) {i j : Nat} (hi : i < t.mv.length) (h : ∀ s, s < i → RowOk2 t s) (hm : ∀ m ∈ t.mv.getD i [], okMv m) (hj : ∀ x ∈ (t.go.getD i []).take j, okGo x) : (headB t ++ rowsB t i ++ mvsB (t.mv.getD i []) ++ gosB ((t.go.getD i []).take j)).length ≤ 40000000000000 := by
  have h1 := out1 (j := (t.mv.getD i []).length) hs hg hi h (by rw [List.take_length]; exact hm)
  have h2 := gosB_len hj
  have h3 := hs.gl (i := i) (by omega)
  rw [List.take_length] at h1
  rw [List.length_take] at h2
  rw [List.length_append]
  omega
end Go.Proofs.YtgdemplcpcacaaaFx

/-! What came in, its rows' lengths together. -/
namespace Go.Proofs.YtgdemplcpcacaaaFx
open Go Go.RowKit Go.ChangeShapes Go.WideShapes Go.ChangeAt Go.Deep
open Go.Proofs.Ytgdemplcpcacaaa (Rows.uptoBulk Rows.uptoBulkAll Rows.uptoSmall)
theorem sum_le : ∀ {l1 l2 : List Nat}, l1.length = l2.length → (∀ j (h1 : j < l1.length) (h2 : j < l2.length), l1[j] ≤ l2[j]) → l1.sum ≤ l2.sum
  | [], [], _, _ => Nat.le_refl _
  | [], _ :: _, h, _ => by simp at h
  | _ :: _, [], h, _ => by simp at h
  | a :: l1, b :: l2, h, hj => by
    rw [List.sum_cons, List.sum_cons]
    have h0 := hj 0 (by simp) (by simp)
    have ih := sum_le (l1 := l1) (l2 := l2) (by simpa using h) fun j h1 h2 => by
      have := hj (j + 1) (by simp; exact h1) (by simp; exact h2)
      simpa using this
    simp only [List.getElem_cons_zero] at h0
    omega
theorem bulk_sum {H : Type} : ∀ l : List (DataW H), Rows.uptoBulkAll l = (l.map Rows.uptoBulk).sum
  | [] => rfl
  | x :: r => by rw [Rows.uptoBulkAll, bulk_sum r, List.map_cons, List.sum_cons]
section
variable {P : Program} {t e : TypeId}
theorem rds_slS {α : Type} {K : Kn α} {B : α → Nat → Prop} (μ : α → Nat) (hμ : ∀ a n, B a n → μ a ≤ n) (ht : P.underlying t = some (.slice e)) (hc : P.cellsOf t = 1) (he : Rds P e K B) : Rds P t K.sl (fun xs n => ((xs.map μ).sum + 1 ≤ n ∧ xs.length + 1 ≤ n) ∧ ∀ x ∈ xs, ∃ m, m ≤ n ∧ B x m) := ⟨hc, fun {H enc w base spare held fuel cs x} h => by
  rcases open_slice ht h with ⟨rfl, rfl⟩ | ⟨a, len, cap, m, n, D, Pl, rfl, _, hl, hm, hmm, rfl, hx⟩
  · exact ⟨[], ⟨none, 0, rfl, Nat.le_refl _, Rd.nil _ _ _⟩, by simp [Rows.uptoBulk], fun x hx => by simp at hx⟩
  · have hlm : len ≤ m := by rw [hmm]; split <;> omega
    have hex : ∀ i, i < len → ∃ a' : α, (∃ cs', w.cells? base (a.add (i * P.cellsOf e)) (P.cellsOf e) = some cs' ∧ K.K w a' cs') ∧ B a' (Rows.uptoBulk (D i)) := fun i hi => by
      obtain ⟨cs', h1, h2⟩ := hx i (by omega)
      obtain ⟨a', h3, h4⟩ := he.rd h2
      exact ⟨a', ⟨cs', h1, h3⟩, h4⟩
    refine ⟨List.ofFn fun i : Fin len => Classical.choose (hex i.1 i.2), ⟨some a, cap, by rw [List.length_ofFn], by rw [List.length_ofFn]; exact hl, fun _ => rfl, fun j y hy => ?_⟩, ⟨?_, ?_⟩, fun y hy => ?_⟩
    · rw [List.getElem?_ofFn] at hy
      split at hy
      · rename_i hj
        simp only [Option.some.injEq] at hy
        subst hy
        obtain ⟨⟨cs', h1, h2⟩, _⟩ := Classical.choose_spec (hex j hj)
        refine ⟨cs', h2, fun i u hu => ?_⟩
        obtain ⟨_, h5, h6⟩ := World.cells?_some h1
        have hi : i < P.cellsOf e := by rw [← h5]; exact (List.getElem?_eq_some_iff.1 hu).1
        have := h6 i hi
        rw [hu, add_add, he.sz] at this
        exact this
      · simp at hy
    · have h1 : ((List.ofFn fun i : Fin len => Classical.choose (hex i.1 i.2)).map μ).sum ≤ (((List.range len).map D).map Rows.uptoBulk).sum := sum_le (by simp) fun j h1 h2 => by
        simp only [List.getElem_map, List.getElem_ofFn, List.getElem_range]
        have hj : j < len := by simpa using h1
        exact hμ _ _ (Classical.choose_spec (hex j hj)).2
      rw [← bulk_sum] at h1
      simp only [Rows.uptoBulk]
      omega
    · rw [List.length_ofFn]
      have h1 := bulk_len ((List.range len).map D)
      rw [List.length_map, List.length_range] at h1
      simp only [Rows.uptoBulk]
      omega
    · obtain ⟨i, hi⟩ := (List.mem_ofFn ..).1 hy
      subst hi
      refine ⟨Rows.uptoBulk (D i.1), ?_, (Classical.choose_spec (hex i.1 i.2)).2⟩
      have h1 := bulk_part (d := D i.1) (l := (List.range len).map D) (List.mem_map.2 ⟨i.1, List.mem_range.2 i.2, rfl⟩)
      simp only [Rows.uptoBulk]
      omega⟩
end
/-- So many elements in all rows. -/
def rowsN {α : Type} (xs : List (List α)) : Nat := (xs.map fun r => r.length + 1).sum
theorem rowsN_succ {α : Type} {xs : List (List α)} {i : Nat} (h : i < xs.length) : rowsN (xs.take (i + 1)) = rowsN (xs.take i) + ((xs.getD i []).length + 1) := by
  rw [rowsN, take_succ' [] h, List.map_append, List.sum_append]
  simp [rowsN]
theorem rowsB_len2 {t : Tb} (hg : t.go.length = t.mv.length) : ∀ i, i ≤ t.mv.length → (∀ s, s < i → RowOk2 t s) → (rowsB t i).length ≤ 10 * rowsN (t.mv.take i) + 5 * rowsN (t.go.take i)
  | 0, _, _ => by simp [rowsB]
  | i + 1, hi, h => by
    have h1 := rowsB_len2 hg i (by omega) fun s hs => h s (by omega)
    have h2 := mvsB_len (h i (by omega)).1
    have h3 := gosB_len (h i (by omega)).2
    rw [rowsB_succ, List.length_append, List.length_append, rowsN_succ (by omega), rowsN_succ (by omega)]
    omega
theorem tbB_len {t : Tb} (hb : BSm t) (h : ByOk t) (h1 : rowsN t.mv ≤ 1048576) (h2 : rowsN t.go ≤ 1048576) : (tbB t).length ≤ 549755813888 := by
  obtain ⟨⟨r1, r2, r3, r4⟩, hok⟩ := h
  have h3 := headB_len hb r3 r1
  have h4 := rowsB_len2 r3 t.mv.length (Nat.le_refl _) hok
  rw [List.take_length, show t.go.take t.mv.length = t.go by rw [← r3, List.take_length]] at h4
  rw [tbB, List.length_append]
  omega
end Go.Proofs.YtgdemplcpcacaaaFx
