/- An action's parts counted. -/
import Derived.Test.YtgdemplcpcacaaaProg
import Derived.Test.YtgdemplcpcacaaaK02
set_option linter.unusedVariables false
set_option linter.unusedSimpArgs false
/-! An action's parts counted. -/
namespace Go.Proofs.Ytgdemplcpcacaaa.PartsW
open Go Go.RowKit Go.Proofs.YtgdemplcpcacaaaFx 
theorem agg69 : Agg Try.prog 69 4 := agg_of Try.underlying69 (by kernel_rfl)
theorem en83 : Enters Try.prog 83 := enters Try.func83 (by kernel_rfl) rfl
theorem en96 : Enters Try.prog 96 := enters Try.func96 (by kernel_rfl) rfl
theorem fa69_0 : FieldAt Try.prog 69 0 0 := field_at (sz := 0) Try.underlying69 rfl (by kernel_rfl) rfl
theorem fa69_1 : FieldAt Try.prog 69 1 1 := field_at (sz := 0) Try.underlying69 rfl (by kernel_rfl) rfl
theorem fa69_2 : FieldAt Try.prog 69 2 2 := field_at (sz := 0) Try.underlying69 rfl (by kernel_rfl) rfl
theorem fa69_3 : FieldAt Try.prog 69 3 3 := field_at (sz := 0) Try.underlying69 rfl (by kernel_rfl) rfl
theorem one3 : One Try.prog 3 := one_of Try.underlying3 rfl (by kernel_rfl)
theorem one67 : One Try.prog 67 := one_of Try.underlying67 rfl (by kernel_rfl)
theorem one9 : One Try.prog 9 := one_of Try.underlying9 rfl (by kernel_rfl)
theorem sz3 : ∀ W, (sizeOf 3).run Try.prog W = .ok 1 W := size_of (by kernel_rfl)
theorem sz69 : ∀ W, (sizeOf 69).run Try.prog W = .ok 4 W := size_of (by kernel_rfl)
theorem zv69 : ∀ W, (zeroValue 69).run Try.prog W = .ok (.agg #[.int .i64 0, .int .i64 0, .string ⟨#[]⟩, .slice none 0 0]) W := zero_of (by kernel_rfl)

def PartsOk (t : Ac) : Prop := ∀ (w0 w : World) (L : List Ch) (B : Option Addr) (b k : Nat) (n syms : Int) (hk : t.kids.length ≤ k) (hr : Rd (kTr fAc) w0 B t.kids) (hn : 0 ≤ n ∧ n + t.cnt ≤ 4611686018427387904) (HH : Holds w0 (Blk b 3 [.int .i64 n] :: L) w), Calls Try.prog 83 #[.agg #[.int .i64 t.x.kind, .int .i64 t.x.at_, .string t.x.name, .slice B t.kids.length k], .int .i64 syms, .pointer (some ⟨b, 0, none⟩)] w fun e w' => ∃ v, e = .returned v ∧ ∃ m, v = .bool (dec (t.All (nodeOk syms) ∧ n + t.cnt ≤ 256)) ∧ (((t.All (nodeOk syms) ∧ n + t.cnt ≤ 256) → m = n + t.cnt) ∧ n ≤ m ∧ m ≤ n + t.cnt) ∧ Holds w0 (Blk b 3 [.int .i64 m] :: L) w'

set_option maxHeartbeats 3200000 in
set_option maxRecDepth 100000 in
theorem parts_step {w0 w : World} {L : List Ch} {B : Option Addr} {b k : Nat} {n syms : Int} {t : Ac} (hk : t.kids.length ≤ k) (hr : Rd (kTr fAc) w0 B t.kids) (hn : 0 ≤ n ∧ n + t.cnt ≤ 4611686018427387904) (HH : Holds w0 (Blk b 3 [.int .i64 n] :: L) w) (ih : ∀ t' ∈ t.kids, PartsOk t') : Calls Try.prog 83 #[.agg #[.int .i64 t.x.kind, .int .i64 t.x.at_, .string t.x.name, .slice B t.kids.length k], .int .i64 syms, .pointer (some ⟨b, 0, none⟩)] w fun e w' => ∃ v, e = .returned v ∧ ∃ m, v = .bool (dec (t.All (nodeOk syms) ∧ n + t.cnt ≤ 256)) ∧ (((t.All (nodeOk syms) ∧ n + t.cnt ≤ 256) → m = n + t.cnt) ∧ n ≤ m ∧ m ≤ n + t.cnt) ∧ Holds w0 (Blk b 3 [.int .i64 m] :: L) w' := by
  have hcnt := Tr.cnt_eq t
  have hkl := Tr.cnts_len t.kids
  refine calls_of Try.func83 rfl Try.ntmps83 rfl ?_
  have H := HH
  refine wcR ?_
  refine wl_box (cs := [_, _, _, _]) H rfl rfl rfl ?_
  intro b3 w1 hb3 H2
  refine wA ?_
  refine wl_nil ?_
  refine wcR ?_
  refine wM ?_
  refine wV (v_nil rfl) ?_
  refine wV (v_load one3 rfl (H2.at (by repeat constructor) rfl)) ?_
  refine wV (v_addi rfl rfl (by omega)) ?_
  refine wV (v_nil rfl) ?_
  refine wl_store (vs := [_]) H2 (by repeat constructor) sz3 rfl rfl rfl rfl rfl (by (repeat constructor)) ?_
  intro w3 H4 hw3
  refine wl_nil ?_
  refine wcR ?_
  refine wV (v_fb (o2 := 3) fa69_3 rfl rfl) ?_
  refine wV (v_load one67 rfl (H4.at (by repeat constructor) rfl)) ?_
  refine wV (v_len Try.underlying67 rfl) ?_
  refine wV (v_eql rfl rfl) ?_
  refine wA ?_
  refine wl_nil ?_
  refine wcR ?_
  refine wA ?_
  refine wl_nil ?_
  refine wc_cut (σ := Bool) (fun q => [(1, .int .i64 syms), (2, .pointer (some ⟨b, 0, none⟩)), (3, .pointer (some ⟨b3, 0, none⟩)), (8, .bool q)]) (fun q W => q = dec (nodeOk syms t.x t.kids.length) ∧ Holds w0 (Blk b 3 [.int .i64 (n + 1)] :: Blk b3 69 [.int .i64 t.x.kind, .int .i64 t.x.at_, .string t.x.name, .slice B t.kids.length k] :: L) W) ?_ ?_
  rotate_left
  ·rintro ok Wm ⟨hok, H⟩
   refine wc_seq ?_
   refine wcR ?_
   refine wV (v_fb (o2 := 3) fa69_3 rfl rfl) ?_
   refine wV (v_load one67 rfl (H.at (by repeat constructor) rfl)) ?_
   refine wV (v_len Try.underlying67 rfl) ?_
   refine wM ?_
   refine wl_nil ?_
   refine wc_block ?_
   refine wc_loop (σ := Nat × Int × Bool) (fun s => [(1, .int .i64 syms), (2, .pointer (some ⟨b, 0, none⟩)), (3, .pointer (some ⟨b3, 0, none⟩)), (8, .bool s.2.2), (86, .slice B t.kids.length k), (87, .int .i64 t.kids.length), (88, .int .i64 s.1)]) (fun s W => PSt syms t n s.1 s.2.1 s.2.2 ∧ Holds w0 (Blk b 3 [.int .i64 s.2.1] :: Blk b3 69 [.int .i64 t.x.kind, .int .i64 t.x.at_, .string t.x.name, .slice B t.kids.length k] :: L) W) (fun s => t.kids.length - s.1) (0, n + 1, ok) (sc rfl (sc rfl (sc rfl (sc rfl (sc rfl (sc rfl (sc rfl (sn _)))))))) ⟨PSt.start hok, H⟩ ?_
   rintro ⟨i, m, ok2⟩ W0 ⟨hp, H⟩
   dsimp only at hp H ⊢
   have hle := hp.le
   have hlo := hp.lo
   have hhi := hp.hi
   have hct := hp.cnt
   refine wcR ?_
   refine wV (v_lss rfl rfl) ?_
   refine wl_nil ?_
   refine wc_seq ?_
   refine wc_cond rfl (fun c4 => ?_) (fun c4 => ?_)
   rotate_left
   ·have c4p := oF c4
    refine wc_exit ?_
    refine wcR ?_
    refine wM ?_
    refine wM ?_
    refine wl_guard rfl rfl rfl (fun g107 => ?_) (fun g107 => ?_)
    rotate_left
    ·refine wF g107 ?_
     refine wF g107 ?_
     refine wF g107 ?_
     refine wV (v_pick_f rfl g107 rfl) ?_
     refine wA ?_
     refine wl_nil ?_
     refine wc_ret ?_
     first
       | exact ⟨_, res1 rfl rfl, m, congrArg Value.bool (hp.fin c4p ⟨fun hd => ⟨g107, of_decide_eq_true hd⟩, fun hh => decide_eq_true hh.2⟩), hp.out c4p, H.drop (.there _ (.here _ _))⟩
       | exact ⟨_, res1 rfl rfl, m, congrArg Value.bool (hp.fin c4p ⟨fun hd => absurd hd Bool.noConfusion, fun hh => absurd (hh.1.symm.trans g107) Bool.noConfusion⟩), hp.out c4p, H.drop (.there _ (.here _ _))⟩
    refine wM ?_
    refine wO g107 ?_
    refine wV (v_nil rfl) ?_
    refine wO g107 ?_
    refine wV (v_load one3 rfl (H.at (by repeat constructor) rfl)) ?_
    refine wO g107 ?_
    refine wV (v_leq rfl rfl) ?_
    refine wV (v_pick_t rfl g107 rfl) ?_
    refine wA ?_
    refine wl_nil ?_
    refine wc_ret ?_
    first
      | exact ⟨_, res1 rfl rfl, m, congrArg Value.bool (hp.fin c4p ⟨fun hd => ⟨g107, of_decide_eq_true hd⟩, fun hh => decide_eq_true hh.2⟩), hp.out c4p, H.drop (.there _ (.here _ _))⟩
      | exact ⟨_, res1 rfl rfl, m, congrArg Value.bool (hp.fin c4p ⟨fun hd => absurd hd Bool.noConfusion, fun hh => absurd (hh.1.symm.trans g107) Bool.noConfusion⟩), hp.out c4p, H.drop (.there _ (.here _ _))⟩
   have c4p := oT c4
   have hsucc := Tr.cnts_succ ac0 t.kids i (by omega)
   have htk := Tr.cnts_take t.kids (i + 1)
   refine wc_skip ?_
   refine wc_seq ?_
   refine wc_block ?_
   refine wcR ?_
   refine wV (v_idx Try.underlying67 sz69 hr.ad rfl rfl (by omega) (by omega)) ?_
   obtain ⟨B91_, k91_, hc91_, hl91_, hr91_⟩ := hr.atTr ac0 (i := i) (by omega)
   refine wV (v_loadN (cs := [.int .i64 (t.kids.getD i ac0).x.kind, .int .i64 (t.kids.getD i ac0).x.at_, .string (t.kids.getD i ac0).x.name, .slice B91_ (t.kids.getD i ac0).kids.length k91_]) agg69 rfl rfl (fun q_ u_ hu_ => H.cell (hc91_ q_ u_ hu_))) ?_
   refine wl_alloc (cs := [.int .i64 0, .int .i64 0, .string ⟨#[]⟩, .slice none 0 0]) H rfl zv69 rfl ?_
   intro b10 w8 hb10 H9
   refine wl_store (vs := [_, _, _, _]) H9 (by repeat constructor) sz69 rfl rfl rfl rfl rfl (by (repeat constructor)) ?_
   intro w10 H11 hw10
   refine wl_nil ?_
   refine wc_region ?_
   refine wM ?_
   refine wM ?_
   refine wl_guard rfl rfl rfl (fun g93 => ?_) (fun g93 => ?_)
   rotate_left
   ·refine wF g93 ?_
    refine wF g93 ?_
    refine wF g93 ?_
    refine wV (v_pick_f rfl g93 rfl) ?_
    refine wM ?_
    refine wF rfl ?_
    refine wF rfl ?_
    refine wF rfl ?_
    refine wF rfl ?_
    refine wV (v_pick_f rfl rfl rfl) ?_
    refine wA ?_
    refine wl_nil ?_
    refine wc_region ?_
    refine wV (v_addi rfl rfl (by omega)) ?_
    refine wM ?_
    refine wl_nil ?_
    first
      | exact ⟨(i + 1, m2, _), (sc rfl (sc rfl (sc rfl (sc rfl (sc rfl (sc rfl (sc rfl (sn _)))))))), ⟨hps, H11.drop (.there _ (.here _ _))⟩, by dsimp only; omega⟩
      | exact ⟨(i + 1, m, _), (sc rfl (sc rfl (sc rfl (sc rfl (sc rfl (sc rfl (sc rfl (sn _)))))))), ⟨hp.skip (by omega) (.inl g93) rfl, H11.tail⟩, by dsimp only; omega⟩
      | exact ⟨(i + 1, m, _), (sc rfl (sc rfl (sc rfl (sc rfl (sc rfl (sc rfl (sc rfl (sn _)))))))), ⟨hp.skip (by omega) (.inr (by omega)) rfl, H11.tail⟩, by dsimp only; omega⟩
   refine wM ?_
   refine wO g93 ?_
   refine wV (v_nil rfl) ?_
   refine wO g93 ?_
   refine wV (v_load one3 rfl (H11.at (by repeat constructor) rfl)) ?_
   refine wO g93 ?_
   refine wV (v_leq rfl rfl) ?_
   refine wV (v_pick_t rfl g93 rfl) ?_
   refine wM ?_
   refine wl_guard rfl rfl rfl (fun g99 => ?_) (fun g99 => ?_)
   rotate_left
   ·have g99p := oF g99
    refine wF g99 ?_
    refine wF g99 ?_
    refine wF g99 ?_
    refine wV (v_pick_f rfl g99 rfl) ?_
    refine wA ?_
    refine wl_nil ?_
    refine wc_region ?_
    refine wV (v_addi rfl rfl (by omega)) ?_
    refine wM ?_
    refine wl_nil ?_
    first
      | exact ⟨(i + 1, m2, _), (sc rfl (sc rfl (sc rfl (sc rfl (sc rfl (sc rfl (sc rfl (sn _)))))))), ⟨hps, H11.drop (.there _ (.here _ _))⟩, by dsimp only; omega⟩
      | exact ⟨(i + 1, m, _), (sc rfl (sc rfl (sc rfl (sc rfl (sc rfl (sc rfl (sc rfl (sn _)))))))), ⟨hp.skip (by omega) (.inl g93) rfl, H11.tail⟩, by dsimp only; omega⟩
      | exact ⟨(i + 1, m, _), (sc rfl (sc rfl (sc rfl (sc rfl (sc rfl (sc rfl (sc rfl (sn _)))))))), ⟨hp.skip (by omega) (.inr (by omega)) rfl, H11.tail⟩, by dsimp only; omega⟩
   have g99p := oT g99
   refine wV (v_loadN agg69 rfl rfl (H11.ats (by repeat constructor))) ?_
   refine wO g99 ?_
   refine wM ?_
   refine wO g99 ?_
   refine wM ?_
   refine wO g99 ?_
   refine wl_call en83 rfl rfl (ih _ (getD_mem (z := ac0) (show i < t.kids.length by omega)) w0 _ _ _ _ _ m syms hl91_ hr91_ (by omega) (H11.turn (A := Blk b 3 [.int .i64 m]) (by repeat constructor))) ?_
   rintro _ w12 ⟨m2, rfl, ⟨hm1, hm2⟩, Hc⟩
   have hps := hp.call (by omega) g93 rfl hm1 hm2
   refine wV (v_pick_t rfl g99 rfl) ?_
   refine wA ?_
   refine wl_nil ?_
   refine wc_region ?_
   refine wV (v_addi rfl rfl (by omega)) ?_
   refine wM ?_
   refine wl_nil ?_
   first
     | exact ⟨(i + 1, m2, _), (sc rfl (sc rfl (sc rfl (sc rfl (sc rfl (sc rfl (sc rfl (sn _)))))))), ⟨hps, Hc.drop (.there _ (.here _ _))⟩, by dsimp only; omega⟩
     | exact ⟨(i + 1, m, _), (sc rfl (sc rfl (sc rfl (sc rfl (sc rfl (sc rfl (sc rfl (sn _)))))))), ⟨hp.skip (by omega) (.inl g93) rfl, Hc.tail⟩, by dsimp only; omega⟩
     | exact ⟨(i + 1, m, _), (sc rfl (sc rfl (sc rfl (sc rfl (sc rfl (sc rfl (sc rfl (sn _)))))))), ⟨hp.skip (by omega) (.inr (by omega)) rfl, Hc.tail⟩, by dsimp only; omega⟩
  refine wcR ?_
  refine wV (v_fb (o2 := 0) fa69_0 rfl rfl) ?_
  refine wV (v_load one3 rfl (H4.at (by repeat constructor) rfl)) ?_
  refine wl_nil ?_
  refine wc_block ?_
  refine wcR ?_
  refine wV (v_eql rfl rfl) ?_
  refine wA ?_
  refine wl_nil ?_
  refine wc_cond rfl (fun c0 => ?_) (fun c0 => ?_)
  ·have c0p := oT c0
   refine wc_region ?_
   refine wM ?_
   refine wM ?_
   refine wl_guard rfl rfl rfl (fun g25 => ?_) (fun g25 => ?_)
   rotate_left
   ·have g25p := oF g25
    refine wF g25 ?_
    refine wF g25 ?_
    refine wV (v_pick_f rfl g25 rfl) ?_
    refine wM ?_
    refine wF rfl ?_
    refine wF rfl ?_
    refine wF rfl ?_
    refine wV (v_pick_f rfl rfl rfl) ?_
    refine wA ?_
    refine wl_nil ?_
    first
      | exact ⟨_, (sc rfl (sc rfl (sc rfl (sc rfl (sn _))))), ⟨dec_eq ⟨fun hd => by (have h_ := oT hd; unfold nodeOk; omega), fun hh => decide_eq_true (by unfold nodeOk at hh; omega)⟩, H4.turn (by repeat constructor)⟩⟩
      | exact ⟨_, (sc rfl (sc rfl (sc rfl (sc rfl (sn _))))), ⟨(dec_f fun hh => by unfold nodeOk at hh; omega).symm, H4.turn (by repeat constructor)⟩⟩
   have g25p := oT g25
   refine wV (v_fb (o2 := 1) fa69_1 rfl rfl) ?_
   refine wO g25 ?_
   refine wV (v_load one3 rfl (H4.at (by repeat constructor) rfl)) ?_
   refine wO g25 ?_
   refine wV (v_eql rfl rfl) ?_
   refine wV (v_pick_t rfl g25 rfl) ?_
   refine wM ?_
   refine wl_guard rfl rfl rfl (fun g30 => ?_) (fun g30 => ?_)
   rotate_left
   ·have g30p := oF g30
    refine wF g30 ?_
    refine wF g30 ?_
    refine wV (v_pick_f rfl g30 rfl) ?_
    refine wA ?_
    refine wl_nil ?_
    first
      | exact ⟨_, (sc rfl (sc rfl (sc rfl (sc rfl (sn _))))), ⟨dec_eq ⟨fun hd => by (have h_ := oT hd; unfold nodeOk; omega), fun hh => decide_eq_true (by unfold nodeOk at hh; omega)⟩, H4.turn (by repeat constructor)⟩⟩
      | exact ⟨_, (sc rfl (sc rfl (sc rfl (sc rfl (sn _))))), ⟨(dec_f fun hh => by unfold nodeOk at hh; omega).symm, H4.turn (by repeat constructor)⟩⟩
   have g30p := oT g30
   refine wV (v_fb (o2 := 2) fa69_2 rfl rfl) ?_
   refine wO g30 ?_
   refine wV (v_load one9 rfl (H4.at (by repeat constructor) rfl)) ?_
   refine wO g30 ?_
   refine wV (v_eql0 rfl rfl) ?_
   refine wV (v_pick_t rfl g30 rfl) ?_
   refine wA ?_
   refine wl_nil ?_
   first
     | exact ⟨_, (sc rfl (sc rfl (sc rfl (sc rfl (sn _))))), ⟨dec_eq ⟨fun hd => by (have h_ := oT hd; unfold nodeOk; omega), fun hh => decide_eq_true (by unfold nodeOk at hh; omega)⟩, H4.turn (by repeat constructor)⟩⟩
     | exact ⟨_, (sc rfl (sc rfl (sc rfl (sc rfl (sn _))))), ⟨(dec_f fun hh => by unfold nodeOk at hh; omega).symm, H4.turn (by repeat constructor)⟩⟩
  have c0p := oF c0
  refine wcR ?_
  refine wV (v_eql rfl rfl) ?_
  refine wA ?_
  refine wl_nil ?_
  refine wc_cond rfl (fun c1 => ?_) (fun c1 => ?_)
  ·have c1p := oT c1
   refine wc_region ?_
   refine wM ?_
   refine wM ?_
   refine wl_guard rfl rfl rfl (fun g38 => ?_) (fun g38 => ?_)
   rotate_left
   ·have g38p := oF g38
    refine wF g38 ?_
    refine wF g38 ?_
    refine wV (v_pick_f rfl g38 rfl) ?_
    refine wM ?_
    refine wF rfl ?_
    refine wF rfl ?_
    refine wF rfl ?_
    refine wF rfl ?_
    refine wV (v_pick_f rfl rfl rfl) ?_
    refine wM ?_
    refine wF rfl ?_
    refine wF rfl ?_
    refine wF rfl ?_
    refine wV (v_pick_f rfl rfl rfl) ?_
    refine wA ?_
    refine wl_nil ?_
    first
      | exact ⟨_, (sc rfl (sc rfl (sc rfl (sc rfl (sn _))))), ⟨dec_eq ⟨fun hd => by (have h_ := oT hd; unfold nodeOk; omega), fun hh => decide_eq_true (by unfold nodeOk at hh; omega)⟩, H4.turn (by repeat constructor)⟩⟩
      | exact ⟨_, (sc rfl (sc rfl (sc rfl (sc rfl (sn _))))), ⟨(dec_f fun hh => by unfold nodeOk at hh; omega).symm, H4.turn (by repeat constructor)⟩⟩
   have g38p := oT g38
   refine wV (v_fb (o2 := 1) fa69_1 rfl rfl) ?_
   refine wO g38 ?_
   refine wV (v_load one3 rfl (H4.at (by repeat constructor) rfl)) ?_
   refine wO g38 ?_
   refine wV (v_geq rfl rfl) ?_
   refine wV (v_pick_t rfl g38 rfl) ?_
   refine wM ?_
   refine wl_guard rfl rfl rfl (fun g43 => ?_) (fun g43 => ?_)
   rotate_left
   ·have g43p := oF g43
    refine wF g43 ?_
    refine wF g43 ?_
    refine wF g43 ?_
    refine wV (v_pick_f rfl g43 rfl) ?_
    refine wM ?_
    refine wF rfl ?_
    refine wF rfl ?_
    refine wF rfl ?_
    refine wV (v_pick_f rfl rfl rfl) ?_
    refine wA ?_
    refine wl_nil ?_
    first
      | exact ⟨_, (sc rfl (sc rfl (sc rfl (sc rfl (sn _))))), ⟨dec_eq ⟨fun hd => by (have h_ := oT hd; unfold nodeOk; omega), fun hh => decide_eq_true (by unfold nodeOk at hh; omega)⟩, H4.turn (by repeat constructor)⟩⟩
      | exact ⟨_, (sc rfl (sc rfl (sc rfl (sc rfl (sn _))))), ⟨(dec_f fun hh => by unfold nodeOk at hh; omega).symm, H4.turn (by repeat constructor)⟩⟩
   have g43p := oT g43
   refine wV (v_fb (o2 := 1) fa69_1 rfl rfl) ?_
   refine wO g43 ?_
   refine wV (v_load one3 rfl (H4.at (by repeat constructor) rfl)) ?_
   refine wO g43 ?_
   refine wM ?_
   refine wO g43 ?_
   refine wV (v_lss rfl rfl) ?_
   refine wV (v_pick_t rfl g43 rfl) ?_
   refine wM ?_
   refine wl_guard rfl rfl rfl (fun g49 => ?_) (fun g49 => ?_)
   rotate_left
   ·have g49p := oF g49
    refine wF g49 ?_
    refine wF g49 ?_
    refine wV (v_pick_f rfl g49 rfl) ?_
    refine wA ?_
    refine wl_nil ?_
    first
      | exact ⟨_, (sc rfl (sc rfl (sc rfl (sc rfl (sn _))))), ⟨dec_eq ⟨fun hd => by (have h_ := oT hd; unfold nodeOk; omega), fun hh => decide_eq_true (by unfold nodeOk at hh; omega)⟩, H4.turn (by repeat constructor)⟩⟩
      | exact ⟨_, (sc rfl (sc rfl (sc rfl (sc rfl (sn _))))), ⟨(dec_f fun hh => by unfold nodeOk at hh; omega).symm, H4.turn (by repeat constructor)⟩⟩
   have g49p := oT g49
   refine wV (v_fb (o2 := 2) fa69_2 rfl rfl) ?_
   refine wO g49 ?_
   refine wV (v_load one9 rfl (H4.at (by repeat constructor) rfl)) ?_
   refine wO g49 ?_
   refine wV (v_eql0 rfl rfl) ?_
   refine wV (v_pick_t rfl g49 rfl) ?_
   refine wA ?_
   refine wl_nil ?_
   first
     | exact ⟨_, (sc rfl (sc rfl (sc rfl (sc rfl (sn _))))), ⟨dec_eq ⟨fun hd => by (have h_ := oT hd; unfold nodeOk; omega), fun hh => decide_eq_true (by unfold nodeOk at hh; omega)⟩, H4.turn (by repeat constructor)⟩⟩
     | exact ⟨_, (sc rfl (sc rfl (sc rfl (sc rfl (sn _))))), ⟨(dec_f fun hh => by unfold nodeOk at hh; omega).symm, H4.turn (by repeat constructor)⟩⟩
  have c1p := oF c1
  refine wcR ?_
  refine wV (v_eql rfl rfl) ?_
  refine wA ?_
  refine wl_nil ?_
  refine wc_cond rfl (fun c2 => ?_) (fun c2 => ?_)
  ·have c2p := oT c2
   refine wc_region ?_
   refine wM ?_
   refine wM ?_
   refine wl_guard rfl rfl rfl (fun g57 => ?_) (fun g57 => ?_)
   rotate_left
   ·have g57p := oF g57
    refine wF g57 ?_
    refine wF g57 ?_
    refine wV (v_pick_f rfl g57 rfl) ?_
    refine wM ?_
    refine wF rfl ?_
    refine wF rfl ?_
    refine wF rfl ?_
    refine wF rfl ?_
    refine wV (v_pick_f rfl rfl rfl) ?_
    refine wA ?_
    refine wl_nil ?_
    first
      | exact ⟨_, (sc rfl (sc rfl (sc rfl (sc rfl (sn _))))), ⟨dec_eq ⟨fun hd => by (have h_ := oT hd; unfold nodeOk; omega), fun hh => decide_eq_true (by unfold nodeOk at hh; omega)⟩, H4.turn (by repeat constructor)⟩⟩
      | exact ⟨_, (sc rfl (sc rfl (sc rfl (sc rfl (sn _))))), ⟨(dec_f fun hh => by unfold nodeOk at hh; omega).symm, H4.turn (by repeat constructor)⟩⟩
   have g57p := oT g57
   refine wV (v_fb (o2 := 1) fa69_1 rfl rfl) ?_
   refine wO g57 ?_
   refine wV (v_load one3 rfl (H4.at (by repeat constructor) rfl)) ?_
   refine wO g57 ?_
   refine wV (v_eql rfl rfl) ?_
   refine wV (v_pick_t rfl g57 rfl) ?_
   refine wM ?_
   refine wl_guard rfl rfl rfl (fun g62 => ?_) (fun g62 => ?_)
   rotate_left
   ·have g62p := oF g62
    refine wF g62 ?_
    refine wF g62 ?_
    refine wF g62 ?_
    refine wV (v_pick_f rfl g62 rfl) ?_
    refine wA ?_
    refine wl_nil ?_
    first
      | exact ⟨_, (sc rfl (sc rfl (sc rfl (sc rfl (sn _))))), ⟨dec_eq ⟨fun hd => by (have h_ := oT hd; unfold nodeOk; omega), fun hh => decide_eq_true (by unfold nodeOk at hh; omega)⟩, H4.turn (by repeat constructor)⟩⟩
      | exact ⟨_, (sc rfl (sc rfl (sc rfl (sc rfl (sn _))))), ⟨(dec_f fun hh => by unfold nodeOk at hh; omega).symm, H4.turn (by repeat constructor)⟩⟩
   have g62p := oT g62
   refine wV (v_fb (o2 := 2) fa69_2 rfl rfl) ?_
   refine wO g62 ?_
   refine wV (v_load one9 rfl (H4.at (by repeat constructor) rfl)) ?_
   refine wO g62 ?_
   refine wV (v_lens Try.underlying9 rfl) ?_
   refine wO g62 ?_
   refine wV (v_leq rfl rfl) ?_
   refine wV (v_pick_t rfl g62 rfl) ?_
   refine wA ?_
   refine wl_nil ?_
   first
     | exact ⟨_, (sc rfl (sc rfl (sc rfl (sc rfl (sn _))))), ⟨dec_eq ⟨fun hd => by (have h_ := oT hd; unfold nodeOk; omega), fun hh => decide_eq_true (by unfold nodeOk at hh; omega)⟩, H4.turn (by repeat constructor)⟩⟩
     | exact ⟨_, (sc rfl (sc rfl (sc rfl (sc rfl (sn _))))), ⟨(dec_f fun hh => by unfold nodeOk at hh; omega).symm, H4.turn (by repeat constructor)⟩⟩
  have c2p := oF c2
  refine wcR ?_
  refine wV (v_eql rfl rfl) ?_
  refine wA ?_
  refine wl_nil ?_
  refine wc_cond rfl (fun c3 => ?_) (fun c3 => ?_)
  rotate_left
  ·have c3p := oF c3
   refine wc_skip ?_
   first
     | exact ⟨_, (sc rfl (sc rfl (sc rfl (sc rfl (sn _))))), ⟨dec_eq ⟨fun hd => by (have h_ := oT hd; unfold nodeOk; omega), fun hh => decide_eq_true (by unfold nodeOk at hh; omega)⟩, H4.turn (by repeat constructor)⟩⟩
     | exact ⟨_, (sc rfl (sc rfl (sc rfl (sc rfl (sn _))))), ⟨(dec_f fun hh => by unfold nodeOk at hh; omega).symm, H4.turn (by repeat constructor)⟩⟩
  have c3p := oT c3
  refine wc_region ?_
  refine wV (v_fb (o2 := 1) fa69_1 rfl rfl) ?_
  refine wV (v_load one3 rfl (H4.at (by repeat constructor) rfl)) ?_
  refine wV (v_eql rfl rfl) ?_
  refine wM ?_
  refine wl_guard rfl rfl rfl (fun g73 => ?_) (fun g73 => ?_)
  rotate_left
  ·have g73p := oF g73
   refine wF g73 ?_
   refine wF g73 ?_
   refine wF g73 ?_
   refine wV (v_pick_f rfl g73 rfl) ?_
   refine wM ?_
   refine wF rfl ?_
   refine wF rfl ?_
   refine wF rfl ?_
   refine wF rfl ?_
   refine wV (v_pick_f rfl rfl rfl) ?_
   refine wA ?_
   refine wl_nil ?_
   first
     | exact ⟨_, (sc rfl (sc rfl (sc rfl (sc rfl (sn _))))), ⟨dec_eq ⟨fun hd => by (have h_ := oT hd; unfold nodeOk; omega), fun hh => decide_eq_true (by unfold nodeOk at hh; omega)⟩, H4.turn (by repeat constructor)⟩⟩
     | exact ⟨_, (sc rfl (sc rfl (sc rfl (sc rfl (sn _))))), ⟨(dec_f fun hh => by unfold nodeOk at hh; omega).symm, H4.turn (by repeat constructor)⟩⟩
  have g73p := oT g73
  refine wV (v_fb (o2 := 2) fa69_2 rfl rfl) ?_
  refine wO g73 ?_
  refine wV (v_load one9 rfl (H4.at (by repeat constructor) rfl)) ?_
  refine wO g73 ?_
  refine wV (v_lens Try.underlying9 rfl) ?_
  refine wO g73 ?_
  refine wV (v_geq rfl rfl) ?_
  refine wV (v_pick_t rfl g73 rfl) ?_
  refine wM ?_
  refine wl_guard rfl rfl rfl (fun g79 => ?_) (fun g79 => ?_)
  rotate_left
  ·have g79p := oF g79
   refine wF g79 ?_
   refine wF g79 ?_
   refine wF g79 ?_
   refine wV (v_pick_f rfl g79 rfl) ?_
   refine wA ?_
   refine wl_nil ?_
   first
     | exact ⟨_, (sc rfl (sc rfl (sc rfl (sc rfl (sn _))))), ⟨dec_eq ⟨fun hd => by (have h_ := oT hd; unfold nodeOk; omega), fun hh => decide_eq_true (by unfold nodeOk at hh; omega)⟩, H4.turn (by repeat constructor)⟩⟩
     | exact ⟨_, (sc rfl (sc rfl (sc rfl (sc rfl (sn _))))), ⟨(dec_f fun hh => by unfold nodeOk at hh; omega).symm, H4.turn (by repeat constructor)⟩⟩
  have g79p := oT g79
  refine wV (v_fb (o2 := 2) fa69_2 rfl rfl) ?_
  refine wO g79 ?_
  refine wV (v_load one9 rfl (H4.at (by repeat constructor) rfl)) ?_
  refine wO g79 ?_
  refine wV (v_lens Try.underlying9 rfl) ?_
  refine wO g79 ?_
  refine wV (v_leq rfl rfl) ?_
  refine wV (v_pick_t rfl g79 rfl) ?_
  refine wA ?_
  refine wl_nil ?_
  first
    | exact ⟨_, (sc rfl (sc rfl (sc rfl (sc rfl (sn _))))), ⟨dec_eq ⟨fun hd => by (have h_ := oT hd; unfold nodeOk; omega), fun hh => decide_eq_true (by unfold nodeOk at hh; omega)⟩, H4.turn (by repeat constructor)⟩⟩
    | exact ⟨_, (sc rfl (sc rfl (sc rfl (sc rfl (sn _))))), ⟨(dec_f fun hh => by unfold nodeOk at hh; omega).symm, H4.turn (by repeat constructor)⟩⟩

theorem parts_calls : ∀ t : Ac, PartsOk t := Tr.ind fun x kids ih => fun w0 w L B b k n syms hk hr hn HH => parts_step (t := .mk x kids) hk hr hn HH ih

def RPartsOk (t : Ac) : Prop := ∀ (w : World) (B : Option Addr) (k : Nat) (left syms : Int) (hk : t.kids.length ≤ k) (hr : Rd (kTr fAc) w B t.kids) (hn : 0 ≤ left ∧ left ≤ 1099511627776) (hcn : t.cnt ≤ 1099511627776), Calls Try.prog 96 #[.agg #[.int .i64 t.x.kind, .int .i64 t.x.at_, .string t.x.name, .slice B t.kids.length k], .int .i64 syms, .int .i64 left] w fun e w' => ∃ v, e = .returned v ∧ v = .int .i64 (leftA syms left t) ∧ Holds w [] w'

set_option maxHeartbeats 3200000 in
set_option maxRecDepth 100000 in
theorem rparts_step {w : World} {B : Option Addr} {k : Nat} {left syms : Int} {t : Ac} (hk : t.kids.length ≤ k) (hr : Rd (kTr fAc) w B t.kids) (hn : 0 ≤ left ∧ left ≤ 1099511627776) (hcn : t.cnt ≤ 1099511627776) (ih : ∀ t' ∈ t.kids, RPartsOk t') : Calls Try.prog 96 #[.agg #[.int .i64 t.x.kind, .int .i64 t.x.at_, .string t.x.name, .slice B t.kids.length k], .int .i64 syms, .int .i64 left] w fun e w' => ∃ v, e = .returned v ∧ v = .int .i64 (leftA syms left t) ∧ Holds w [] w' := by
  have hcnt := Tr.cnt_eq t
  have hkl := Tr.cnts_len t.kids
  refine calls_of Try.func96 rfl Try.ntmps96 rfl ?_
  have H := Holds.start w
  refine wcR ?_
  refine wl_box (cs := [_, _, _, _]) H rfl rfl rfl ?_
  intro b3 w1 hb3 H2
  refine wA ?_
  refine wl_nil ?_
  refine wcR ?_
  refine wM ?_
  refine wV (v_subi rfl rfl (by omega)) ?_
  refine wA ?_
  refine wl_nil ?_
  refine wc_seq ?_
  refine wcR ?_
  refine wM ?_
  refine wV (v_lss rfl rfl) ?_
  refine wl_nil ?_
  refine wc_cond rfl (fun c0 => ?_) (fun c0 => ?_)
  ·have c0p := oT c0
   refine wcR ?_
   refine wA ?_
   refine wl_nil ?_
   refine wc_ret ?_
   first
     | exact ⟨_, res1 rfl rfl, congrArg (Value.int .i64) (hp.fin (by omega)), H2.pm (Pm.nil _)⟩
     | exact ⟨_, res1 rfl rfl, congrArg (Value.int .i64) (leftA_few (by omega)).symm, H2.pm (Pm.nil _)⟩
     | exact ⟨_, res1 rfl rfl, congrArg (Value.int .i64) (leftA_node (by unfold nodeOk; omega)).symm, H2.pm (Pm.nil _)⟩
  have c0p := oF c0
  refine wc_skip ?_
  refine wcR ?_
  refine wV (v_fb (o2 := 1) fa69_1 rfl rfl) ?_
  refine wV (v_load one3 rfl (H2.at (by repeat constructor) rfl)) ?_
  refine wV (v_eql rfl rfl) ?_
  refine wM ?_
  refine wl_guard rfl rfl rfl (fun g16 => ?_) (fun g16 => ?_)
  rotate_left
  ·have g16p := oF g16
   refine wF g16 ?_
   refine wF g16 ?_
   refine wV (v_pick_f rfl g16 rfl) ?_
   refine wM ?_
   refine wF rfl ?_
   refine wF rfl ?_
   refine wF rfl ?_
   refine wF rfl ?_
   refine wV (v_pick_f rfl rfl rfl) ?_
   refine wA ?_
   refine wl_nil ?_
   refine wc_cut (σ := Unit) (fun q => [(1, .int .i64 syms), (2, .int .i64 (left - 1)), (3, .pointer (some ⟨b3, 0, none⟩))]) (fun q W => (nodeOk syms t.x t.kids.length) ∧ Holds w [Blk b3 69 [.int .i64 t.x.kind, .int .i64 t.x.at_, .string t.x.name, .slice B t.kids.length k]] W) ?_ ?_
   rotate_left
   ·rintro ⟨⟩ Wm ⟨hok, H⟩
    refine wc_seq ?_
    refine wcR ?_
    refine wA ?_
    refine wl_nil ?_
    refine wc_block ?_
    refine wc_loop (σ := Nat × Int) (fun s => [(1, .int .i64 syms), (2, .int .i64 s.2), (3, .pointer (some ⟨b3, 0, none⟩)), (8, .int .i64 s.1)]) (fun s W => PSr syms t left s.1 s.2 ∧ Holds w [Blk b3 69 [.int .i64 t.x.kind, .int .i64 t.x.at_, .string t.x.name, .slice B t.kids.length k]] W) (fun s => t.kids.length - s.1) (0, left - 1) (sc rfl (sc rfl (sc rfl (sc rfl (sn _))))) ⟨PSr.start hok (by omega), H⟩ ?_
    rintro ⟨i, r⟩ W0 ⟨hp, H⟩
    dsimp only at hp H ⊢
    have hle := hp.le
    have hrg := hp.rng
    refine wc_seq ?_
    refine wcR ?_
    refine wM ?_
    refine wV (v_fb (o2 := 3) fa69_3 rfl rfl) ?_
    refine wV (v_load one67 rfl (H.at (by repeat constructor) rfl)) ?_
    refine wV (v_len Try.underlying67 rfl) ?_
    refine wV (v_lss rfl rfl) ?_
    refine wM ?_
    refine wl_guard rfl rfl rfl (fun g94 => ?_) (fun g94 => ?_)
    rotate_left
    ·have g94p := oF g94
     refine wF g94 ?_
     refine wV (v_pick_f rfl g94 rfl) ?_
     refine wl_nil ?_
     refine wc_cond_f rfl ?_
     refine wc_exit ?_
     refine wcR ?_
     refine wM ?_
     refine wA ?_
     refine wl_nil ?_
     refine wc_ret ?_
     first
       | exact ⟨_, res1 rfl rfl, congrArg (Value.int .i64) (hp.fin (by omega)), H.pm (Pm.nil _)⟩
       | exact ⟨_, res1 rfl rfl, congrArg (Value.int .i64) (leftA_few (by omega)).symm, H.pm (Pm.nil _)⟩
       | exact ⟨_, res1 rfl rfl, congrArg (Value.int .i64) (leftA_node (by unfold nodeOk; omega)).symm, H.pm (Pm.nil _)⟩
    have g94p := oT g94
    have hsucc := Tr.cnts_succ ac0 t.kids i (by omega)
    have htk := Tr.cnts_take t.kids (i + 1)
    refine wM ?_
    refine wO g94 ?_
    refine wV (v_geq rfl rfl) ?_
    refine wV (v_pick_t rfl g94 rfl) ?_
    refine wl_nil ?_
    refine wc_cond rfl (fun c9 => ?_) (fun c9 => ?_)
    rotate_left
    ·have c9p := oF c9
     refine wc_exit ?_
     refine wcR ?_
     refine wM ?_
     refine wA ?_
     refine wl_nil ?_
     refine wc_ret ?_
     first
       | exact ⟨_, res1 rfl rfl, congrArg (Value.int .i64) (hp.fin (by omega)), H.pm (Pm.nil _)⟩
       | exact ⟨_, res1 rfl rfl, congrArg (Value.int .i64) (leftA_few (by omega)).symm, H.pm (Pm.nil _)⟩
       | exact ⟨_, res1 rfl rfl, congrArg (Value.int .i64) (leftA_node (by unfold nodeOk; omega)).symm, H.pm (Pm.nil _)⟩
    have c9p := oT c9
    refine wc_skip ?_
    refine wc_seq ?_
    refine wc_block ?_
    refine wc_region ?_
    refine wV (v_fb (o2 := 3) fa69_3 rfl rfl) ?_
    refine wV (v_load one67 rfl (H.at (by repeat constructor) rfl)) ?_
    refine wM ?_
    refine wV (v_idx Try.underlying67 sz69 hr.ad rfl rfl (by omega) (by omega)) ?_
    obtain ⟨B104_, k104_, hc104_, hl104_, hr104_⟩ := hr.atTr ac0 (i := i) (by omega)
    refine wV (v_loadN (cs := [.int .i64 (t.kids.getD i ac0).x.kind, .int .i64 (t.kids.getD i ac0).x.at_, .string (t.kids.getD i ac0).x.name, .slice B104_ (t.kids.getD i ac0).kids.length k104_]) agg69 rfl rfl (fun q_ u_ hu_ => H.cell (hc104_ q_ u_ hu_))) ?_
    refine wM ?_
    refine wM ?_
    refine wl_call en96 rfl rfl (ih _ (getD_mem (z := ac0) (show i < t.kids.length by omega)) _ _ _ r syms hl104_ (hr104_.below H.old) (by omega) (by omega)) ?_
    rintro _ w14 ⟨rfl, Hc⟩
    have H15 := H.call0 Hc
    refine wA ?_
    refine wl_nil ?_
    refine wc_region ?_
    refine wM ?_
    refine wV (v_addi rfl rfl (by omega)) ?_
    refine wA ?_
    refine wl_nil ?_
    exact ⟨(i + 1, _), (sc rfl (sc rfl (sc rfl (sc rfl (sn _))))), ⟨hp.next (by omega) (by omega), H15⟩, by dsimp only; omega⟩
   refine wcR ?_
   refine wV (v_fb (o2 := 0) fa69_0 rfl rfl) ?_
   refine wV (v_load one3 rfl (H2.at (by repeat constructor) rfl)) ?_
   refine wl_nil ?_
   refine wc_block ?_
   refine wcR ?_
   refine wV (v_eql rfl rfl) ?_
   refine wA ?_
   refine wl_nil ?_
   refine wc_cond rfl (fun c1 => ?_) (fun c1 => ?_)
   ·have c1p := oT c1
    refine wcR ?_
    refine wM ?_
    refine wV (v_not rfl) ?_
    refine wl_nil ?_
    refine wc_cond_t rfl ?_
    refine wcR ?_
    refine wA ?_
    refine wl_nil ?_
    refine wc_ret ?_
    first
      | exact ⟨_, res1 rfl rfl, congrArg (Value.int .i64) (hp.fin (by omega)), H2.pm (Pm.nil _)⟩
      | exact ⟨_, res1 rfl rfl, congrArg (Value.int .i64) (leftA_few (by omega)).symm, H2.pm (Pm.nil _)⟩
      | exact ⟨_, res1 rfl rfl, congrArg (Value.int .i64) (leftA_node (by unfold nodeOk; omega)).symm, H2.pm (Pm.nil _)⟩
   have c1p := oF c1
   refine wcR ?_
   refine wV (v_eql rfl rfl) ?_
   refine wA ?_
   refine wl_nil ?_
   refine wc_cond rfl (fun c3 => ?_) (fun c3 => ?_)
   ·have c3p := oT c3
    refine wcR ?_
    refine wV (v_fb (o2 := 1) fa69_1 rfl rfl) ?_
    refine wV (v_load one3 rfl (H2.at (by repeat constructor) rfl)) ?_
    refine wV (v_lss rfl rfl) ?_
    refine wM ?_
    refine wl_guard rfl rfl rfl (fun g38 => ?_) (fun g38 => ?_)
    rotate_left
    ·have g38p := oT g38
     refine wF g38 ?_
     refine wF g38 ?_
     refine wF g38 ?_
     refine wV (v_pick_t rfl g38 rfl) ?_
     refine wM ?_
     refine wF rfl ?_
     refine wF rfl ?_
     refine wF rfl ?_
     refine wV (v_pick_t rfl rfl rfl) ?_
     refine wM ?_
     refine wF rfl ?_
     refine wF rfl ?_
     refine wF rfl ?_
     refine wF rfl ?_
     refine wV (v_pick_t rfl rfl rfl) ?_
     refine wl_nil ?_
     refine wc_cond_t rfl ?_
     refine wcR ?_
     refine wA ?_
     refine wl_nil ?_
     refine wc_ret ?_
     first
       | exact ⟨_, res1 rfl rfl, congrArg (Value.int .i64) (hp.fin (by omega)), H2.pm (Pm.nil _)⟩
       | exact ⟨_, res1 rfl rfl, congrArg (Value.int .i64) (leftA_few (by omega)).symm, H2.pm (Pm.nil _)⟩
       | exact ⟨_, res1 rfl rfl, congrArg (Value.int .i64) (leftA_node (by unfold nodeOk; omega)).symm, H2.pm (Pm.nil _)⟩
    have g38p := oF g38
    refine wV (v_fb (o2 := 1) fa69_1 rfl rfl) ?_
    refine wO g38 ?_
    refine wV (v_load one3 rfl (H2.at (by repeat constructor) rfl)) ?_
    refine wO g38 ?_
    refine wM ?_
    refine wO g38 ?_
    refine wV (v_geq rfl rfl) ?_
    refine wV (v_pick_f rfl g38 rfl) ?_
    refine wM ?_
    refine wl_guard rfl rfl rfl (fun g44 => ?_) (fun g44 => ?_)
    rotate_left
    ·have g44p := oT g44
     refine wF g44 ?_
     refine wF g44 ?_
     refine wV (v_pick_t rfl g44 rfl) ?_
     refine wM ?_
     refine wF rfl ?_
     refine wF rfl ?_
     refine wF rfl ?_
     refine wF rfl ?_
     refine wV (v_pick_t rfl rfl rfl) ?_
     refine wl_nil ?_
     refine wc_cond_t rfl ?_
     refine wcR ?_
     refine wA ?_
     refine wl_nil ?_
     refine wc_ret ?_
     first
       | exact ⟨_, res1 rfl rfl, congrArg (Value.int .i64) (hp.fin (by omega)), H2.pm (Pm.nil _)⟩
       | exact ⟨_, res1 rfl rfl, congrArg (Value.int .i64) (leftA_few (by omega)).symm, H2.pm (Pm.nil _)⟩
       | exact ⟨_, res1 rfl rfl, congrArg (Value.int .i64) (leftA_node (by unfold nodeOk; omega)).symm, H2.pm (Pm.nil _)⟩
    have g44p := oF g44
    refine wV (v_fb (o2 := 2) fa69_2 rfl rfl) ?_
    refine wO g44 ?_
    refine wV (v_load one9 rfl (H2.at (by repeat constructor) rfl)) ?_
    refine wO g44 ?_
    refine wV (v_neq0 rfl rfl) ?_
    refine wV (v_pick_f rfl g44 rfl) ?_
    refine wM ?_
    refine wl_guard rfl rfl rfl (fun g49 => ?_) (fun g49 => ?_)
    rotate_left
    ·have g49p := of_nd_t g49
     refine wF g49 ?_
     refine wF g49 ?_
     refine wF g49 ?_
     refine wV (v_pick_t rfl g49 rfl) ?_
     refine wl_nil ?_
     refine wc_cond_t rfl ?_
     refine wcR ?_
     refine wA ?_
     refine wl_nil ?_
     refine wc_ret ?_
     first
       | exact ⟨_, res1 rfl rfl, congrArg (Value.int .i64) (hp.fin (by omega)), H2.pm (Pm.nil _)⟩
       | exact ⟨_, res1 rfl rfl, congrArg (Value.int .i64) (leftA_few (by omega)).symm, H2.pm (Pm.nil _)⟩
       | exact ⟨_, res1 rfl rfl, congrArg (Value.int .i64) (leftA_node (by unfold nodeOk; omega)).symm, H2.pm (Pm.nil _)⟩
    have g49p := of_nd_f g49
    refine wV (v_fb (o2 := 3) fa69_3 rfl rfl) ?_
    refine wO g49 ?_
    refine wV (v_load one67 rfl (H2.at (by repeat constructor) rfl)) ?_
    refine wO g49 ?_
    refine wV (v_len Try.underlying67 rfl) ?_
    refine wO g49 ?_
    refine wV (v_gtr rfl rfl) ?_
    refine wV (v_pick_f rfl g49 rfl) ?_
    refine wl_nil ?_
    refine wc_cond rfl (fun c4 => ?_) (fun c4 => ?_)
    rotate_left
    ·have c4p := oF c4
     refine wc_skip ?_
     exact ⟨(), (sc rfl (sc rfl (sc rfl (sn _)))), ⟨by unfold nodeOk; omega, H2⟩⟩
    have c4p := oT c4
    refine wcR ?_
    refine wA ?_
    refine wl_nil ?_
    refine wc_ret ?_
    first
      | exact ⟨_, res1 rfl rfl, congrArg (Value.int .i64) (hp.fin (by omega)), H2.pm (Pm.nil _)⟩
      | exact ⟨_, res1 rfl rfl, congrArg (Value.int .i64) (leftA_few (by omega)).symm, H2.pm (Pm.nil _)⟩
      | exact ⟨_, res1 rfl rfl, congrArg (Value.int .i64) (leftA_node (by unfold nodeOk; omega)).symm, H2.pm (Pm.nil _)⟩
   have c3p := oF c3
   refine wcR ?_
   refine wV (v_eql rfl rfl) ?_
   refine wA ?_
   refine wl_nil ?_
   refine wc_cond rfl (fun c5 => ?_) (fun c5 => ?_)
   ·have c5p := oT c5
    refine wcR ?_
    refine wV (v_fb (o2 := 2) fa69_2 rfl rfl) ?_
    refine wV (v_load one9 rfl (H2.at (by repeat constructor) rfl)) ?_
    refine wV (v_lens Try.underlying9 rfl) ?_
    refine wV (v_gtr rfl rfl) ?_
    refine wM ?_
    refine wl_guard rfl rfl rfl (fun g61 => ?_) (fun g61 => ?_)
    rotate_left
    ·have g61p := oT g61
     refine wF g61 ?_
     refine wF g61 ?_
     refine wV (v_pick_t rfl g61 rfl) ?_
     refine wM ?_
     refine wF rfl ?_
     refine wF rfl ?_
     refine wF rfl ?_
     refine wF rfl ?_
     refine wV (v_pick_t rfl rfl rfl) ?_
     refine wl_nil ?_
     refine wc_cond_t rfl ?_
     refine wcR ?_
     refine wA ?_
     refine wl_nil ?_
     refine wc_ret ?_
     first
       | exact ⟨_, res1 rfl rfl, congrArg (Value.int .i64) (hp.fin (by omega)), H2.pm (Pm.nil _)⟩
       | exact ⟨_, res1 rfl rfl, congrArg (Value.int .i64) (leftA_few (by omega)).symm, H2.pm (Pm.nil _)⟩
       | exact ⟨_, res1 rfl rfl, congrArg (Value.int .i64) (leftA_node (by unfold nodeOk; omega)).symm, H2.pm (Pm.nil _)⟩
    have g61p := oF g61
    refine wV (v_fb (o2 := 1) fa69_1 rfl rfl) ?_
    refine wO g61 ?_
    refine wV (v_load one3 rfl (H2.at (by repeat constructor) rfl)) ?_
    refine wO g61 ?_
    refine wV (v_neq rfl rfl) ?_
    refine wV (v_pick_f rfl g61 rfl) ?_
    refine wM ?_
    refine wl_guard rfl rfl rfl (fun g66 => ?_) (fun g66 => ?_)
    rotate_left
    ·have g66p := of_nd_t g66
     refine wF g66 ?_
     refine wF g66 ?_
     refine wF g66 ?_
     refine wV (v_pick_t rfl g66 rfl) ?_
     refine wl_nil ?_
     refine wc_cond_t rfl ?_
     refine wcR ?_
     refine wA ?_
     refine wl_nil ?_
     refine wc_ret ?_
     first
       | exact ⟨_, res1 rfl rfl, congrArg (Value.int .i64) (hp.fin (by omega)), H2.pm (Pm.nil _)⟩
       | exact ⟨_, res1 rfl rfl, congrArg (Value.int .i64) (leftA_few (by omega)).symm, H2.pm (Pm.nil _)⟩
       | exact ⟨_, res1 rfl rfl, congrArg (Value.int .i64) (leftA_node (by unfold nodeOk; omega)).symm, H2.pm (Pm.nil _)⟩
    have g66p := of_nd_f g66
    refine wV (v_fb (o2 := 3) fa69_3 rfl rfl) ?_
    refine wO g66 ?_
    refine wV (v_load one67 rfl (H2.at (by repeat constructor) rfl)) ?_
    refine wO g66 ?_
    refine wV (v_len Try.underlying67 rfl) ?_
    refine wO g66 ?_
    refine wV (v_gtr rfl rfl) ?_
    refine wV (v_pick_f rfl g66 rfl) ?_
    refine wl_nil ?_
    refine wc_cond rfl (fun c6 => ?_) (fun c6 => ?_)
    rotate_left
    ·have c6p := oF c6
     refine wc_skip ?_
     exact ⟨(), (sc rfl (sc rfl (sc rfl (sn _)))), ⟨by unfold nodeOk; omega, H2⟩⟩
    have c6p := oT c6
    refine wcR ?_
    refine wA ?_
    refine wl_nil ?_
    refine wc_ret ?_
    first
      | exact ⟨_, res1 rfl rfl, congrArg (Value.int .i64) (hp.fin (by omega)), H2.pm (Pm.nil _)⟩
      | exact ⟨_, res1 rfl rfl, congrArg (Value.int .i64) (leftA_few (by omega)).symm, H2.pm (Pm.nil _)⟩
      | exact ⟨_, res1 rfl rfl, congrArg (Value.int .i64) (leftA_node (by unfold nodeOk; omega)).symm, H2.pm (Pm.nil _)⟩
   have c5p := oF c5
   refine wcR ?_
   refine wV (v_eql rfl rfl) ?_
   refine wA ?_
   refine wl_nil ?_
   refine wc_cond rfl (fun c7 => ?_) (fun c7 => ?_)
   rotate_left
   ·have c7p := oF c7
    refine wcR ?_
    refine wA ?_
    refine wl_nil ?_
    refine wc_ret ?_
    first
      | exact ⟨_, res1 rfl rfl, congrArg (Value.int .i64) (hp.fin (by omega)), H2.pm (Pm.nil _)⟩
      | exact ⟨_, res1 rfl rfl, congrArg (Value.int .i64) (leftA_few (by omega)).symm, H2.pm (Pm.nil _)⟩
      | exact ⟨_, res1 rfl rfl, congrArg (Value.int .i64) (leftA_node (by unfold nodeOk; omega)).symm, H2.pm (Pm.nil _)⟩
   have c7p := oT c7
   refine wcR ?_
   refine wV (v_fb (o2 := 2) fa69_2 rfl rfl) ?_
   refine wV (v_load one9 rfl (H2.at (by repeat constructor) rfl)) ?_
   refine wV (v_lens Try.underlying9 rfl) ?_
   refine wV (v_lss rfl rfl) ?_
   refine wM ?_
   refine wl_guard rfl rfl rfl (fun g78 => ?_) (fun g78 => ?_)
   rotate_left
   ·have g78p := oT g78
    refine wF g78 ?_
    refine wF g78 ?_
    refine wF g78 ?_
    refine wV (v_pick_t rfl g78 rfl) ?_
    refine wM ?_
    refine wF rfl ?_
    refine wF rfl ?_
    refine wF rfl ?_
    refine wV (v_pick_t rfl rfl rfl) ?_
    refine wl_nil ?_
    refine wc_cond_t rfl ?_
    refine wcR ?_
    refine wA ?_
    refine wl_nil ?_
    refine wc_ret ?_
    first
      | exact ⟨_, res1 rfl rfl, congrArg (Value.int .i64) (hp.fin (by omega)), H2.pm (Pm.nil _)⟩
      | exact ⟨_, res1 rfl rfl, congrArg (Value.int .i64) (leftA_few (by omega)).symm, H2.pm (Pm.nil _)⟩
      | exact ⟨_, res1 rfl rfl, congrArg (Value.int .i64) (leftA_node (by unfold nodeOk; omega)).symm, H2.pm (Pm.nil _)⟩
   have g78p := oF g78
   refine wV (v_fb (o2 := 2) fa69_2 rfl rfl) ?_
   refine wO g78 ?_
   refine wV (v_load one9 rfl (H2.at (by repeat constructor) rfl)) ?_
   refine wO g78 ?_
   refine wV (v_lens Try.underlying9 rfl) ?_
   refine wO g78 ?_
   refine wV (v_gtr rfl rfl) ?_
   refine wV (v_pick_f rfl g78 rfl) ?_
   refine wM ?_
   refine wl_guard rfl rfl rfl (fun g84 => ?_) (fun g84 => ?_)
   rotate_left
   ·have g84p := oT g84
    refine wF g84 ?_
    refine wF g84 ?_
    refine wV (v_pick_t rfl g84 rfl) ?_
    refine wl_nil ?_
    refine wc_cond_t rfl ?_
    refine wcR ?_
    refine wA ?_
    refine wl_nil ?_
    refine wc_ret ?_
    first
      | exact ⟨_, res1 rfl rfl, congrArg (Value.int .i64) (hp.fin (by omega)), H2.pm (Pm.nil _)⟩
      | exact ⟨_, res1 rfl rfl, congrArg (Value.int .i64) (leftA_few (by omega)).symm, H2.pm (Pm.nil _)⟩
      | exact ⟨_, res1 rfl rfl, congrArg (Value.int .i64) (leftA_node (by unfold nodeOk; omega)).symm, H2.pm (Pm.nil _)⟩
   have g84p := oF g84
   refine wV (v_fb (o2 := 1) fa69_1 rfl rfl) ?_
   refine wO g84 ?_
   refine wV (v_load one3 rfl (H2.at (by repeat constructor) rfl)) ?_
   refine wO g84 ?_
   refine wV (v_neq rfl rfl) ?_
   refine wV (v_pick_f rfl g84 rfl) ?_
   refine wl_nil ?_
   refine wc_cond rfl (fun c8 => ?_) (fun c8 => ?_)
   rotate_left
   ·have c8p := of_nd_f c8
    refine wc_skip ?_
    exact ⟨(), (sc rfl (sc rfl (sc rfl (sn _)))), ⟨by unfold nodeOk; omega, H2⟩⟩
   have c8p := of_nd_t c8
   refine wcR ?_
   refine wA ?_
   refine wl_nil ?_
   refine wc_ret ?_
   first
     | exact ⟨_, res1 rfl rfl, congrArg (Value.int .i64) (hp.fin (by omega)), H2.pm (Pm.nil _)⟩
     | exact ⟨_, res1 rfl rfl, congrArg (Value.int .i64) (leftA_few (by omega)).symm, H2.pm (Pm.nil _)⟩
     | exact ⟨_, res1 rfl rfl, congrArg (Value.int .i64) (leftA_node (by unfold nodeOk; omega)).symm, H2.pm (Pm.nil _)⟩
  have g16p := oT g16
  refine wV (v_fb (o2 := 2) fa69_2 rfl rfl) ?_
  refine wO g16 ?_
  refine wV (v_load one9 rfl (H2.at (by repeat constructor) rfl)) ?_
  refine wO g16 ?_
  refine wV (v_eql0 rfl rfl) ?_
  refine wV (v_pick_t rfl g16 rfl) ?_
  refine wM ?_
  refine wl_guard rfl rfl rfl (fun g21 => ?_) (fun g21 => ?_)
  rotate_left
  ·have g21p := oF g21
   refine wF g21 ?_
   refine wF g21 ?_
   refine wF g21 ?_
   refine wV (v_pick_f rfl g21 rfl) ?_
   refine wA ?_
   refine wl_nil ?_
   refine wc_cut (σ := Unit) (fun q => [(1, .int .i64 syms), (2, .int .i64 (left - 1)), (3, .pointer (some ⟨b3, 0, none⟩))]) (fun q W => (nodeOk syms t.x t.kids.length) ∧ Holds w [Blk b3 69 [.int .i64 t.x.kind, .int .i64 t.x.at_, .string t.x.name, .slice B t.kids.length k]] W) ?_ ?_
   rotate_left
   ·rintro ⟨⟩ Wm ⟨hok, H⟩
    refine wc_seq ?_
    refine wcR ?_
    refine wA ?_
    refine wl_nil ?_
    refine wc_block ?_
    refine wc_loop (σ := Nat × Int) (fun s => [(1, .int .i64 syms), (2, .int .i64 s.2), (3, .pointer (some ⟨b3, 0, none⟩)), (8, .int .i64 s.1)]) (fun s W => PSr syms t left s.1 s.2 ∧ Holds w [Blk b3 69 [.int .i64 t.x.kind, .int .i64 t.x.at_, .string t.x.name, .slice B t.kids.length k]] W) (fun s => t.kids.length - s.1) (0, left - 1) (sc rfl (sc rfl (sc rfl (sc rfl (sn _))))) ⟨PSr.start hok (by omega), H⟩ ?_
    rintro ⟨i, r⟩ W0 ⟨hp, H⟩
    dsimp only at hp H ⊢
    have hle := hp.le
    have hrg := hp.rng
    refine wc_seq ?_
    refine wcR ?_
    refine wM ?_
    refine wV (v_fb (o2 := 3) fa69_3 rfl rfl) ?_
    refine wV (v_load one67 rfl (H.at (by repeat constructor) rfl)) ?_
    refine wV (v_len Try.underlying67 rfl) ?_
    refine wV (v_lss rfl rfl) ?_
    refine wM ?_
    refine wl_guard rfl rfl rfl (fun g94 => ?_) (fun g94 => ?_)
    rotate_left
    ·have g94p := oF g94
     refine wF g94 ?_
     refine wV (v_pick_f rfl g94 rfl) ?_
     refine wl_nil ?_
     refine wc_cond_f rfl ?_
     refine wc_exit ?_
     refine wcR ?_
     refine wM ?_
     refine wA ?_
     refine wl_nil ?_
     refine wc_ret ?_
     first
       | exact ⟨_, res1 rfl rfl, congrArg (Value.int .i64) (hp.fin (by omega)), H.pm (Pm.nil _)⟩
       | exact ⟨_, res1 rfl rfl, congrArg (Value.int .i64) (leftA_few (by omega)).symm, H.pm (Pm.nil _)⟩
       | exact ⟨_, res1 rfl rfl, congrArg (Value.int .i64) (leftA_node (by unfold nodeOk; omega)).symm, H.pm (Pm.nil _)⟩
    have g94p := oT g94
    have hsucc := Tr.cnts_succ ac0 t.kids i (by omega)
    have htk := Tr.cnts_take t.kids (i + 1)
    refine wM ?_
    refine wO g94 ?_
    refine wV (v_geq rfl rfl) ?_
    refine wV (v_pick_t rfl g94 rfl) ?_
    refine wl_nil ?_
    refine wc_cond rfl (fun c9 => ?_) (fun c9 => ?_)
    rotate_left
    ·have c9p := oF c9
     refine wc_exit ?_
     refine wcR ?_
     refine wM ?_
     refine wA ?_
     refine wl_nil ?_
     refine wc_ret ?_
     first
       | exact ⟨_, res1 rfl rfl, congrArg (Value.int .i64) (hp.fin (by omega)), H.pm (Pm.nil _)⟩
       | exact ⟨_, res1 rfl rfl, congrArg (Value.int .i64) (leftA_few (by omega)).symm, H.pm (Pm.nil _)⟩
       | exact ⟨_, res1 rfl rfl, congrArg (Value.int .i64) (leftA_node (by unfold nodeOk; omega)).symm, H.pm (Pm.nil _)⟩
    have c9p := oT c9
    refine wc_skip ?_
    refine wc_seq ?_
    refine wc_block ?_
    refine wc_region ?_
    refine wV (v_fb (o2 := 3) fa69_3 rfl rfl) ?_
    refine wV (v_load one67 rfl (H.at (by repeat constructor) rfl)) ?_
    refine wM ?_
    refine wV (v_idx Try.underlying67 sz69 hr.ad rfl rfl (by omega) (by omega)) ?_
    obtain ⟨B104_, k104_, hc104_, hl104_, hr104_⟩ := hr.atTr ac0 (i := i) (by omega)
    refine wV (v_loadN (cs := [.int .i64 (t.kids.getD i ac0).x.kind, .int .i64 (t.kids.getD i ac0).x.at_, .string (t.kids.getD i ac0).x.name, .slice B104_ (t.kids.getD i ac0).kids.length k104_]) agg69 rfl rfl (fun q_ u_ hu_ => H.cell (hc104_ q_ u_ hu_))) ?_
    refine wM ?_
    refine wM ?_
    refine wl_call en96 rfl rfl (ih _ (getD_mem (z := ac0) (show i < t.kids.length by omega)) _ _ _ r syms hl104_ (hr104_.below H.old) (by omega) (by omega)) ?_
    rintro _ w10 ⟨rfl, Hc⟩
    have H11 := H.call0 Hc
    refine wA ?_
    refine wl_nil ?_
    refine wc_region ?_
    refine wM ?_
    refine wV (v_addi rfl rfl (by omega)) ?_
    refine wA ?_
    refine wl_nil ?_
    exact ⟨(i + 1, _), (sc rfl (sc rfl (sc rfl (sc rfl (sn _))))), ⟨hp.next (by omega) (by omega), H11⟩, by dsimp only; omega⟩
   refine wcR ?_
   refine wV (v_fb (o2 := 0) fa69_0 rfl rfl) ?_
   refine wV (v_load one3 rfl (H2.at (by repeat constructor) rfl)) ?_
   refine wl_nil ?_
   refine wc_block ?_
   refine wcR ?_
   refine wV (v_eql rfl rfl) ?_
   refine wA ?_
   refine wl_nil ?_
   refine wc_cond rfl (fun c1 => ?_) (fun c1 => ?_)
   ·have c1p := oT c1
    refine wcR ?_
    refine wM ?_
    refine wV (v_not rfl) ?_
    refine wl_nil ?_
    refine wc_cond_t rfl ?_
    refine wcR ?_
    refine wA ?_
    refine wl_nil ?_
    refine wc_ret ?_
    first
      | exact ⟨_, res1 rfl rfl, congrArg (Value.int .i64) (hp.fin (by omega)), H2.pm (Pm.nil _)⟩
      | exact ⟨_, res1 rfl rfl, congrArg (Value.int .i64) (leftA_few (by omega)).symm, H2.pm (Pm.nil _)⟩
      | exact ⟨_, res1 rfl rfl, congrArg (Value.int .i64) (leftA_node (by unfold nodeOk; omega)).symm, H2.pm (Pm.nil _)⟩
   have c1p := oF c1
   refine wcR ?_
   refine wV (v_eql rfl rfl) ?_
   refine wA ?_
   refine wl_nil ?_
   refine wc_cond rfl (fun c3 => ?_) (fun c3 => ?_)
   ·have c3p := oT c3
    refine wcR ?_
    refine wV (v_fb (o2 := 1) fa69_1 rfl rfl) ?_
    refine wV (v_load one3 rfl (H2.at (by repeat constructor) rfl)) ?_
    refine wV (v_lss rfl rfl) ?_
    refine wM ?_
    refine wl_guard rfl rfl rfl (fun g38 => ?_) (fun g38 => ?_)
    rotate_left
    ·have g38p := oT g38
     refine wF g38 ?_
     refine wF g38 ?_
     refine wF g38 ?_
     refine wV (v_pick_t rfl g38 rfl) ?_
     refine wM ?_
     refine wF rfl ?_
     refine wF rfl ?_
     refine wF rfl ?_
     refine wV (v_pick_t rfl rfl rfl) ?_
     refine wM ?_
     refine wF rfl ?_
     refine wF rfl ?_
     refine wF rfl ?_
     refine wF rfl ?_
     refine wV (v_pick_t rfl rfl rfl) ?_
     refine wl_nil ?_
     refine wc_cond_t rfl ?_
     refine wcR ?_
     refine wA ?_
     refine wl_nil ?_
     refine wc_ret ?_
     first
       | exact ⟨_, res1 rfl rfl, congrArg (Value.int .i64) (hp.fin (by omega)), H2.pm (Pm.nil _)⟩
       | exact ⟨_, res1 rfl rfl, congrArg (Value.int .i64) (leftA_few (by omega)).symm, H2.pm (Pm.nil _)⟩
       | exact ⟨_, res1 rfl rfl, congrArg (Value.int .i64) (leftA_node (by unfold nodeOk; omega)).symm, H2.pm (Pm.nil _)⟩
    have g38p := oF g38
    refine wV (v_fb (o2 := 1) fa69_1 rfl rfl) ?_
    refine wO g38 ?_
    refine wV (v_load one3 rfl (H2.at (by repeat constructor) rfl)) ?_
    refine wO g38 ?_
    refine wM ?_
    refine wO g38 ?_
    refine wV (v_geq rfl rfl) ?_
    refine wV (v_pick_f rfl g38 rfl) ?_
    refine wM ?_
    refine wl_guard rfl rfl rfl (fun g44 => ?_) (fun g44 => ?_)
    rotate_left
    ·have g44p := oT g44
     refine wF g44 ?_
     refine wF g44 ?_
     refine wV (v_pick_t rfl g44 rfl) ?_
     refine wM ?_
     refine wF rfl ?_
     refine wF rfl ?_
     refine wF rfl ?_
     refine wF rfl ?_
     refine wV (v_pick_t rfl rfl rfl) ?_
     refine wl_nil ?_
     refine wc_cond_t rfl ?_
     refine wcR ?_
     refine wA ?_
     refine wl_nil ?_
     refine wc_ret ?_
     first
       | exact ⟨_, res1 rfl rfl, congrArg (Value.int .i64) (hp.fin (by omega)), H2.pm (Pm.nil _)⟩
       | exact ⟨_, res1 rfl rfl, congrArg (Value.int .i64) (leftA_few (by omega)).symm, H2.pm (Pm.nil _)⟩
       | exact ⟨_, res1 rfl rfl, congrArg (Value.int .i64) (leftA_node (by unfold nodeOk; omega)).symm, H2.pm (Pm.nil _)⟩
    have g44p := oF g44
    refine wV (v_fb (o2 := 2) fa69_2 rfl rfl) ?_
    refine wO g44 ?_
    refine wV (v_load one9 rfl (H2.at (by repeat constructor) rfl)) ?_
    refine wO g44 ?_
    refine wV (v_neq0 rfl rfl) ?_
    refine wV (v_pick_f rfl g44 rfl) ?_
    refine wM ?_
    refine wl_guard rfl rfl rfl (fun g49 => ?_) (fun g49 => ?_)
    rotate_left
    ·have g49p := of_nd_t g49
     refine wF g49 ?_
     refine wF g49 ?_
     refine wF g49 ?_
     refine wV (v_pick_t rfl g49 rfl) ?_
     refine wl_nil ?_
     refine wc_cond_t rfl ?_
     refine wcR ?_
     refine wA ?_
     refine wl_nil ?_
     refine wc_ret ?_
     first
       | exact ⟨_, res1 rfl rfl, congrArg (Value.int .i64) (hp.fin (by omega)), H2.pm (Pm.nil _)⟩
       | exact ⟨_, res1 rfl rfl, congrArg (Value.int .i64) (leftA_few (by omega)).symm, H2.pm (Pm.nil _)⟩
       | exact ⟨_, res1 rfl rfl, congrArg (Value.int .i64) (leftA_node (by unfold nodeOk; omega)).symm, H2.pm (Pm.nil _)⟩
    have g49p := of_nd_f g49
    refine wV (v_fb (o2 := 3) fa69_3 rfl rfl) ?_
    refine wO g49 ?_
    refine wV (v_load one67 rfl (H2.at (by repeat constructor) rfl)) ?_
    refine wO g49 ?_
    refine wV (v_len Try.underlying67 rfl) ?_
    refine wO g49 ?_
    refine wV (v_gtr rfl rfl) ?_
    refine wV (v_pick_f rfl g49 rfl) ?_
    refine wl_nil ?_
    refine wc_cond rfl (fun c4 => ?_) (fun c4 => ?_)
    rotate_left
    ·have c4p := oF c4
     refine wc_skip ?_
     exact ⟨(), (sc rfl (sc rfl (sc rfl (sn _)))), ⟨by unfold nodeOk; omega, H2⟩⟩
    have c4p := oT c4
    refine wcR ?_
    refine wA ?_
    refine wl_nil ?_
    refine wc_ret ?_
    first
      | exact ⟨_, res1 rfl rfl, congrArg (Value.int .i64) (hp.fin (by omega)), H2.pm (Pm.nil _)⟩
      | exact ⟨_, res1 rfl rfl, congrArg (Value.int .i64) (leftA_few (by omega)).symm, H2.pm (Pm.nil _)⟩
      | exact ⟨_, res1 rfl rfl, congrArg (Value.int .i64) (leftA_node (by unfold nodeOk; omega)).symm, H2.pm (Pm.nil _)⟩
   have c3p := oF c3
   refine wcR ?_
   refine wV (v_eql rfl rfl) ?_
   refine wA ?_
   refine wl_nil ?_
   refine wc_cond rfl (fun c5 => ?_) (fun c5 => ?_)
   ·have c5p := oT c5
    refine wcR ?_
    refine wV (v_fb (o2 := 2) fa69_2 rfl rfl) ?_
    refine wV (v_load one9 rfl (H2.at (by repeat constructor) rfl)) ?_
    refine wV (v_lens Try.underlying9 rfl) ?_
    refine wV (v_gtr rfl rfl) ?_
    refine wM ?_
    refine wl_guard rfl rfl rfl (fun g61 => ?_) (fun g61 => ?_)
    rotate_left
    ·have g61p := oT g61
     refine wF g61 ?_
     refine wF g61 ?_
     refine wV (v_pick_t rfl g61 rfl) ?_
     refine wM ?_
     refine wF rfl ?_
     refine wF rfl ?_
     refine wF rfl ?_
     refine wF rfl ?_
     refine wV (v_pick_t rfl rfl rfl) ?_
     refine wl_nil ?_
     refine wc_cond_t rfl ?_
     refine wcR ?_
     refine wA ?_
     refine wl_nil ?_
     refine wc_ret ?_
     first
       | exact ⟨_, res1 rfl rfl, congrArg (Value.int .i64) (hp.fin (by omega)), H2.pm (Pm.nil _)⟩
       | exact ⟨_, res1 rfl rfl, congrArg (Value.int .i64) (leftA_few (by omega)).symm, H2.pm (Pm.nil _)⟩
       | exact ⟨_, res1 rfl rfl, congrArg (Value.int .i64) (leftA_node (by unfold nodeOk; omega)).symm, H2.pm (Pm.nil _)⟩
    have g61p := oF g61
    refine wV (v_fb (o2 := 1) fa69_1 rfl rfl) ?_
    refine wO g61 ?_
    refine wV (v_load one3 rfl (H2.at (by repeat constructor) rfl)) ?_
    refine wO g61 ?_
    refine wV (v_neq rfl rfl) ?_
    refine wV (v_pick_f rfl g61 rfl) ?_
    refine wM ?_
    refine wl_guard rfl rfl rfl (fun g66 => ?_) (fun g66 => ?_)
    rotate_left
    ·have g66p := of_nd_t g66
     refine wF g66 ?_
     refine wF g66 ?_
     refine wF g66 ?_
     refine wV (v_pick_t rfl g66 rfl) ?_
     refine wl_nil ?_
     refine wc_cond_t rfl ?_
     refine wcR ?_
     refine wA ?_
     refine wl_nil ?_
     refine wc_ret ?_
     first
       | exact ⟨_, res1 rfl rfl, congrArg (Value.int .i64) (hp.fin (by omega)), H2.pm (Pm.nil _)⟩
       | exact ⟨_, res1 rfl rfl, congrArg (Value.int .i64) (leftA_few (by omega)).symm, H2.pm (Pm.nil _)⟩
       | exact ⟨_, res1 rfl rfl, congrArg (Value.int .i64) (leftA_node (by unfold nodeOk; omega)).symm, H2.pm (Pm.nil _)⟩
    have g66p := of_nd_f g66
    refine wV (v_fb (o2 := 3) fa69_3 rfl rfl) ?_
    refine wO g66 ?_
    refine wV (v_load one67 rfl (H2.at (by repeat constructor) rfl)) ?_
    refine wO g66 ?_
    refine wV (v_len Try.underlying67 rfl) ?_
    refine wO g66 ?_
    refine wV (v_gtr rfl rfl) ?_
    refine wV (v_pick_f rfl g66 rfl) ?_
    refine wl_nil ?_
    refine wc_cond rfl (fun c6 => ?_) (fun c6 => ?_)
    rotate_left
    ·have c6p := oF c6
     refine wc_skip ?_
     exact ⟨(), (sc rfl (sc rfl (sc rfl (sn _)))), ⟨by unfold nodeOk; omega, H2⟩⟩
    have c6p := oT c6
    refine wcR ?_
    refine wA ?_
    refine wl_nil ?_
    refine wc_ret ?_
    first
      | exact ⟨_, res1 rfl rfl, congrArg (Value.int .i64) (hp.fin (by omega)), H2.pm (Pm.nil _)⟩
      | exact ⟨_, res1 rfl rfl, congrArg (Value.int .i64) (leftA_few (by omega)).symm, H2.pm (Pm.nil _)⟩
      | exact ⟨_, res1 rfl rfl, congrArg (Value.int .i64) (leftA_node (by unfold nodeOk; omega)).symm, H2.pm (Pm.nil _)⟩
   have c5p := oF c5
   refine wcR ?_
   refine wV (v_eql rfl rfl) ?_
   refine wA ?_
   refine wl_nil ?_
   refine wc_cond rfl (fun c7 => ?_) (fun c7 => ?_)
   rotate_left
   ·have c7p := oF c7
    refine wcR ?_
    refine wA ?_
    refine wl_nil ?_
    refine wc_ret ?_
    first
      | exact ⟨_, res1 rfl rfl, congrArg (Value.int .i64) (hp.fin (by omega)), H2.pm (Pm.nil _)⟩
      | exact ⟨_, res1 rfl rfl, congrArg (Value.int .i64) (leftA_few (by omega)).symm, H2.pm (Pm.nil _)⟩
      | exact ⟨_, res1 rfl rfl, congrArg (Value.int .i64) (leftA_node (by unfold nodeOk; omega)).symm, H2.pm (Pm.nil _)⟩
   have c7p := oT c7
   refine wcR ?_
   refine wV (v_fb (o2 := 2) fa69_2 rfl rfl) ?_
   refine wV (v_load one9 rfl (H2.at (by repeat constructor) rfl)) ?_
   refine wV (v_lens Try.underlying9 rfl) ?_
   refine wV (v_lss rfl rfl) ?_
   refine wM ?_
   refine wl_guard rfl rfl rfl (fun g78 => ?_) (fun g78 => ?_)
   rotate_left
   ·have g78p := oT g78
    refine wF g78 ?_
    refine wF g78 ?_
    refine wF g78 ?_
    refine wV (v_pick_t rfl g78 rfl) ?_
    refine wM ?_
    refine wF rfl ?_
    refine wF rfl ?_
    refine wF rfl ?_
    refine wV (v_pick_t rfl rfl rfl) ?_
    refine wl_nil ?_
    refine wc_cond_t rfl ?_
    refine wcR ?_
    refine wA ?_
    refine wl_nil ?_
    refine wc_ret ?_
    first
      | exact ⟨_, res1 rfl rfl, congrArg (Value.int .i64) (hp.fin (by omega)), H2.pm (Pm.nil _)⟩
      | exact ⟨_, res1 rfl rfl, congrArg (Value.int .i64) (leftA_few (by omega)).symm, H2.pm (Pm.nil _)⟩
      | exact ⟨_, res1 rfl rfl, congrArg (Value.int .i64) (leftA_node (by unfold nodeOk; omega)).symm, H2.pm (Pm.nil _)⟩
   have g78p := oF g78
   refine wV (v_fb (o2 := 2) fa69_2 rfl rfl) ?_
   refine wO g78 ?_
   refine wV (v_load one9 rfl (H2.at (by repeat constructor) rfl)) ?_
   refine wO g78 ?_
   refine wV (v_lens Try.underlying9 rfl) ?_
   refine wO g78 ?_
   refine wV (v_gtr rfl rfl) ?_
   refine wV (v_pick_f rfl g78 rfl) ?_
   refine wM ?_
   refine wl_guard rfl rfl rfl (fun g84 => ?_) (fun g84 => ?_)
   rotate_left
   ·have g84p := oT g84
    refine wF g84 ?_
    refine wF g84 ?_
    refine wV (v_pick_t rfl g84 rfl) ?_
    refine wl_nil ?_
    refine wc_cond_t rfl ?_
    refine wcR ?_
    refine wA ?_
    refine wl_nil ?_
    refine wc_ret ?_
    first
      | exact ⟨_, res1 rfl rfl, congrArg (Value.int .i64) (hp.fin (by omega)), H2.pm (Pm.nil _)⟩
      | exact ⟨_, res1 rfl rfl, congrArg (Value.int .i64) (leftA_few (by omega)).symm, H2.pm (Pm.nil _)⟩
      | exact ⟨_, res1 rfl rfl, congrArg (Value.int .i64) (leftA_node (by unfold nodeOk; omega)).symm, H2.pm (Pm.nil _)⟩
   have g84p := oF g84
   refine wV (v_fb (o2 := 1) fa69_1 rfl rfl) ?_
   refine wO g84 ?_
   refine wV (v_load one3 rfl (H2.at (by repeat constructor) rfl)) ?_
   refine wO g84 ?_
   refine wV (v_neq rfl rfl) ?_
   refine wV (v_pick_f rfl g84 rfl) ?_
   refine wl_nil ?_
   refine wc_cond rfl (fun c8 => ?_) (fun c8 => ?_)
   rotate_left
   ·have c8p := of_nd_f c8
    refine wc_skip ?_
    exact ⟨(), (sc rfl (sc rfl (sc rfl (sn _)))), ⟨by unfold nodeOk; omega, H2⟩⟩
   have c8p := of_nd_t c8
   refine wcR ?_
   refine wA ?_
   refine wl_nil ?_
   refine wc_ret ?_
   first
     | exact ⟨_, res1 rfl rfl, congrArg (Value.int .i64) (hp.fin (by omega)), H2.pm (Pm.nil _)⟩
     | exact ⟨_, res1 rfl rfl, congrArg (Value.int .i64) (leftA_few (by omega)).symm, H2.pm (Pm.nil _)⟩
     | exact ⟨_, res1 rfl rfl, congrArg (Value.int .i64) (leftA_node (by unfold nodeOk; omega)).symm, H2.pm (Pm.nil _)⟩
  have g21p := oT g21
  refine wV (v_fb (o2 := 3) fa69_3 rfl rfl) ?_
  refine wO g21 ?_
  refine wV (v_load one67 rfl (H2.at (by repeat constructor) rfl)) ?_
  refine wO g21 ?_
  refine wV (v_len Try.underlying67 rfl) ?_
  refine wO g21 ?_
  refine wV (v_eql rfl rfl) ?_
  refine wV (v_pick_t rfl g21 rfl) ?_
  refine wA ?_
  refine wl_nil ?_
  refine wc_cut (σ := Unit) (fun q => [(1, .int .i64 syms), (2, .int .i64 (left - 1)), (3, .pointer (some ⟨b3, 0, none⟩))]) (fun q W => (nodeOk syms t.x t.kids.length) ∧ Holds w [Blk b3 69 [.int .i64 t.x.kind, .int .i64 t.x.at_, .string t.x.name, .slice B t.kids.length k]] W) ?_ ?_
  rotate_left
  ·rintro ⟨⟩ Wm ⟨hok, H⟩
   refine wc_seq ?_
   refine wcR ?_
   refine wA ?_
   refine wl_nil ?_
   refine wc_block ?_
   refine wc_loop (σ := Nat × Int) (fun s => [(1, .int .i64 syms), (2, .int .i64 s.2), (3, .pointer (some ⟨b3, 0, none⟩)), (8, .int .i64 s.1)]) (fun s W => PSr syms t left s.1 s.2 ∧ Holds w [Blk b3 69 [.int .i64 t.x.kind, .int .i64 t.x.at_, .string t.x.name, .slice B t.kids.length k]] W) (fun s => t.kids.length - s.1) (0, left - 1) (sc rfl (sc rfl (sc rfl (sc rfl (sn _))))) ⟨PSr.start hok (by omega), H⟩ ?_
   rintro ⟨i, r⟩ W0 ⟨hp, H⟩
   dsimp only at hp H ⊢
   have hle := hp.le
   have hrg := hp.rng
   refine wc_seq ?_
   refine wcR ?_
   refine wM ?_
   refine wV (v_fb (o2 := 3) fa69_3 rfl rfl) ?_
   refine wV (v_load one67 rfl (H.at (by repeat constructor) rfl)) ?_
   refine wV (v_len Try.underlying67 rfl) ?_
   refine wV (v_lss rfl rfl) ?_
   refine wM ?_
   refine wl_guard rfl rfl rfl (fun g94 => ?_) (fun g94 => ?_)
   rotate_left
   ·have g94p := oF g94
    refine wF g94 ?_
    refine wV (v_pick_f rfl g94 rfl) ?_
    refine wl_nil ?_
    refine wc_cond_f rfl ?_
    refine wc_exit ?_
    refine wcR ?_
    refine wM ?_
    refine wA ?_
    refine wl_nil ?_
    refine wc_ret ?_
    first
      | exact ⟨_, res1 rfl rfl, congrArg (Value.int .i64) (hp.fin (by omega)), H.pm (Pm.nil _)⟩
      | exact ⟨_, res1 rfl rfl, congrArg (Value.int .i64) (leftA_few (by omega)).symm, H.pm (Pm.nil _)⟩
      | exact ⟨_, res1 rfl rfl, congrArg (Value.int .i64) (leftA_node (by unfold nodeOk; omega)).symm, H.pm (Pm.nil _)⟩
   have g94p := oT g94
   have hsucc := Tr.cnts_succ ac0 t.kids i (by omega)
   have htk := Tr.cnts_take t.kids (i + 1)
   refine wM ?_
   refine wO g94 ?_
   refine wV (v_geq rfl rfl) ?_
   refine wV (v_pick_t rfl g94 rfl) ?_
   refine wl_nil ?_
   refine wc_cond rfl (fun c9 => ?_) (fun c9 => ?_)
   rotate_left
   ·have c9p := oF c9
    refine wc_exit ?_
    refine wcR ?_
    refine wM ?_
    refine wA ?_
    refine wl_nil ?_
    refine wc_ret ?_
    first
      | exact ⟨_, res1 rfl rfl, congrArg (Value.int .i64) (hp.fin (by omega)), H.pm (Pm.nil _)⟩
      | exact ⟨_, res1 rfl rfl, congrArg (Value.int .i64) (leftA_few (by omega)).symm, H.pm (Pm.nil _)⟩
      | exact ⟨_, res1 rfl rfl, congrArg (Value.int .i64) (leftA_node (by unfold nodeOk; omega)).symm, H.pm (Pm.nil _)⟩
   have c9p := oT c9
   refine wc_skip ?_
   refine wc_seq ?_
   refine wc_block ?_
   refine wc_region ?_
   refine wV (v_fb (o2 := 3) fa69_3 rfl rfl) ?_
   refine wV (v_load one67 rfl (H.at (by repeat constructor) rfl)) ?_
   refine wM ?_
   refine wV (v_idx Try.underlying67 sz69 hr.ad rfl rfl (by omega) (by omega)) ?_
   obtain ⟨B104_, k104_, hc104_, hl104_, hr104_⟩ := hr.atTr ac0 (i := i) (by omega)
   refine wV (v_loadN (cs := [.int .i64 (t.kids.getD i ac0).x.kind, .int .i64 (t.kids.getD i ac0).x.at_, .string (t.kids.getD i ac0).x.name, .slice B104_ (t.kids.getD i ac0).kids.length k104_]) agg69 rfl rfl (fun q_ u_ hu_ => H.cell (hc104_ q_ u_ hu_))) ?_
   refine wM ?_
   refine wM ?_
   refine wl_call en96 rfl rfl (ih _ (getD_mem (z := ac0) (show i < t.kids.length by omega)) _ _ _ r syms hl104_ (hr104_.below H.old) (by omega) (by omega)) ?_
   rintro _ w6 ⟨rfl, Hc⟩
   have H7 := H.call0 Hc
   refine wA ?_
   refine wl_nil ?_
   refine wc_region ?_
   refine wM ?_
   refine wV (v_addi rfl rfl (by omega)) ?_
   refine wA ?_
   refine wl_nil ?_
   exact ⟨(i + 1, _), (sc rfl (sc rfl (sc rfl (sc rfl (sn _))))), ⟨hp.next (by omega) (by omega), H7⟩, by dsimp only; omega⟩
  refine wcR ?_
  refine wV (v_fb (o2 := 0) fa69_0 rfl rfl) ?_
  refine wV (v_load one3 rfl (H2.at (by repeat constructor) rfl)) ?_
  refine wl_nil ?_
  refine wc_block ?_
  refine wcR ?_
  refine wV (v_eql rfl rfl) ?_
  refine wA ?_
  refine wl_nil ?_
  refine wc_cond rfl (fun c1 => ?_) (fun c1 => ?_)
  ·have c1p := oT c1
   refine wcR ?_
   refine wM ?_
   refine wV (v_not rfl) ?_
   refine wl_nil ?_
   refine wc_cond rfl (fun c2 => ?_) (fun c2 => ?_)
   rotate_left
   ·have c2p := of_nd_f c2
    refine wc_skip ?_
    exact ⟨(), (sc rfl (sc rfl (sc rfl (sn _)))), ⟨by unfold nodeOk; omega, H2⟩⟩
   have c2p := of_nd_t c2
   refine wcR ?_
   refine wA ?_
   refine wl_nil ?_
   refine wc_ret ?_
   first
     | exact ⟨_, res1 rfl rfl, congrArg (Value.int .i64) (hp.fin (by omega)), H2.pm (Pm.nil _)⟩
     | exact ⟨_, res1 rfl rfl, congrArg (Value.int .i64) (leftA_few (by omega)).symm, H2.pm (Pm.nil _)⟩
     | exact ⟨_, res1 rfl rfl, congrArg (Value.int .i64) (leftA_node (by unfold nodeOk; omega)).symm, H2.pm (Pm.nil _)⟩
  have c1p := oF c1
  refine wcR ?_
  refine wV (v_eql rfl rfl) ?_
  refine wA ?_
  refine wl_nil ?_
  refine wc_cond rfl (fun c3 => ?_) (fun c3 => ?_)
  ·have c3p := oT c3
   refine wcR ?_
   refine wV (v_fb (o2 := 1) fa69_1 rfl rfl) ?_
   refine wV (v_load one3 rfl (H2.at (by repeat constructor) rfl)) ?_
   refine wV (v_lss rfl rfl) ?_
   refine wM ?_
   refine wl_guard rfl rfl rfl (fun g38 => ?_) (fun g38 => ?_)
   rotate_left
   ·have g38p := oT g38
    refine wF g38 ?_
    refine wF g38 ?_
    refine wF g38 ?_
    refine wV (v_pick_t rfl g38 rfl) ?_
    refine wM ?_
    refine wF rfl ?_
    refine wF rfl ?_
    refine wF rfl ?_
    refine wV (v_pick_t rfl rfl rfl) ?_
    refine wM ?_
    refine wF rfl ?_
    refine wF rfl ?_
    refine wF rfl ?_
    refine wF rfl ?_
    refine wV (v_pick_t rfl rfl rfl) ?_
    refine wl_nil ?_
    refine wc_cond_t rfl ?_
    refine wcR ?_
    refine wA ?_
    refine wl_nil ?_
    refine wc_ret ?_
    first
      | exact ⟨_, res1 rfl rfl, congrArg (Value.int .i64) (hp.fin (by omega)), H2.pm (Pm.nil _)⟩
      | exact ⟨_, res1 rfl rfl, congrArg (Value.int .i64) (leftA_few (by omega)).symm, H2.pm (Pm.nil _)⟩
      | exact ⟨_, res1 rfl rfl, congrArg (Value.int .i64) (leftA_node (by unfold nodeOk; omega)).symm, H2.pm (Pm.nil _)⟩
   have g38p := oF g38
   refine wV (v_fb (o2 := 1) fa69_1 rfl rfl) ?_
   refine wO g38 ?_
   refine wV (v_load one3 rfl (H2.at (by repeat constructor) rfl)) ?_
   refine wO g38 ?_
   refine wM ?_
   refine wO g38 ?_
   refine wV (v_geq rfl rfl) ?_
   refine wV (v_pick_f rfl g38 rfl) ?_
   refine wM ?_
   refine wl_guard rfl rfl rfl (fun g44 => ?_) (fun g44 => ?_)
   rotate_left
   ·have g44p := oT g44
    refine wF g44 ?_
    refine wF g44 ?_
    refine wV (v_pick_t rfl g44 rfl) ?_
    refine wM ?_
    refine wF rfl ?_
    refine wF rfl ?_
    refine wF rfl ?_
    refine wF rfl ?_
    refine wV (v_pick_t rfl rfl rfl) ?_
    refine wl_nil ?_
    refine wc_cond_t rfl ?_
    refine wcR ?_
    refine wA ?_
    refine wl_nil ?_
    refine wc_ret ?_
    first
      | exact ⟨_, res1 rfl rfl, congrArg (Value.int .i64) (hp.fin (by omega)), H2.pm (Pm.nil _)⟩
      | exact ⟨_, res1 rfl rfl, congrArg (Value.int .i64) (leftA_few (by omega)).symm, H2.pm (Pm.nil _)⟩
      | exact ⟨_, res1 rfl rfl, congrArg (Value.int .i64) (leftA_node (by unfold nodeOk; omega)).symm, H2.pm (Pm.nil _)⟩
   have g44p := oF g44
   refine wV (v_fb (o2 := 2) fa69_2 rfl rfl) ?_
   refine wO g44 ?_
   refine wV (v_load one9 rfl (H2.at (by repeat constructor) rfl)) ?_
   refine wO g44 ?_
   refine wV (v_neq0 rfl rfl) ?_
   refine wV (v_pick_f rfl g44 rfl) ?_
   refine wM ?_
   refine wl_guard rfl rfl rfl (fun g49 => ?_) (fun g49 => ?_)
   rotate_left
   ·have g49p := of_nd_t g49
    refine wF g49 ?_
    refine wF g49 ?_
    refine wF g49 ?_
    refine wV (v_pick_t rfl g49 rfl) ?_
    refine wl_nil ?_
    refine wc_cond_t rfl ?_
    refine wcR ?_
    refine wA ?_
    refine wl_nil ?_
    refine wc_ret ?_
    first
      | exact ⟨_, res1 rfl rfl, congrArg (Value.int .i64) (hp.fin (by omega)), H2.pm (Pm.nil _)⟩
      | exact ⟨_, res1 rfl rfl, congrArg (Value.int .i64) (leftA_few (by omega)).symm, H2.pm (Pm.nil _)⟩
      | exact ⟨_, res1 rfl rfl, congrArg (Value.int .i64) (leftA_node (by unfold nodeOk; omega)).symm, H2.pm (Pm.nil _)⟩
   have g49p := of_nd_f g49
   refine wV (v_fb (o2 := 3) fa69_3 rfl rfl) ?_
   refine wO g49 ?_
   refine wV (v_load one67 rfl (H2.at (by repeat constructor) rfl)) ?_
   refine wO g49 ?_
   refine wV (v_len Try.underlying67 rfl) ?_
   refine wO g49 ?_
   refine wV (v_gtr rfl rfl) ?_
   refine wV (v_pick_f rfl g49 rfl) ?_
   refine wl_nil ?_
   refine wc_cond rfl (fun c4 => ?_) (fun c4 => ?_)
   rotate_left
   ·have c4p := oF c4
    refine wc_skip ?_
    exact ⟨(), (sc rfl (sc rfl (sc rfl (sn _)))), ⟨by unfold nodeOk; omega, H2⟩⟩
   have c4p := oT c4
   refine wcR ?_
   refine wA ?_
   refine wl_nil ?_
   refine wc_ret ?_
   first
     | exact ⟨_, res1 rfl rfl, congrArg (Value.int .i64) (hp.fin (by omega)), H2.pm (Pm.nil _)⟩
     | exact ⟨_, res1 rfl rfl, congrArg (Value.int .i64) (leftA_few (by omega)).symm, H2.pm (Pm.nil _)⟩
     | exact ⟨_, res1 rfl rfl, congrArg (Value.int .i64) (leftA_node (by unfold nodeOk; omega)).symm, H2.pm (Pm.nil _)⟩
  have c3p := oF c3
  refine wcR ?_
  refine wV (v_eql rfl rfl) ?_
  refine wA ?_
  refine wl_nil ?_
  refine wc_cond rfl (fun c5 => ?_) (fun c5 => ?_)
  ·have c5p := oT c5
   refine wcR ?_
   refine wV (v_fb (o2 := 2) fa69_2 rfl rfl) ?_
   refine wV (v_load one9 rfl (H2.at (by repeat constructor) rfl)) ?_
   refine wV (v_lens Try.underlying9 rfl) ?_
   refine wV (v_gtr rfl rfl) ?_
   refine wM ?_
   refine wl_guard rfl rfl rfl (fun g61 => ?_) (fun g61 => ?_)
   rotate_left
   ·have g61p := oT g61
    refine wF g61 ?_
    refine wF g61 ?_
    refine wV (v_pick_t rfl g61 rfl) ?_
    refine wM ?_
    refine wF rfl ?_
    refine wF rfl ?_
    refine wF rfl ?_
    refine wF rfl ?_
    refine wV (v_pick_t rfl rfl rfl) ?_
    refine wl_nil ?_
    refine wc_cond_t rfl ?_
    refine wcR ?_
    refine wA ?_
    refine wl_nil ?_
    refine wc_ret ?_
    first
      | exact ⟨_, res1 rfl rfl, congrArg (Value.int .i64) (hp.fin (by omega)), H2.pm (Pm.nil _)⟩
      | exact ⟨_, res1 rfl rfl, congrArg (Value.int .i64) (leftA_few (by omega)).symm, H2.pm (Pm.nil _)⟩
      | exact ⟨_, res1 rfl rfl, congrArg (Value.int .i64) (leftA_node (by unfold nodeOk; omega)).symm, H2.pm (Pm.nil _)⟩
   have g61p := oF g61
   refine wV (v_fb (o2 := 1) fa69_1 rfl rfl) ?_
   refine wO g61 ?_
   refine wV (v_load one3 rfl (H2.at (by repeat constructor) rfl)) ?_
   refine wO g61 ?_
   refine wV (v_neq rfl rfl) ?_
   refine wV (v_pick_f rfl g61 rfl) ?_
   refine wM ?_
   refine wl_guard rfl rfl rfl (fun g66 => ?_) (fun g66 => ?_)
   rotate_left
   ·have g66p := of_nd_t g66
    refine wF g66 ?_
    refine wF g66 ?_
    refine wF g66 ?_
    refine wV (v_pick_t rfl g66 rfl) ?_
    refine wl_nil ?_
    refine wc_cond_t rfl ?_
    refine wcR ?_
    refine wA ?_
    refine wl_nil ?_
    refine wc_ret ?_
    first
      | exact ⟨_, res1 rfl rfl, congrArg (Value.int .i64) (hp.fin (by omega)), H2.pm (Pm.nil _)⟩
      | exact ⟨_, res1 rfl rfl, congrArg (Value.int .i64) (leftA_few (by omega)).symm, H2.pm (Pm.nil _)⟩
      | exact ⟨_, res1 rfl rfl, congrArg (Value.int .i64) (leftA_node (by unfold nodeOk; omega)).symm, H2.pm (Pm.nil _)⟩
   have g66p := of_nd_f g66
   refine wV (v_fb (o2 := 3) fa69_3 rfl rfl) ?_
   refine wO g66 ?_
   refine wV (v_load one67 rfl (H2.at (by repeat constructor) rfl)) ?_
   refine wO g66 ?_
   refine wV (v_len Try.underlying67 rfl) ?_
   refine wO g66 ?_
   refine wV (v_gtr rfl rfl) ?_
   refine wV (v_pick_f rfl g66 rfl) ?_
   refine wl_nil ?_
   refine wc_cond rfl (fun c6 => ?_) (fun c6 => ?_)
   rotate_left
   ·have c6p := oF c6
    refine wc_skip ?_
    exact ⟨(), (sc rfl (sc rfl (sc rfl (sn _)))), ⟨by unfold nodeOk; omega, H2⟩⟩
   have c6p := oT c6
   refine wcR ?_
   refine wA ?_
   refine wl_nil ?_
   refine wc_ret ?_
   first
     | exact ⟨_, res1 rfl rfl, congrArg (Value.int .i64) (hp.fin (by omega)), H2.pm (Pm.nil _)⟩
     | exact ⟨_, res1 rfl rfl, congrArg (Value.int .i64) (leftA_few (by omega)).symm, H2.pm (Pm.nil _)⟩
     | exact ⟨_, res1 rfl rfl, congrArg (Value.int .i64) (leftA_node (by unfold nodeOk; omega)).symm, H2.pm (Pm.nil _)⟩
  have c5p := oF c5
  refine wcR ?_
  refine wV (v_eql rfl rfl) ?_
  refine wA ?_
  refine wl_nil ?_
  refine wc_cond rfl (fun c7 => ?_) (fun c7 => ?_)
  rotate_left
  ·have c7p := oF c7
   refine wcR ?_
   refine wA ?_
   refine wl_nil ?_
   refine wc_ret ?_
   first
     | exact ⟨_, res1 rfl rfl, congrArg (Value.int .i64) (hp.fin (by omega)), H2.pm (Pm.nil _)⟩
     | exact ⟨_, res1 rfl rfl, congrArg (Value.int .i64) (leftA_few (by omega)).symm, H2.pm (Pm.nil _)⟩
     | exact ⟨_, res1 rfl rfl, congrArg (Value.int .i64) (leftA_node (by unfold nodeOk; omega)).symm, H2.pm (Pm.nil _)⟩
  have c7p := oT c7
  refine wcR ?_
  refine wV (v_fb (o2 := 2) fa69_2 rfl rfl) ?_
  refine wV (v_load one9 rfl (H2.at (by repeat constructor) rfl)) ?_
  refine wV (v_lens Try.underlying9 rfl) ?_
  refine wV (v_lss rfl rfl) ?_
  refine wM ?_
  refine wl_guard rfl rfl rfl (fun g78 => ?_) (fun g78 => ?_)
  rotate_left
  ·have g78p := oT g78
   refine wF g78 ?_
   refine wF g78 ?_
   refine wF g78 ?_
   refine wV (v_pick_t rfl g78 rfl) ?_
   refine wM ?_
   refine wF rfl ?_
   refine wF rfl ?_
   refine wF rfl ?_
   refine wV (v_pick_t rfl rfl rfl) ?_
   refine wl_nil ?_
   refine wc_cond_t rfl ?_
   refine wcR ?_
   refine wA ?_
   refine wl_nil ?_
   refine wc_ret ?_
   first
     | exact ⟨_, res1 rfl rfl, congrArg (Value.int .i64) (hp.fin (by omega)), H2.pm (Pm.nil _)⟩
     | exact ⟨_, res1 rfl rfl, congrArg (Value.int .i64) (leftA_few (by omega)).symm, H2.pm (Pm.nil _)⟩
     | exact ⟨_, res1 rfl rfl, congrArg (Value.int .i64) (leftA_node (by unfold nodeOk; omega)).symm, H2.pm (Pm.nil _)⟩
  have g78p := oF g78
  refine wV (v_fb (o2 := 2) fa69_2 rfl rfl) ?_
  refine wO g78 ?_
  refine wV (v_load one9 rfl (H2.at (by repeat constructor) rfl)) ?_
  refine wO g78 ?_
  refine wV (v_lens Try.underlying9 rfl) ?_
  refine wO g78 ?_
  refine wV (v_gtr rfl rfl) ?_
  refine wV (v_pick_f rfl g78 rfl) ?_
  refine wM ?_
  refine wl_guard rfl rfl rfl (fun g84 => ?_) (fun g84 => ?_)
  rotate_left
  ·have g84p := oT g84
   refine wF g84 ?_
   refine wF g84 ?_
   refine wV (v_pick_t rfl g84 rfl) ?_
   refine wl_nil ?_
   refine wc_cond_t rfl ?_
   refine wcR ?_
   refine wA ?_
   refine wl_nil ?_
   refine wc_ret ?_
   first
     | exact ⟨_, res1 rfl rfl, congrArg (Value.int .i64) (hp.fin (by omega)), H2.pm (Pm.nil _)⟩
     | exact ⟨_, res1 rfl rfl, congrArg (Value.int .i64) (leftA_few (by omega)).symm, H2.pm (Pm.nil _)⟩
     | exact ⟨_, res1 rfl rfl, congrArg (Value.int .i64) (leftA_node (by unfold nodeOk; omega)).symm, H2.pm (Pm.nil _)⟩
  have g84p := oF g84
  refine wV (v_fb (o2 := 1) fa69_1 rfl rfl) ?_
  refine wO g84 ?_
  refine wV (v_load one3 rfl (H2.at (by repeat constructor) rfl)) ?_
  refine wO g84 ?_
  refine wV (v_neq rfl rfl) ?_
  refine wV (v_pick_f rfl g84 rfl) ?_
  refine wl_nil ?_
  refine wc_cond rfl (fun c8 => ?_) (fun c8 => ?_)
  rotate_left
  ·have c8p := of_nd_f c8
   refine wc_skip ?_
   exact ⟨(), (sc rfl (sc rfl (sc rfl (sn _)))), ⟨by unfold nodeOk; omega, H2⟩⟩
  have c8p := of_nd_t c8
  refine wcR ?_
  refine wA ?_
  refine wl_nil ?_
  refine wc_ret ?_
  first
    | exact ⟨_, res1 rfl rfl, congrArg (Value.int .i64) (hp.fin (by omega)), H2.pm (Pm.nil _)⟩
    | exact ⟨_, res1 rfl rfl, congrArg (Value.int .i64) (leftA_few (by omega)).symm, H2.pm (Pm.nil _)⟩
    | exact ⟨_, res1 rfl rfl, congrArg (Value.int .i64) (leftA_node (by unfold nodeOk; omega)).symm, H2.pm (Pm.nil _)⟩

theorem rparts_calls : ∀ t : Ac, RPartsOk t := Tr.ind fun x kids ih => fun w B k left syms hk hr hn hcn => rparts_step (t := .mk x kids) hk hr hn hcn ih
end Go.Proofs.Ytgdemplcpcacaaa.PartsW
