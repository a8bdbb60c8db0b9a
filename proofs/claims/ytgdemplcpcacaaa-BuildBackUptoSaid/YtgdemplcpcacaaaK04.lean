/- Texts within quotes: the program's answer. Which texts are names. -/
import Derived.Test.YtgdemplcpcacaaaProg
import Derived.Test.YtgdemplcpcacaaaK02
import Derived.Test.YtgdemplcpcacaaaK03
set_option linter.unusedVariables false
set_option linter.unusedSimpArgs false
/-! Texts within quotes: the program's answer. -/
namespace Go.Proofs.Ytgdemplcpcacaaa.QuoteW
open Go Go.RowKit Go.Proofs.YtgdemplcpcacaaaFx Go.Proofs.Ytgdemplcpcacaaa.BldW
theorem en32 : Enters Try.prog 32 := enters Try.func32 (by kernel_rfl) rfl
theorem en56 : Enters Try.prog 56 := enters Try.func56 (by kernel_rfl) rfl
theorem en57 : Enters Try.prog 57 := enters Try.func57 (by kernel_rfl) rfl
theorem en79 : Enters Try.prog 79 := enters Try.func79 (by kernel_rfl) rfl
theorem en92 : Enters Try.prog 92 := enters Try.func92 (by kernel_rfl) rfl
theorem en99 : Enters Try.prog 99 := enters Try.func99 (by kernel_rfl) rfl
theorem zv90 : ∀ W, (zeroValue 90).run Try.prog W = .ok (.agg #[.pointer none, .slice none 0 0]) W := zero_of (by kernel_rfl)

set_option maxRecDepth 100000 in
theorem hasP_calls {s p : ByteArray} {w : World} (hs : s.size ≤ 1099511627776) (hp : p.size ≤ 1099511627776) : Calls Try.prog 99 #[.string s, .string p] w fun e w' => ∃ v, e = .returned v ∧ v = .bool (pre s p) ∧ Holds w [] w' := by
  refine calls_of Try.func99 rfl Try.ntmps99 rfl ?_
  have H := Holds.start w
  refine wcR ?_
  refine wA ?_
  refine wl_nil ?_
  refine wcR ?_
  refine wM ?_
  refine wV (v_lens Try.underlying9 rfl) ?_
  refine wM ?_
  refine wV (v_lens Try.underlying9 rfl) ?_
  refine wV (v_geq rfl rfl) ?_
  refine wM ?_
  refine wl_guard rfl rfl rfl (fun g10 => ?_) (fun g10 => ?_)
  rotate_left
  ·have g10p := oF g10
   refine wF g10 ?_
   refine wF g10 ?_
   refine wF g10 ?_
   refine wF g10 ?_
   refine wF g10 ?_
   refine wV (v_pick_f rfl g10 rfl) ?_
   refine wA ?_
   refine wl_nil ?_
   refine wc_ret ?_
   first
     | (have q_ := g10p
        exact ⟨_, res1 rfl rfl, congrArg Value.bool (dec_eq ⟨fun hd => ⟨by omega, of_decide_eq_true hd⟩, fun hh => decide_eq_true hh.2⟩), H.pm (Pm.nil _)⟩)
     | exact ⟨_, res1 rfl rfl, congrArg Value.bool (dec_f fun hh => by have h_ := hh.1; omega).symm, H.pm (Pm.nil _)⟩
  have g10p := oT g10
  refine wM ?_
  refine wO g10 ?_
  refine wM ?_
  refine wO g10 ?_
  refine wV (v_lens Try.underlying9 rfl) ?_
  refine wO g10 ?_
  refine wV (v_cut_h Try.underlying9 rfl rfl (by omega) (by omega)) ?_
  rw [Int.toNat_natCast]
  refine wO g10 ?_
  refine wM ?_
  refine wO g10 ?_
  refine wV (v_eqls rfl rfl) ?_
  refine wV (v_pick_t rfl g10 rfl) ?_
  refine wA ?_
  refine wl_nil ?_
  refine wc_ret ?_
  first
    | (have q_ := g10p
       exact ⟨_, res1 rfl rfl, congrArg Value.bool (dec_eq ⟨fun hd => ⟨by omega, of_decide_eq_true hd⟩, fun hh => decide_eq_true hh.2⟩), H.pm (Pm.nil _)⟩)
    | exact ⟨_, res1 rfl rfl, congrArg Value.bool (dec_f fun hh => by have h_ := hh.1; omega).symm, H.pm (Pm.nil _)⟩

set_option maxRecDepth 100000 in
theorem hasPr_calls {s p : ByteArray} {w : World} (hs : s.size ≤ 1099511627776) (hp : p.size ≤ 1099511627776) : Calls Try.prog 92 #[.string s, .string p] w fun e w' => ∃ v, e = .returned v ∧ v = .bool (pre s p) ∧ Holds w [] w' := by
  refine calls_of Try.func92 rfl Try.ntmps92 rfl ?_
  have H := Holds.start w
  refine wcR ?_
  refine wA ?_
  refine wl_nil ?_
  refine wcR ?_
  refine wM ?_
  refine wM ?_
  refine wl_call en99 rfl rfl (hasP_calls hs hp) ?_
  rintro _ w1 ⟨rfl, Hc⟩
  have H2 := H.call0 Hc
  refine wA ?_
  refine wl_nil ?_
  refine wc_ret ?_
  exact ⟨_, res1 rfl rfl, rfl, H2.pm (Pm.nil _)⟩

set_option maxHeartbeats 1600000 in
set_option maxRecDepth 100000 in
theorem next_calls {s : ByteArray} {i : Nat} {w : World} (hs : s.size ≤ 1099511627776) (hi : i < s.size) : Calls Try.prog 79 #[.string s, .int .i64 i] w fun e w' => ∃ v, e = .returned v ∧ v = .tuple #[.int .i32 (nxt s i).1, .int .i64 (nxt s i).2.1, .bool (nxt s i).2.2] ∧ Holds w [] w' := by
  obtain ⟨t, ht⟩ : ∃ t, t = s.extract i s.size := ⟨_, rfl⟩
  have hts : t.size = s.size - i := by rw [ht, ByteArray.size_extract]; omega
  refine calls_of Try.func79 rfl Try.ntmps79 rfl ?_
  have H := Holds.start w
  refine wcR ?_
  refine wA ?_
  refine wA ?_
  refine wA ?_
  refine wl_nil ?_
  refine wc_seq ?_
  refine wcR ?_
  refine wM ?_
  refine wV (v_lss rfl rfl) ?_
  refine wM ?_
  refine wl_guard rfl rfl rfl (fun g11 => ?_) (fun g11 => ?_)
  rotate_left
  ·have g11p := oT g11
   refine wF g11 ?_
   refine wF g11 ?_
   refine wF g11 ?_
   refine wV (v_pick_t rfl g11 rfl) ?_
   refine wl_nil ?_
   refine wc_cond_t rfl ?_
   refine wcR ?_
   refine wA ?_
   refine wA ?_
   refine wA ?_
   refine wl_nil ?_
   refine wc_ret ?_
   first
     | (have q_ := g27p
        have e_ : nxt s i = (0, 1, false) := by unfold nxt; rw [← ht]; exact if_pos ⟨by omega, of_n_t c2⟩
        exact ⟨_, res3 rfl rfl rfl rfl, by rw [e_]; rfl, H.pm (Pm.nil _)⟩)
     | (have q_ := g27p
        have e_ : nxt s i = ((((Utf8.decode t 0).1 : Nat) : Int), (Utf8.encode (Utf8.decode t 0).1).size, true) := by unfold nxt; rw [← ht]; exact if_neg fun hh => by have h1_ := hh.1; first | omega | exact absurd (hh.2.symm.trans (of_n_f c2)) (by decide)
        exact ⟨_, res3 (v1 := Value.int .i32 (((Utf8.decode t 0).1 : Nat) : Int)) (v2 := Value.int .i64 (((Utf8.encode (((Utf8.decode t 0).1 : Nat) : Int)).size : Nat) : Int)) (v3 := Value.bool true) rfl rfl rfl rfl, by rw [e_], H.pm (Pm.nil _)⟩)
     | exact absurd hi (by omega)
  have g11p := oF g11
  refine wM ?_
  refine wO g11 ?_
  refine wM ?_
  refine wO g11 ?_
  refine wV (v_lens Try.underlying9 rfl) ?_
  refine wO g11 ?_
  refine wV (v_geq rfl rfl) ?_
  refine wV (v_pick_f rfl g11 rfl) ?_
  refine wl_nil ?_
  refine wc_cond rfl (fun c0 => ?_) (fun c0 => ?_)
  ·have c0p := oT c0
   refine wcR ?_
   refine wA ?_
   refine wA ?_
   refine wA ?_
   refine wl_nil ?_
   refine wc_ret ?_
   first
     | (have q_ := g27p
        have e_ : nxt s i = (0, 1, false) := by unfold nxt; rw [← ht]; exact if_pos ⟨by omega, of_n_t c2⟩
        exact ⟨_, res3 rfl rfl rfl rfl, by rw [e_]; rfl, H.pm (Pm.nil _)⟩)
     | (have q_ := g27p
        have e_ : nxt s i = ((((Utf8.decode t 0).1 : Nat) : Int), (Utf8.encode (Utf8.decode t 0).1).size, true) := by unfold nxt; rw [← ht]; exact if_neg fun hh => by have h1_ := hh.1; first | omega | exact absurd (hh.2.symm.trans (of_n_f c2)) (by decide)
        exact ⟨_, res3 (v1 := Value.int .i32 (((Utf8.decode t 0).1 : Nat) : Int)) (v2 := Value.int .i64 (((Utf8.encode (((Utf8.decode t 0).1 : Nat) : Int)).size : Nat) : Int)) (v3 := Value.bool true) rfl rfl rfl rfl, by rw [e_], H.pm (Pm.nil _)⟩)
     | exact absurd hi (by omega)
  have c0p := oF c0
  refine wc_skip ?_
  refine wc_seq ?_
  refine wcR ?_
  refine wM ?_
  refine wM ?_
  refine wV (v_cut_l Try.underlying9 rfl rfl (by omega) (by omega)) ?_
  rw [Int.toNat_natCast, ← ht]
  refine wl_rangeS H rfl Try.underlying9 rfl ?_
  intro r w2 H2
  refine wl_nil ?_
  refine wc_block ?_
  refine wc_loop (σ := Unit) (fun q => [(0, .string s), (1, .int .i64 i), (20, .pointer (some ⟨r, 0, none⟩))]) (fun q W => Holds w [SI r t 0] W) (fun q => 0) () (sc rfl (sc rfl (sc rfl (sn _)))) H2 ?_
  rintro ⟨⟩ W0 H
  refine wcR ?_
  refine wl_nextS H (by repeat constructor) (show 0 < t.size by omega) rfl rfl ?_
  intro w3 H3
  refine wV (v_extract rfl rfl) ?_
  refine wl_nil ?_
  refine wc_seq ?_
  refine wc_cond_t rfl ?_
  refine wc_skip ?_
  refine wc_block ?_
  refine wcR ?_
  refine wV (v_extract rfl rfl) ?_
  refine wA ?_
  refine wl_nil ?_
  refine wcR ?_
  refine wM ?_
  refine wA ?_
  refine wl_nil ?_
  refine wc_exit ?_
  refine wc_seq ?_
  refine wcR ?_
  refine wM ?_
  refine wV (v_eql rfl rfl) ?_
  refine wM ?_
  refine wl_guard rfl rfl rfl (fun g27 => ?_) (fun g27 => ?_)
  rotate_left
  ·have g27p := oF g27
   refine wF g27 ?_
   refine wF g27 ?_
   refine wF g27 ?_
   refine wF g27 ?_
   refine wV (v_pick_f rfl g27 rfl) ?_
   refine wl_nil ?_
   refine wc_cond_f rfl ?_
   refine wc_skip ?_
   refine wcR ?_
   refine wM ?_
   refine wM ?_
   refine wV (v_convS (by kernel_rfl) Try.underlying9 rfl) ?_
   refine wV (v_lens Try.underlying9 rfl) ?_
   refine wA ?_
   refine wA ?_
   refine wA ?_
   refine wl_nil ?_
   refine wc_ret ?_
   first
     | (have q_ := g27p
        have e_ : nxt s i = (0, 1, false) := by unfold nxt; rw [← ht]; exact if_pos ⟨by omega, of_n_t c2⟩
        exact ⟨_, res3 rfl rfl rfl rfl, by rw [e_]; rfl, H3.pm (Pm.nil _)⟩)
     | (have q_ := g27p
        have e_ : nxt s i = ((((Utf8.decode t 0).1 : Nat) : Int), (Utf8.encode (Utf8.decode t 0).1).size, true) := by unfold nxt; rw [← ht]; exact if_neg fun hh => by have h1_ := hh.1; first | omega | exact absurd (hh.2.symm.trans (of_n_f c2)) (by decide)
        exact ⟨_, res3 (v1 := Value.int .i32 (((Utf8.decode t 0).1 : Nat) : Int)) (v2 := Value.int .i64 (((Utf8.encode (((Utf8.decode t 0).1 : Nat) : Int)).size : Nat) : Int)) (v3 := Value.bool true) rfl rfl rfl rfl, by rw [e_], H3.pm (Pm.nil _)⟩)
     | exact absurd hi (by omega)
  have g27p := oT g27
  refine wM ?_
  refine wO g27 ?_
  refine wM ?_
  refine wO g27 ?_
  refine wV (v_cut_l Try.underlying9 rfl rfl (by omega) (by omega)) ?_
  rw [Int.toNat_natCast, ← ht]
  refine wO g27 ?_
  refine wl_call en92 rfl rfl (hasPr_calls (by omega) (by decide)) ?_
  rintro _ w6 ⟨rfl, Hc⟩
  have H7 := H3.call0 Hc
  refine wO g27 ?_
  refine wV (v_not rfl) ?_
  refine wV (v_pick_t rfl g27 rfl) ?_
  refine wl_nil ?_
  refine wc_cond rfl (fun c2 => ?_) (fun c2 => ?_)
  ·have c2p := of_n_t c2
   refine wcR ?_
   refine wA ?_
   refine wA ?_
   refine wA ?_
   refine wl_nil ?_
   refine wc_ret ?_
   first
     | (have q_ := g27p
        have e_ : nxt s i = (0, 1, false) := by unfold nxt; rw [← ht]; exact if_pos ⟨by omega, of_n_t c2⟩
        exact ⟨_, res3 rfl rfl rfl rfl, by rw [e_]; rfl, H7.pm (Pm.nil _)⟩)
     | (have q_ := g27p
        have e_ : nxt s i = ((((Utf8.decode t 0).1 : Nat) : Int), (Utf8.encode (Utf8.decode t 0).1).size, true) := by unfold nxt; rw [← ht]; exact if_neg fun hh => by have h1_ := hh.1; first | omega | exact absurd (hh.2.symm.trans (of_n_f c2)) (by decide)
        exact ⟨_, res3 (v1 := Value.int .i32 (((Utf8.decode t 0).1 : Nat) : Int)) (v2 := Value.int .i64 (((Utf8.encode (((Utf8.decode t 0).1 : Nat) : Int)).size : Nat) : Int)) (v3 := Value.bool true) rfl rfl rfl rfl, by rw [e_], H7.pm (Pm.nil _)⟩)
     | exact absurd hi (by omega)
  have c2p := of_n_f c2
  refine wc_skip ?_
  refine wcR ?_
  refine wM ?_
  refine wM ?_
  refine wV (v_convS (by kernel_rfl) Try.underlying9 rfl) ?_
  refine wV (v_lens Try.underlying9 rfl) ?_
  refine wA ?_
  refine wA ?_
  refine wA ?_
  refine wl_nil ?_
  refine wc_ret ?_
  first
    | (have q_ := g27p
       have e_ : nxt s i = (0, 1, false) := by unfold nxt; rw [← ht]; exact if_pos ⟨by omega, of_n_t c2⟩
       exact ⟨_, res3 rfl rfl rfl rfl, by rw [e_]; rfl, H7.pm (Pm.nil _)⟩)
    | (have q_ := g27p
       have e_ : nxt s i = ((((Utf8.decode t 0).1 : Nat) : Int), (Utf8.encode (Utf8.decode t 0).1).size, true) := by unfold nxt; rw [← ht]; exact if_neg fun hh => by have h1_ := hh.1; first | omega | exact absurd (hh.2.symm.trans (of_n_f c2)) (by decide)
       exact ⟨_, res3 (v1 := Value.int .i32 (((Utf8.decode t 0).1 : Nat) : Int)) (v2 := Value.int .i64 (((Utf8.encode (((Utf8.decode t 0).1 : Nat) : Int)).size : Nat) : Int)) (v3 := Value.bool true) rfl rfl rfl rfl, by rw [e_], H7.pm (Pm.nil _)⟩)
    | exact absurd hi (by omega)

set_option maxHeartbeats 3200000 in
set_option maxRecDepth 100000 in
theorem quote_calls {s : ByteArray} {w : World} (hs : s.size ≤ 1099511627776) : Calls Try.prog 58 #[.string s] w fun e w' => ∃ v, e = .returned v ∧ v = .tuple #[.string (qv s), .int .i64 (qe s)] ∧ Holds w [] w' := by
  refine calls_of Try.func58 rfl Try.ntmps58 rfl ?_
  have H := Holds.start w
  refine wcR ?_
  refine wA ?_
  refine wA ?_
  refine wl_nil ?_
  refine wc_seq ?_
  refine wcR ?_
  refine wM ?_
  refine wV (v_lens Try.underlying9 rfl) ?_
  refine wV (v_gtr rfl rfl) ?_
  refine wl_nil ?_
  refine wc_cond rfl (fun c0 => ?_) (fun c0 => ?_)
  ·have c0p := oT c0
   refine wcR ?_
   refine wA ?_
   refine wA ?_
   refine wl_nil ?_
   refine wc_ret ?_
   first
     | (have q_ := c1p
        rw [qb_end (by omega), List.append_nil] at hq
        exact ⟨_, res2 rfl rfl rfl, by rw [qv, qe, if_pos (by omega), if_pos (by omega), hq], H.pm (Pm.nil _)⟩)
     | exact ⟨_, res2 rfl rfl rfl, by rw [qv, qe, if_neg (by omega), if_neg (by omega)], H.pm (Pm.nil _)⟩
  have c0p := oF c0
  refine wc_skip ?_
  refine wcR ?_
  refine wl_alloc (cs := [.pointer none, .slice none 0 0]) H rfl zv90 rfl ?_
  intro b4 w1 hb4 H1
  replace H1 := H1.sbNew (e := 5)
  refine wl_nil ?_
  refine wcR ?_
  refine wl_call en56 rfl rfl (wb_calls (b := b4) (l := []) (c := 34) (by first | omega | (simp only [List.length_append, List.length_cons, List.length_nil]; omega)) H1) ?_
  rintro _ w2 Hc
  refine wl_nil ?_
  refine wc_seq ?_
  refine wcR ?_
  refine wA ?_
  refine wl_nil ?_
  refine wc_block ?_
  refine wc_loop (σ := Nat × List UInt8) (fun s' => [(0, .string s), (4, .pointer (some ⟨b4, 0, none⟩)), (5, .int .i64 s'.1)]) (fun s' W => (s'.1 ≤ s.size ∧ s'.2.length ≤ 1 + 4 * s'.1 ∧ s'.2 ++ qb s s'.1 = 34 :: qb s 0) ∧ Holds w [SB 90 5 b4 s'.2] W) (fun s' => s.size - s'.1) (0, [34]) (sc rfl (sc rfl (sc rfl (sn _)))) ⟨⟨Nat.zero_le _, by decide, rfl⟩, Hc⟩ ?_
  rintro ⟨i, l⟩ W0 ⟨⟨hi, hl, hq⟩, H⟩
  dsimp only at hi hl hq H ⊢
  refine wc_seq ?_
  refine wcR ?_
  refine wM ?_
  refine wM ?_
  refine wV (v_lens Try.underlying9 rfl) ?_
  refine wV (v_lss rfl rfl) ?_
  refine wl_nil ?_
  refine wc_cond rfl (fun c1 => ?_) (fun c1 => ?_)
  rotate_left
  ·have c1p := oF c1
   refine wc_exit ?_
   refine wcR ?_
   refine wl_call en56 rfl rfl (wb_calls (b := b4) (l := l) (c := 34) (by first | omega | (simp only [List.length_append, List.length_cons, List.length_nil]; omega)) H) ?_
   rintro _ w45 Hc
   refine wl_nil ?_
   refine wcR ?_
   refine wl_call en32 rfl rfl (sbs_calls (b := b4) Hc) ?_
   rintro _ w46 ⟨rfl, Hc⟩
   refine wA ?_
   refine wA ?_
   refine wl_nil ?_
   refine wc_ret ?_
   first
     | (have q_ := c1p
        rw [qb_end (by omega), List.append_nil] at hq
        exact ⟨_, res2 rfl rfl rfl, by rw [qv, qe, if_pos (by omega), if_pos (by omega), hq], Hc.pm (Pm.nil _)⟩)
     | exact ⟨_, res2 rfl rfl rfl, by rw [qv, qe, if_neg (by omega), if_neg (by omega)], Hc.pm (Pm.nil _)⟩
  have c1p := oT c1
  have hin : i < s.size := by omega
  obtain ⟨hn1, hn2, hn3⟩ := nxt_fit hin
  have hby := byA_lt s i
  refine wc_skip ?_
  refine wc_block ?_
  refine wcR ?_
  refine wM ?_
  refine wM ?_
  refine wl_call en79 rfl rfl (next_calls hs (by omega)) ?_
  rintro _ w3 ⟨rfl, Hc⟩
  have H4 := H.call0 Hc
  refine wM ?_
  refine wV (v_extract rfl rfl) ?_
  refine wV (v_extract rfl rfl) ?_
  refine wV (v_extract rfl rfl) ?_
  refine wA ?_
  refine wA ?_
  refine wA ?_
  refine wl_nil ?_
  refine wc_cut (σ := List UInt8) (fun l2 => [(0, .string s), (4, .pointer (some ⟨b4, 0, none⟩)), (5, .int .i64 i), (7, .int .i64 (nxt s i).2.1)]) (fun l2 W => l2 = l ++ qpart s i ∧ Holds w [SB 90 5 b4 l2] W) ?_ ?_
  rotate_left
  ·rintro l2 Wm ⟨hl2, H⟩
   refine wc_region ?_
   refine wM ?_
   refine wM ?_
   refine wV (v_addi rfl rfl (by omega)) ?_
   refine wA ?_
   refine wl_nil ?_
   have hql := qpart_len hin
   subst hl2
   exact ⟨(i + (nxt s i).2.1, l ++ qpart s i), by (dsimp only; rw [show (((i + (nxt s i).2.1 : Nat)) : Int) = (i : Int) + ((nxt s i).2.1 : Nat) from Int.natCast_add _ _]; exact (sc rfl (sc rfl (sc rfl (sn _))))), ⟨⟨by dsimp only; omega, by dsimp only; rw [List.length_append]; omega, by dsimp only; rw [List.append_assoc, ← qb_step hin]; exact hq⟩, H⟩, by dsimp only; omega⟩
  refine wc_block ?_
  refine wcR ?_
  refine wM ?_
  refine wV (v_eql rfl rfl) ?_
  refine wA ?_
  refine wl_nil ?_
  refine wc_cond rfl (fun c2 => ?_) (fun c2 => ?_)
  ·have c2p := oT c2
   refine wc_region ?_
   refine wl_call en57 rfl rfl (ws_calls (b := b4) (l := l) (by first | omega | (simp only [List.length_append, List.length_cons, List.length_nil]; omega)) (by decide) H4) ?_
   rintro _ w5 Hc
   refine wl_nil ?_
   first
     | (have e_ : qpart s i = [92, 110] := by unfold qpart; rw [if_pos c2p]
        exact ⟨l ++ [92, 110], (sc rfl (sc rfl (sc rfl (sc rfl (sn _))))), ⟨by rw [e_], Hc⟩⟩)
     | (have e_ : qpart s i = [92, 116] := by unfold qpart; rw [if_neg c2p, if_pos c3p]
        exact ⟨l ++ [92, 116], (sc rfl (sc rfl (sc rfl (sc rfl (sn _))))), ⟨by rw [e_], Hc⟩⟩)
     | (have e_ : qpart s i = [92, 114] := by unfold qpart; rw [if_neg c2p, if_neg c3p, if_pos c4p]
        exact ⟨l ++ [92, 114], (sc rfl (sc rfl (sc rfl (sc rfl (sn _))))), ⟨by rw [e_], Hc⟩⟩)
     | exact ⟨l ++ [92] ++ [c53], (sc rfl (sc rfl (sc rfl (sc rfl (sn _))))), ⟨by rw [hq53, List.append_assoc]; rfl, Hc⟩⟩
     | (have e_ : qpart s i = [92, 120, hexd (byA s i / 16), hexd (byA s i % 16)] := by unfold qpart; rw [if_neg c2p, if_neg c3p, if_neg c4p, if_neg (by omega), if_neg (by omega), if_pos (by first | exact .inl g57p | exact .inr (.inl g61p) | exact .inr (.inr (by omega)) | exact .inr (.inl (by omega)))]
        exact ⟨l ++ [92, 120] ++ [hexd (byA s i / 16)] ++ [hexd (byA s i % 16)], (sc rfl (sc rfl (sc rfl (sc rfl (sn _))))), ⟨by rw [e_, List.append_assoc, List.append_assoc]; rfl, Hc⟩⟩)
     | (have e_ : qpart s i = (s.extract i (i + (nxt s i).2.1)).data.toList := by unfold qpart; rw [if_neg c2p, if_neg c3p, if_neg c4p, if_neg (by omega), if_neg (by omega), if_neg (by rintro (h_ | h_ | h_); exact absurd (h_.symm.trans g57p) (by decide); omega; omega)]
        exact ⟨l ++ (s.extract i (i + (nxt s i).2.1)).data.toList, (sc rfl (sc rfl (sc rfl (sc rfl (sn _))))), ⟨by rw [e_], Hc⟩⟩)
  have c2p := oF c2
  refine wcR ?_
  refine wM ?_
  refine wV (v_eql rfl rfl) ?_
  refine wA ?_
  refine wl_nil ?_
  refine wc_cond rfl (fun c3 => ?_) (fun c3 => ?_)
  ·have c3p := oT c3
   refine wc_region ?_
   refine wl_call en57 rfl rfl (ws_calls (b := b4) (l := l) (by first | omega | (simp only [List.length_append, List.length_cons, List.length_nil]; omega)) (by decide) H4) ?_
   rintro _ w6 Hc
   refine wl_nil ?_
   first
     | (have e_ : qpart s i = [92, 110] := by unfold qpart; rw [if_pos c2p]
        exact ⟨l ++ [92, 110], (sc rfl (sc rfl (sc rfl (sc rfl (sn _))))), ⟨by rw [e_], Hc⟩⟩)
     | (have e_ : qpart s i = [92, 116] := by unfold qpart; rw [if_neg c2p, if_pos c3p]
        exact ⟨l ++ [92, 116], (sc rfl (sc rfl (sc rfl (sc rfl (sn _))))), ⟨by rw [e_], Hc⟩⟩)
     | (have e_ : qpart s i = [92, 114] := by unfold qpart; rw [if_neg c2p, if_neg c3p, if_pos c4p]
        exact ⟨l ++ [92, 114], (sc rfl (sc rfl (sc rfl (sc rfl (sn _))))), ⟨by rw [e_], Hc⟩⟩)
     | exact ⟨l ++ [92] ++ [c53], (sc rfl (sc rfl (sc rfl (sc rfl (sn _))))), ⟨by rw [hq53, List.append_assoc]; rfl, Hc⟩⟩
     | (have e_ : qpart s i = [92, 120, hexd (byA s i / 16), hexd (byA s i % 16)] := by unfold qpart; rw [if_neg c2p, if_neg c3p, if_neg c4p, if_neg (by omega), if_neg (by omega), if_pos (by first | exact .inl g57p | exact .inr (.inl g61p) | exact .inr (.inr (by omega)) | exact .inr (.inl (by omega)))]
        exact ⟨l ++ [92, 120] ++ [hexd (byA s i / 16)] ++ [hexd (byA s i % 16)], (sc rfl (sc rfl (sc rfl (sc rfl (sn _))))), ⟨by rw [e_, List.append_assoc, List.append_assoc]; rfl, Hc⟩⟩)
     | (have e_ : qpart s i = (s.extract i (i + (nxt s i).2.1)).data.toList := by unfold qpart; rw [if_neg c2p, if_neg c3p, if_neg c4p, if_neg (by omega), if_neg (by omega), if_neg (by rintro (h_ | h_ | h_); exact absurd (h_.symm.trans g57p) (by decide); omega; omega)]
        exact ⟨l ++ (s.extract i (i + (nxt s i).2.1)).data.toList, (sc rfl (sc rfl (sc rfl (sc rfl (sn _))))), ⟨by rw [e_], Hc⟩⟩)
  have c3p := oF c3
  refine wcR ?_
  refine wM ?_
  refine wV (v_eql rfl rfl) ?_
  refine wA ?_
  refine wl_nil ?_
  refine wc_cond rfl (fun c4 => ?_) (fun c4 => ?_)
  ·have c4p := oT c4
   refine wc_region ?_
   refine wl_call en57 rfl rfl (ws_calls (b := b4) (l := l) (by first | omega | (simp only [List.length_append, List.length_cons, List.length_nil]; omega)) (by decide) H4) ?_
   rintro _ w7 Hc
   refine wl_nil ?_
   first
     | (have e_ : qpart s i = [92, 110] := by unfold qpart; rw [if_pos c2p]
        exact ⟨l ++ [92, 110], (sc rfl (sc rfl (sc rfl (sc rfl (sn _))))), ⟨by rw [e_], Hc⟩⟩)
     | (have e_ : qpart s i = [92, 116] := by unfold qpart; rw [if_neg c2p, if_pos c3p]
        exact ⟨l ++ [92, 116], (sc rfl (sc rfl (sc rfl (sc rfl (sn _))))), ⟨by rw [e_], Hc⟩⟩)
     | (have e_ : qpart s i = [92, 114] := by unfold qpart; rw [if_neg c2p, if_neg c3p, if_pos c4p]
        exact ⟨l ++ [92, 114], (sc rfl (sc rfl (sc rfl (sc rfl (sn _))))), ⟨by rw [e_], Hc⟩⟩)
     | exact ⟨l ++ [92] ++ [c53], (sc rfl (sc rfl (sc rfl (sc rfl (sn _))))), ⟨by rw [hq53, List.append_assoc]; rfl, Hc⟩⟩
     | (have e_ : qpart s i = [92, 120, hexd (byA s i / 16), hexd (byA s i % 16)] := by unfold qpart; rw [if_neg c2p, if_neg c3p, if_neg c4p, if_neg (by omega), if_neg (by omega), if_pos (by first | exact .inl g57p | exact .inr (.inl g61p) | exact .inr (.inr (by omega)) | exact .inr (.inl (by omega)))]
        exact ⟨l ++ [92, 120] ++ [hexd (byA s i / 16)] ++ [hexd (byA s i % 16)], (sc rfl (sc rfl (sc rfl (sc rfl (sn _))))), ⟨by rw [e_, List.append_assoc, List.append_assoc]; rfl, Hc⟩⟩)
     | (have e_ : qpart s i = (s.extract i (i + (nxt s i).2.1)).data.toList := by unfold qpart; rw [if_neg c2p, if_neg c3p, if_neg c4p, if_neg (by omega), if_neg (by omega), if_neg (by rintro (h_ | h_ | h_); exact absurd (h_.symm.trans g57p) (by decide); omega; omega)]
        exact ⟨l ++ (s.extract i (i + (nxt s i).2.1)).data.toList, (sc rfl (sc rfl (sc rfl (sc rfl (sn _))))), ⟨by rw [e_], Hc⟩⟩)
  have c4p := oF c4
  refine wcR ?_
  refine wM ?_
  refine wV (v_eql rfl rfl) ?_
  refine wM ?_
  refine wl_guard rfl rfl rfl (fun g46 => ?_) (fun g46 => ?_)
  rotate_left
  ·have g46p := oT g46
   refine wF g46 ?_
   refine wV (v_pick_t rfl g46 rfl) ?_
   refine wA ?_
   refine wl_nil ?_
   refine wc_cond_t rfl ?_
   refine wcR ?_
   refine wl_call en56 rfl rfl (wb_calls (b := b4) (l := l) (c := 92) (by first | omega | (simp only [List.length_append, List.length_cons, List.length_nil]; omega)) H4) ?_
   rintro _ w41 Hc
   refine wl_nil ?_
   refine wc_region ?_
   obtain ⟨c53, hcv, hq53⟩ : ∃ c53 : UInt8, Value.int .u8 (IntKind.u8.wrap (nxt s i).1) = Value.int .u8 (c53.toNat : Int) ∧ qpart s i = [92, c53] := by
     rcases (by first | exact .inl g46p | exact .inr (by omega) : (nxt s i).1 = 34 ∨ (nxt s i).1 = 92) with h_ | h_
     · exact ⟨34, by rw [h_]; rfl, by unfold qpart; rw [if_neg c2p, if_neg c3p, if_neg c4p, if_pos h_]⟩
     · exact ⟨92, by rw [h_]; rfl, by unfold qpart; rw [if_neg c2p, if_neg c3p, if_neg c4p, if_neg (by omega), if_pos h_]⟩
   refine wM ?_
   refine wV (v_conv Try.underlying21 Try.underlying5 rfl) ?_
   refine wl_call en56 rfl rfl (by (rw [hcv]; exact wb_calls (b := b4) (l := l ++ [92]) (c := c53) (by first | omega | (simp only [List.length_append, List.length_cons, List.length_nil]; omega)) Hc)) ?_
   rintro _ w44 Hc
   refine wl_nil ?_
   first
     | (have e_ : qpart s i = [92, 110] := by unfold qpart; rw [if_pos c2p]
        exact ⟨l ++ [92, 110], (sc rfl (sc rfl (sc rfl (sc rfl (sn _))))), ⟨by rw [e_], Hc⟩⟩)
     | (have e_ : qpart s i = [92, 116] := by unfold qpart; rw [if_neg c2p, if_pos c3p]
        exact ⟨l ++ [92, 116], (sc rfl (sc rfl (sc rfl (sc rfl (sn _))))), ⟨by rw [e_], Hc⟩⟩)
     | (have e_ : qpart s i = [92, 114] := by unfold qpart; rw [if_neg c2p, if_neg c3p, if_pos c4p]
        exact ⟨l ++ [92, 114], (sc rfl (sc rfl (sc rfl (sc rfl (sn _))))), ⟨by rw [e_], Hc⟩⟩)
     | exact ⟨l ++ [92] ++ [c53], (sc rfl (sc rfl (sc rfl (sc rfl (sn _))))), ⟨by rw [hq53, List.append_assoc]; rfl, Hc⟩⟩
     | (have e_ : qpart s i = [92, 120, hexd (byA s i / 16), hexd (byA s i % 16)] := by unfold qpart; rw [if_neg c2p, if_neg c3p, if_neg c4p, if_neg (by omega), if_neg (by omega), if_pos (by first | exact .inl g57p | exact .inr (.inl g61p) | exact .inr (.inr (by omega)) | exact .inr (.inl (by omega)))]
        exact ⟨l ++ [92, 120] ++ [hexd (byA s i / 16)] ++ [hexd (byA s i % 16)], (sc rfl (sc rfl (sc rfl (sc rfl (sn _))))), ⟨by rw [e_, List.append_assoc, List.append_assoc]; rfl, Hc⟩⟩)
     | (have e_ : qpart s i = (s.extract i (i + (nxt s i).2.1)).data.toList := by unfold qpart; rw [if_neg c2p, if_neg c3p, if_neg c4p, if_neg (by omega), if_neg (by omega), if_neg (by rintro (h_ | h_ | h_); exact absurd (h_.symm.trans g57p) (by decide); omega; omega)]
        exact ⟨l ++ (s.extract i (i + (nxt s i).2.1)).data.toList, (sc rfl (sc rfl (sc rfl (sc rfl (sn _))))), ⟨by rw [e_], Hc⟩⟩)
  have g46p := oF g46
  refine wM ?_
  refine wO g46 ?_
  refine wV (v_eql rfl rfl) ?_
  refine wV (v_pick_f rfl g46 rfl) ?_
  refine wA ?_
  refine wl_nil ?_
  refine wc_cond rfl (fun c5 => ?_) (fun c5 => ?_)
  ·have c5p := oT c5
   refine wcR ?_
   refine wl_call en56 rfl rfl (wb_calls (b := b4) (l := l) (c := 92) (by first | omega | (simp only [List.length_append, List.length_cons, List.length_nil]; omega)) H4) ?_
   rintro _ w8 Hc
   refine wl_nil ?_
   refine wc_region ?_
   obtain ⟨c53, hcv, hq53⟩ : ∃ c53 : UInt8, Value.int .u8 (IntKind.u8.wrap (nxt s i).1) = Value.int .u8 (c53.toNat : Int) ∧ qpart s i = [92, c53] := by
     rcases (by first | exact .inl g46p | exact .inr (by omega) : (nxt s i).1 = 34 ∨ (nxt s i).1 = 92) with h_ | h_
     · exact ⟨34, by rw [h_]; rfl, by unfold qpart; rw [if_neg c2p, if_neg c3p, if_neg c4p, if_pos h_]⟩
     · exact ⟨92, by rw [h_]; rfl, by unfold qpart; rw [if_neg c2p, if_neg c3p, if_neg c4p, if_neg (by omega), if_pos h_]⟩
   refine wM ?_
   refine wV (v_conv Try.underlying21 Try.underlying5 rfl) ?_
   refine wl_call en56 rfl rfl (by (rw [hcv]; exact wb_calls (b := b4) (l := l ++ [92]) (c := c53) (by first | omega | (simp only [List.length_append, List.length_cons, List.length_nil]; omega)) Hc)) ?_
   rintro _ w11 Hc
   refine wl_nil ?_
   first
     | (have e_ : qpart s i = [92, 110] := by unfold qpart; rw [if_pos c2p]
        exact ⟨l ++ [92, 110], (sc rfl (sc rfl (sc rfl (sc rfl (sn _))))), ⟨by rw [e_], Hc⟩⟩)
     | (have e_ : qpart s i = [92, 116] := by unfold qpart; rw [if_neg c2p, if_pos c3p]
        exact ⟨l ++ [92, 116], (sc rfl (sc rfl (sc rfl (sc rfl (sn _))))), ⟨by rw [e_], Hc⟩⟩)
     | (have e_ : qpart s i = [92, 114] := by unfold qpart; rw [if_neg c2p, if_neg c3p, if_pos c4p]
        exact ⟨l ++ [92, 114], (sc rfl (sc rfl (sc rfl (sc rfl (sn _))))), ⟨by rw [e_], Hc⟩⟩)
     | exact ⟨l ++ [92] ++ [c53], (sc rfl (sc rfl (sc rfl (sc rfl (sn _))))), ⟨by rw [hq53, List.append_assoc]; rfl, Hc⟩⟩
     | (have e_ : qpart s i = [92, 120, hexd (byA s i / 16), hexd (byA s i % 16)] := by unfold qpart; rw [if_neg c2p, if_neg c3p, if_neg c4p, if_neg (by omega), if_neg (by omega), if_pos (by first | exact .inl g57p | exact .inr (.inl g61p) | exact .inr (.inr (by omega)) | exact .inr (.inl (by omega)))]
        exact ⟨l ++ [92, 120] ++ [hexd (byA s i / 16)] ++ [hexd (byA s i % 16)], (sc rfl (sc rfl (sc rfl (sc rfl (sn _))))), ⟨by rw [e_, List.append_assoc, List.append_assoc]; rfl, Hc⟩⟩)
     | (have e_ : qpart s i = (s.extract i (i + (nxt s i).2.1)).data.toList := by unfold qpart; rw [if_neg c2p, if_neg c3p, if_neg c4p, if_neg (by omega), if_neg (by omega), if_neg (by rintro (h_ | h_ | h_); exact absurd (h_.symm.trans g57p) (by decide); omega; omega)]
        exact ⟨l ++ (s.extract i (i + (nxt s i).2.1)).data.toList, (sc rfl (sc rfl (sc rfl (sc rfl (sn _))))), ⟨by rw [e_], Hc⟩⟩)
  have c5p := oF c5
  refine wcR ?_
  refine wM ?_
  refine wV (v_not rfl) ?_
  refine wM ?_
  refine wl_guard rfl rfl rfl (fun g57 => ?_) (fun g57 => ?_)
  rotate_left
  ·have g57p := of_n_t g57
   refine wF g57 ?_
   refine wV (v_pick_t rfl g57 rfl) ?_
   refine wM ?_
   refine wF rfl ?_
   refine wF rfl ?_
   refine wV (v_pick_t rfl rfl rfl) ?_
   refine wA ?_
   refine wl_nil ?_
   refine wc_cond_t rfl ?_
   refine wcR ?_
   refine wl_call en57 rfl rfl (ws_calls (b := b4) (l := l) (by first | omega | (simp only [List.length_append, List.length_cons, List.length_nil]; omega)) (by decide) H4) ?_
   rintro _ w32 Hc
   refine wl_nil ?_
   refine wcR ?_
   refine wM ?_
   refine wM ?_
   refine wV (v_idxs (i := i) (s := s) Try.underlying9 rfl rfl (by omega)) ?_
   refine wV (v_shrU (q := byA s i) rfl rfl) ?_
   refine wV (v_idxs (i := byA s i / 16) (s := hexs) Try.underlying9 rfl rfl (show byA s i / 16 < 16 by omega)) ?_
   refine wl_call en56 rfl rfl (wb_calls (b := b4) (l := (l ++ [92, 120])) (c := hexd (byA s i / 16)) (by first | omega | (simp only [List.length_append, List.length_cons, List.length_nil]; omega)) Hc) ?_
   rintro _ w36 Hc
   refine wl_nil ?_
   refine wc_region ?_
   refine wM ?_
   refine wM ?_
   refine wV (v_idxs (i := i) (s := s) Try.underlying9 rfl rfl (by omega)) ?_
   refine wV (v_andU (q := byA s i) hby rfl rfl) ?_
   refine wV (v_idxs (i := byA s i % 16) (s := hexs) Try.underlying9 rfl rfl (show byA s i % 16 < 16 by omega)) ?_
   refine wl_call en56 rfl rfl (wb_calls (b := b4) (l := (l ++ [92, 120] ++ [hexd (byA s i / 16)])) (c := hexd (byA s i % 16)) (by first | omega | (simp only [List.length_append, List.length_cons, List.length_nil]; omega)) Hc) ?_
   rintro _ w40 Hc
   refine wl_nil ?_
   first
     | (have e_ : qpart s i = [92, 110] := by unfold qpart; rw [if_pos c2p]
        exact ⟨l ++ [92, 110], (sc rfl (sc rfl (sc rfl (sc rfl (sn _))))), ⟨by rw [e_], Hc⟩⟩)
     | (have e_ : qpart s i = [92, 116] := by unfold qpart; rw [if_neg c2p, if_pos c3p]
        exact ⟨l ++ [92, 116], (sc rfl (sc rfl (sc rfl (sc rfl (sn _))))), ⟨by rw [e_], Hc⟩⟩)
     | (have e_ : qpart s i = [92, 114] := by unfold qpart; rw [if_neg c2p, if_neg c3p, if_pos c4p]
        exact ⟨l ++ [92, 114], (sc rfl (sc rfl (sc rfl (sc rfl (sn _))))), ⟨by rw [e_], Hc⟩⟩)
     | exact ⟨l ++ [92] ++ [c53], (sc rfl (sc rfl (sc rfl (sc rfl (sn _))))), ⟨by rw [hq53, List.append_assoc]; rfl, Hc⟩⟩
     | (have e_ : qpart s i = [92, 120, hexd (byA s i / 16), hexd (byA s i % 16)] := by unfold qpart; rw [if_neg c2p, if_neg c3p, if_neg c4p, if_neg (by omega), if_neg (by omega), if_pos (by first | exact .inl g57p | exact .inr (.inl g61p) | exact .inr (.inr (by omega)) | exact .inr (.inl (by omega)))]
        exact ⟨l ++ [92, 120] ++ [hexd (byA s i / 16)] ++ [hexd (byA s i % 16)], (sc rfl (sc rfl (sc rfl (sc rfl (sn _))))), ⟨by rw [e_, List.append_assoc, List.append_assoc]; rfl, Hc⟩⟩)
     | (have e_ : qpart s i = (s.extract i (i + (nxt s i).2.1)).data.toList := by unfold qpart; rw [if_neg c2p, if_neg c3p, if_neg c4p, if_neg (by omega), if_neg (by omega), if_neg (by rintro (h_ | h_ | h_); exact absurd (h_.symm.trans g57p) (by decide); omega; omega)]
        exact ⟨l ++ (s.extract i (i + (nxt s i).2.1)).data.toList, (sc rfl (sc rfl (sc rfl (sc rfl (sn _))))), ⟨by rw [e_], Hc⟩⟩)
  have g57p := of_n_f g57
  refine wM ?_
  refine wO g57 ?_
  refine wV (v_lss rfl rfl) ?_
  refine wV (v_pick_f rfl g57 rfl) ?_
  refine wM ?_
  refine wl_guard rfl rfl rfl (fun g61 => ?_) (fun g61 => ?_)
  rotate_left
  ·have g61p := oT g61
   refine wF g61 ?_
   refine wV (v_pick_t rfl g61 rfl) ?_
   refine wA ?_
   refine wl_nil ?_
   refine wc_cond_t rfl ?_
   refine wcR ?_
   refine wl_call en57 rfl rfl (ws_calls (b := b4) (l := l) (by first | omega | (simp only [List.length_append, List.length_cons, List.length_nil]; omega)) (by decide) H4) ?_
   rintro _ w23 Hc
   refine wl_nil ?_
   refine wcR ?_
   refine wM ?_
   refine wM ?_
   refine wV (v_idxs (i := i) (s := s) Try.underlying9 rfl rfl (by omega)) ?_
   refine wV (v_shrU (q := byA s i) rfl rfl) ?_
   refine wV (v_idxs (i := byA s i / 16) (s := hexs) Try.underlying9 rfl rfl (show byA s i / 16 < 16 by omega)) ?_
   refine wl_call en56 rfl rfl (wb_calls (b := b4) (l := (l ++ [92, 120])) (c := hexd (byA s i / 16)) (by first | omega | (simp only [List.length_append, List.length_cons, List.length_nil]; omega)) Hc) ?_
   rintro _ w27 Hc
   refine wl_nil ?_
   refine wc_region ?_
   refine wM ?_
   refine wM ?_
   refine wV (v_idxs (i := i) (s := s) Try.underlying9 rfl rfl (by omega)) ?_
   refine wV (v_andU (q := byA s i) hby rfl rfl) ?_
   refine wV (v_idxs (i := byA s i % 16) (s := hexs) Try.underlying9 rfl rfl (show byA s i % 16 < 16 by omega)) ?_
   refine wl_call en56 rfl rfl (wb_calls (b := b4) (l := (l ++ [92, 120] ++ [hexd (byA s i / 16)])) (c := hexd (byA s i % 16)) (by first | omega | (simp only [List.length_append, List.length_cons, List.length_nil]; omega)) Hc) ?_
   rintro _ w31 Hc
   refine wl_nil ?_
   first
     | (have e_ : qpart s i = [92, 110] := by unfold qpart; rw [if_pos c2p]
        exact ⟨l ++ [92, 110], (sc rfl (sc rfl (sc rfl (sc rfl (sn _))))), ⟨by rw [e_], Hc⟩⟩)
     | (have e_ : qpart s i = [92, 116] := by unfold qpart; rw [if_neg c2p, if_pos c3p]
        exact ⟨l ++ [92, 116], (sc rfl (sc rfl (sc rfl (sc rfl (sn _))))), ⟨by rw [e_], Hc⟩⟩)
     | (have e_ : qpart s i = [92, 114] := by unfold qpart; rw [if_neg c2p, if_neg c3p, if_pos c4p]
        exact ⟨l ++ [92, 114], (sc rfl (sc rfl (sc rfl (sc rfl (sn _))))), ⟨by rw [e_], Hc⟩⟩)
     | exact ⟨l ++ [92] ++ [c53], (sc rfl (sc rfl (sc rfl (sc rfl (sn _))))), ⟨by rw [hq53, List.append_assoc]; rfl, Hc⟩⟩
     | (have e_ : qpart s i = [92, 120, hexd (byA s i / 16), hexd (byA s i % 16)] := by unfold qpart; rw [if_neg c2p, if_neg c3p, if_neg c4p, if_neg (by omega), if_neg (by omega), if_pos (by first | exact .inl g57p | exact .inr (.inl g61p) | exact .inr (.inr (by omega)) | exact .inr (.inl (by omega)))]
        exact ⟨l ++ [92, 120] ++ [hexd (byA s i / 16)] ++ [hexd (byA s i % 16)], (sc rfl (sc rfl (sc rfl (sc rfl (sn _))))), ⟨by rw [e_, List.append_assoc, List.append_assoc]; rfl, Hc⟩⟩)
     | (have e_ : qpart s i = (s.extract i (i + (nxt s i).2.1)).data.toList := by unfold qpart; rw [if_neg c2p, if_neg c3p, if_neg c4p, if_neg (by omega), if_neg (by omega), if_neg (by rintro (h_ | h_ | h_); exact absurd (h_.symm.trans g57p) (by decide); omega; omega)]
        exact ⟨l ++ (s.extract i (i + (nxt s i).2.1)).data.toList, (sc rfl (sc rfl (sc rfl (sc rfl (sn _))))), ⟨by rw [e_], Hc⟩⟩)
  have g61p := oF g61
  refine wM ?_
  refine wO g61 ?_
  refine wV (v_eql rfl rfl) ?_
  refine wV (v_pick_f rfl g61 rfl) ?_
  refine wA ?_
  refine wl_nil ?_
  refine wc_cond rfl (fun c6 => ?_) (fun c6 => ?_)
  rotate_left
  ·have c6p := oF c6
   refine wc_region ?_
   refine wM ?_
   refine wM ?_
   refine wM ?_
   refine wM ?_
   refine wV (v_addi rfl rfl (by omega)) ?_
   refine wV (v_cut Try.underlying9 rfl rfl rfl (by omega) (by omega) (by omega)) ?_
   rw [show ((i : Int) + ((nxt s i).2.1 : Nat)).toNat = i + (nxt s i).2.1 by omega, Int.toNat_natCast]
   refine wl_call en57 rfl rfl (ws_calls (b := b4) (l := l) (by first | omega | (simp only [List.length_append, List.length_cons, List.length_nil]; omega)) ⟨by rw [ByteArray.size_extract]; omega, by rw [ByteArray.size_extract]; omega⟩ H4) ?_
   rintro _ w22 Hc
   refine wl_nil ?_
   first
     | (have e_ : qpart s i = [92, 110] := by unfold qpart; rw [if_pos c2p]
        exact ⟨l ++ [92, 110], (sc rfl (sc rfl (sc rfl (sc rfl (sn _))))), ⟨by rw [e_], Hc⟩⟩)
     | (have e_ : qpart s i = [92, 116] := by unfold qpart; rw [if_neg c2p, if_pos c3p]
        exact ⟨l ++ [92, 116], (sc rfl (sc rfl (sc rfl (sc rfl (sn _))))), ⟨by rw [e_], Hc⟩⟩)
     | (have e_ : qpart s i = [92, 114] := by unfold qpart; rw [if_neg c2p, if_neg c3p, if_pos c4p]
        exact ⟨l ++ [92, 114], (sc rfl (sc rfl (sc rfl (sc rfl (sn _))))), ⟨by rw [e_], Hc⟩⟩)
     | exact ⟨l ++ [92] ++ [c53], (sc rfl (sc rfl (sc rfl (sc rfl (sn _))))), ⟨by rw [hq53, List.append_assoc]; rfl, Hc⟩⟩
     | (have e_ : qpart s i = [92, 120, hexd (byA s i / 16), hexd (byA s i % 16)] := by unfold qpart; rw [if_neg c2p, if_neg c3p, if_neg c4p, if_neg (by omega), if_neg (by omega), if_pos (by first | exact .inl g57p | exact .inr (.inl g61p) | exact .inr (.inr (by omega)) | exact .inr (.inl (by omega)))]
        exact ⟨l ++ [92, 120] ++ [hexd (byA s i / 16)] ++ [hexd (byA s i % 16)], (sc rfl (sc rfl (sc rfl (sc rfl (sn _))))), ⟨by rw [e_, List.append_assoc, List.append_assoc]; rfl, Hc⟩⟩)
     | (have e_ : qpart s i = (s.extract i (i + (nxt s i).2.1)).data.toList := by unfold qpart; rw [if_neg c2p, if_neg c3p, if_neg c4p, if_neg (by omega), if_neg (by omega), if_neg (by rintro (h_ | h_ | h_); exact absurd (h_.symm.trans g57p) (by decide); omega; omega)]
        exact ⟨l ++ (s.extract i (i + (nxt s i).2.1)).data.toList, (sc rfl (sc rfl (sc rfl (sc rfl (sn _))))), ⟨by rw [e_], Hc⟩⟩)
  have c6p := oT c6
  refine wcR ?_
  refine wl_call en57 rfl rfl (ws_calls (b := b4) (l := l) (by first | omega | (simp only [List.length_append, List.length_cons, List.length_nil]; omega)) (by decide) H4) ?_
  rintro _ w12 Hc
  refine wl_nil ?_
  refine wcR ?_
  refine wM ?_
  refine wM ?_
  refine wV (v_idxs (i := i) (s := s) Try.underlying9 rfl rfl (by omega)) ?_
  refine wV (v_shrU (q := byA s i) rfl rfl) ?_
  refine wV (v_idxs (i := byA s i / 16) (s := hexs) Try.underlying9 rfl rfl (show byA s i / 16 < 16 by omega)) ?_
  refine wl_call en56 rfl rfl (wb_calls (b := b4) (l := (l ++ [92, 120])) (c := hexd (byA s i / 16)) (by first | omega | (simp only [List.length_append, List.length_cons, List.length_nil]; omega)) Hc) ?_
  rintro _ w16 Hc
  refine wl_nil ?_
  refine wc_region ?_
  refine wM ?_
  refine wM ?_
  refine wV (v_idxs (i := i) (s := s) Try.underlying9 rfl rfl (by omega)) ?_
  refine wV (v_andU (q := byA s i) hby rfl rfl) ?_
  refine wV (v_idxs (i := byA s i % 16) (s := hexs) Try.underlying9 rfl rfl (show byA s i % 16 < 16 by omega)) ?_
  refine wl_call en56 rfl rfl (wb_calls (b := b4) (l := (l ++ [92, 120] ++ [hexd (byA s i / 16)])) (c := hexd (byA s i % 16)) (by first | omega | (simp only [List.length_append, List.length_cons, List.length_nil]; omega)) Hc) ?_
  rintro _ w20 Hc
  refine wl_nil ?_
  first
    | (have e_ : qpart s i = [92, 110] := by unfold qpart; rw [if_pos c2p]
       exact ⟨l ++ [92, 110], (sc rfl (sc rfl (sc rfl (sc rfl (sn _))))), ⟨by rw [e_], Hc⟩⟩)
    | (have e_ : qpart s i = [92, 116] := by unfold qpart; rw [if_neg c2p, if_pos c3p]
       exact ⟨l ++ [92, 116], (sc rfl (sc rfl (sc rfl (sc rfl (sn _))))), ⟨by rw [e_], Hc⟩⟩)
    | (have e_ : qpart s i = [92, 114] := by unfold qpart; rw [if_neg c2p, if_neg c3p, if_pos c4p]
       exact ⟨l ++ [92, 114], (sc rfl (sc rfl (sc rfl (sc rfl (sn _))))), ⟨by rw [e_], Hc⟩⟩)
    | exact ⟨l ++ [92] ++ [c53], (sc rfl (sc rfl (sc rfl (sc rfl (sn _))))), ⟨by rw [hq53, List.append_assoc]; rfl, Hc⟩⟩
    | (have e_ : qpart s i = [92, 120, hexd (byA s i / 16), hexd (byA s i % 16)] := by unfold qpart; rw [if_neg c2p, if_neg c3p, if_neg c4p, if_neg (by omega), if_neg (by omega), if_pos (by first | exact .inl g57p | exact .inr (.inl g61p) | exact .inr (.inr (by omega)) | exact .inr (.inl (by omega)))]
       exact ⟨l ++ [92, 120] ++ [hexd (byA s i / 16)] ++ [hexd (byA s i % 16)], (sc rfl (sc rfl (sc rfl (sc rfl (sn _))))), ⟨by rw [e_, List.append_assoc, List.append_assoc]; rfl, Hc⟩⟩)
    | (have e_ : qpart s i = (s.extract i (i + (nxt s i).2.1)).data.toList := by unfold qpart; rw [if_neg c2p, if_neg c3p, if_neg c4p, if_neg (by omega), if_neg (by omega), if_neg (by rintro (h_ | h_ | h_); exact absurd (h_.symm.trans g57p) (by decide); omega; omega)]
       exact ⟨l ++ (s.extract i (i + (nxt s i).2.1)).data.toList, (sc rfl (sc rfl (sc rfl (sc rfl (sn _))))), ⟨by rw [e_], Hc⟩⟩)
end Go.Proofs.Ytgdemplcpcacaaa.QuoteW

/-! Which texts are names. -/
namespace Go.Proofs.Ytgdemplcpcacaaa.NameW
open Go Go.RowKit Go.Proofs.YtgdemplcpcacaaaFx 


set_option maxHeartbeats 1600000 in
set_option maxRecDepth 100000 in
theorem named_calls {s : ByteArray} {w : World} (hs : s.size ≤ 1099511627776) : Calls Try.prog 82 #[.string s] w fun e w' => ∃ v, e = .returned v ∧ v = .bool (dec (NameOk 64 s)) ∧ Holds w [] w' := by
  refine calls_of Try.func82 rfl Try.ntmps82 rfl ?_
  have H := Holds.start w
  refine wcR ?_
  refine wA ?_
  refine wl_nil ?_
  refine wc_seq ?_
  refine wcR ?_
  refine wA ?_
  refine wl_nil ?_
  refine wc_block ?_
  refine wc_loop (σ := Nat) (fun q => [(0, .string s), (3, .int .i64 q)]) (fun q W => q ≤ s.size ∧ (∀ j, j < q → chOk j (byt s j)) ∧ Holds w [] W) (fun q => s.size - q) 0 (sc rfl (sc rfl (sn _))) ⟨Nat.zero_le _, upto_zero, H⟩ ?_
  rintro i W0 ⟨hi, ha, H⟩
  refine wc_seq ?_
  refine wcR ?_
  refine wM ?_
  refine wM ?_
  refine wV (v_lens Try.underlying9 rfl) ?_
  refine wV (v_lss rfl rfl) ?_
  refine wl_nil ?_
  refine wc_cond rfl (fun c0 => ?_) (fun c0 => ?_)
  rotate_left
  ·have c0p := oF c0
   refine wc_exit ?_
   refine wcR ?_
   refine wM ?_
   refine wV (v_lens Try.underlying9 rfl) ?_
   refine wV (v_geq rfl rfl) ?_
   refine wM ?_
   refine wl_guard rfl rfl rfl (fun g47 => ?_) (fun g47 => ?_)
   rotate_left
   ·have g47p := oF g47
    refine wF g47 ?_
    refine wF g47 ?_
    refine wV (v_pick_f rfl g47 rfl) ?_
    refine wA ?_
    refine wl_nil ?_
    refine wc_ret ?_
    first
      | exact ⟨_, res1 rfl rfl, congrArg Value.bool (dec_eq ⟨fun hd => ⟨by omega, by have := of_decide_eq_true hd; omega, fun j hj => ha j (by omega)⟩, fun hh => decide_eq_true (by obtain ⟨h5, h6, _⟩ := hh; omega)⟩), H.pm (by repeat constructor)⟩
      | exact ⟨_, res1 rfl rfl, congrArg Value.bool (dec_f fun hh => by have h5 := hh.2.2 i (by omega); unfold chOk at h5; omega).symm, H.pm (by repeat constructor)⟩
      | exact ⟨_, res1 rfl rfl, congrArg Value.bool (dec_t ⟨by omega, by omega, fun j hj => ha j (by omega)⟩).symm, H.pm (by repeat constructor)⟩
      | exact ⟨_, res1 rfl rfl, congrArg Value.bool (dec_f fun hh => by obtain ⟨h5, h6, _⟩ := hh; omega).symm, H.pm (by repeat constructor)⟩
   have g47p := oT g47
   refine wM ?_
   refine wO g47 ?_
   refine wV (v_lens Try.underlying9 rfl) ?_
   refine wO g47 ?_
   refine wV (v_leq rfl rfl) ?_
   refine wV (v_pick_t rfl g47 rfl) ?_
   refine wA ?_
   refine wl_nil ?_
   refine wc_ret ?_
   first
     | exact ⟨_, res1 rfl rfl, congrArg Value.bool (dec_eq ⟨fun hd => ⟨by omega, by have := of_decide_eq_true hd; omega, fun j hj => ha j (by omega)⟩, fun hh => decide_eq_true (by obtain ⟨h5, h6, _⟩ := hh; omega)⟩), H.pm (by repeat constructor)⟩
     | exact ⟨_, res1 rfl rfl, congrArg Value.bool (dec_f fun hh => by have h5 := hh.2.2 i (by omega); unfold chOk at h5; omega).symm, H.pm (by repeat constructor)⟩
     | exact ⟨_, res1 rfl rfl, congrArg Value.bool (dec_t ⟨by omega, by omega, fun j hj => ha j (by omega)⟩).symm, H.pm (by repeat constructor)⟩
     | exact ⟨_, res1 rfl rfl, congrArg Value.bool (dec_f fun hh => by obtain ⟨h5, h6, _⟩ := hh; omega).symm, H.pm (by repeat constructor)⟩
  have c0p := oT c0
  refine wc_skip ?_
  refine wc_seq ?_
  refine wc_block ?_
  refine wcR ?_
  refine wM ?_
  refine wM ?_
  refine wV (v_idxs (i := i) (s := s) Try.underlying9 rfl rfl (by omega)) ?_
  refine wA ?_
  refine wl_nil ?_
  refine wc_seq ?_
  refine wcR ?_
  refine wM ?_
  refine wV (v_geq rfl rfl) ?_
  refine wM ?_
  refine wl_guard rfl rfl rfl (fun g16 => ?_) (fun g16 => ?_)
  rotate_left
  ·have g16p := oF g16
   refine wF g16 ?_
   refine wV (v_pick_f rfl g16 rfl) ?_
   refine wM ?_
   refine wO rfl ?_
   refine wM ?_
   refine wO rfl ?_
   refine wV (v_geq rfl rfl) ?_
   refine wO rfl ?_
   refine wM ?_
   refine wl_guard rfl rfl rfl (fun g23 => ?_) (fun g23 => ?_)
   rotate_left
   ·have g23p := oF g23
    refine wF g23 ?_
    refine wO rfl ?_
    refine wV (v_pick_f rfl g23 rfl) ?_
    refine wV (v_pick_f rfl rfl rfl) ?_
    refine wM ?_
    refine wO rfl ?_
    refine wM ?_
    refine wO rfl ?_
    refine wV (v_eql rfl rfl) ?_
    refine wV (v_pick_f rfl rfl rfl) ?_
    refine wM ?_
    refine wl_guard rfl rfl rfl (fun g32 => ?_) (fun g32 => ?_)
    rotate_left
    ·have g32p := oT g32
     refine wF g32 ?_
     refine wF g32 ?_
     refine wl_offu rfl rfl rfl ?_
     refine wl_offu rfl rfl rfl ?_
     refine wF g32 ?_
     refine wF g32 ?_
     refine wl_offu rfl rfl rfl ?_
     refine wl_offu rfl rfl rfl ?_
     refine wF g32 ?_
     refine wV (v_pick_t rfl g32 rfl) ?_
     refine wl_nil ?_
     refine wc_cond_t rfl ?_
     refine wc_exit ?_
     refine wc_region ?_
     refine wM ?_
     refine wV (v_addi rfl rfl (by omega)) ?_
     refine wA ?_
     refine wl_nil ?_
     exact ⟨i + 1, (sc rfl (sc rfl (sn _))), ⟨by omega, upto_succ ha (by unfold chOk; omega), H.pm (by repeat constructor)⟩, by omega⟩
    have g32p := oF g32
    refine wM ?_
    refine wO g32 ?_
    refine wV (v_gtr rfl rfl) ?_
    refine wO g32 ?_
    refine wM ?_
    refine wl_guard rfl rfl rfl (fun g35 => ?_) (fun g35 => ?_)
    rotate_left
    ·have g35p := oF g35
     refine wF g35 ?_
     refine wO g32 ?_
     refine wV (v_pick_f rfl g35 rfl) ?_
     refine wO g32 ?_
     refine wM ?_
     refine wF rfl ?_
     refine wF rfl ?_
     refine wO g32 ?_
     refine wV (v_pick_f rfl rfl rfl) ?_
     refine wV (v_pick_f rfl g32 rfl) ?_
     refine wl_nil ?_
     refine wc_cond_f rfl ?_
     refine wc_skip ?_
     refine wcR ?_
     refine wA ?_
     refine wl_nil ?_
     refine wc_ret ?_
     first
       | exact ⟨_, res1 rfl rfl, congrArg Value.bool (dec_eq ⟨fun hd => ⟨by omega, by have := of_decide_eq_true hd; omega, fun j hj => ha j (by omega)⟩, fun hh => decide_eq_true (by obtain ⟨h5, h6, _⟩ := hh; omega)⟩), H.pm (by repeat constructor)⟩
       | exact ⟨_, res1 rfl rfl, congrArg Value.bool (dec_f fun hh => by have h5 := hh.2.2 i (by omega); unfold chOk at h5; omega).symm, H.pm (by repeat constructor)⟩
       | exact ⟨_, res1 rfl rfl, congrArg Value.bool (dec_t ⟨by omega, by omega, fun j hj => ha j (by omega)⟩).symm, H.pm (by repeat constructor)⟩
       | exact ⟨_, res1 rfl rfl, congrArg Value.bool (dec_f fun hh => by obtain ⟨h5, h6, _⟩ := hh; omega).symm, H.pm (by repeat constructor)⟩
    have g35p := oT g35
    refine wM ?_
    refine wO g35 ?_
    refine wV (v_geq rfl rfl) ?_
    refine wO g32 ?_
    refine wV (v_pick_t rfl g35 rfl) ?_
    refine wO g32 ?_
    refine wM ?_
    refine wl_guard rfl rfl rfl (fun g39 => ?_) (fun g39 => ?_)
    rotate_left
    ·have g39p := oF g39
     refine wF g39 ?_
     refine wO g32 ?_
     refine wV (v_pick_f rfl g39 rfl) ?_
     refine wV (v_pick_f rfl g32 rfl) ?_
     refine wl_nil ?_
     refine wc_cond_f rfl ?_
     refine wc_skip ?_
     refine wcR ?_
     refine wA ?_
     refine wl_nil ?_
     refine wc_ret ?_
     first
       | exact ⟨_, res1 rfl rfl, congrArg Value.bool (dec_eq ⟨fun hd => ⟨by omega, by have := of_decide_eq_true hd; omega, fun j hj => ha j (by omega)⟩, fun hh => decide_eq_true (by obtain ⟨h5, h6, _⟩ := hh; omega)⟩), H.pm (by repeat constructor)⟩
       | exact ⟨_, res1 rfl rfl, congrArg Value.bool (dec_f fun hh => by have h5 := hh.2.2 i (by omega); unfold chOk at h5; omega).symm, H.pm (by repeat constructor)⟩
       | exact ⟨_, res1 rfl rfl, congrArg Value.bool (dec_t ⟨by omega, by omega, fun j hj => ha j (by omega)⟩).symm, H.pm (by repeat constructor)⟩
       | exact ⟨_, res1 rfl rfl, congrArg Value.bool (dec_f fun hh => by obtain ⟨h5, h6, _⟩ := hh; omega).symm, H.pm (by repeat constructor)⟩
    have g39p := oT g39
    refine wM ?_
    refine wO g39 ?_
    refine wV (v_leq rfl rfl) ?_
    refine wO g32 ?_
    refine wV (v_pick_t rfl g39 rfl) ?_
    refine wV (v_pick_f rfl g32 rfl) ?_
    refine wl_nil ?_
    refine wc_cond rfl (fun c1 => ?_) (fun c1 => ?_)
    ·have c1p := oT c1
     refine wc_exit ?_
     refine wc_region ?_
     refine wM ?_
     refine wV (v_addi rfl rfl (by omega)) ?_
     refine wA ?_
     refine wl_nil ?_
     exact ⟨i + 1, (sc rfl (sc rfl (sn _))), ⟨by omega, upto_succ ha (by unfold chOk; omega), H.pm (by repeat constructor)⟩, by omega⟩
    have c1p := oF c1
    refine wc_skip ?_
    refine wcR ?_
    refine wA ?_
    refine wl_nil ?_
    refine wc_ret ?_
    first
      | exact ⟨_, res1 rfl rfl, congrArg Value.bool (dec_eq ⟨fun hd => ⟨by omega, by have := of_decide_eq_true hd; omega, fun j hj => ha j (by omega)⟩, fun hh => decide_eq_true (by obtain ⟨h5, h6, _⟩ := hh; omega)⟩), H.pm (by repeat constructor)⟩
      | exact ⟨_, res1 rfl rfl, congrArg Value.bool (dec_f fun hh => by have h5 := hh.2.2 i (by omega); unfold chOk at h5; omega).symm, H.pm (by repeat constructor)⟩
      | exact ⟨_, res1 rfl rfl, congrArg Value.bool (dec_t ⟨by omega, by omega, fun j hj => ha j (by omega)⟩).symm, H.pm (by repeat constructor)⟩
      | exact ⟨_, res1 rfl rfl, congrArg Value.bool (dec_f fun hh => by obtain ⟨h5, h6, _⟩ := hh; omega).symm, H.pm (by repeat constructor)⟩
   have g23p := oT g23
   refine wM ?_
   refine wO g23 ?_
   refine wV (v_leq rfl rfl) ?_
   refine wO rfl ?_
   refine wV (v_pick_t rfl g23 rfl) ?_
   refine wV (v_pick_f rfl rfl rfl) ?_
   refine wM ?_
   refine wl_guard rfl rfl rfl (fun g28 => ?_) (fun g28 => ?_)
   rotate_left
   ·have g28p := oT g28
    refine wF g28 ?_
    refine wV (v_pick_t rfl g28 rfl) ?_
    refine wM ?_
    refine wF rfl ?_
    refine wF rfl ?_
    refine wF rfl ?_
    refine wl_offu rfl rfl rfl ?_
    refine wl_offu rfl rfl rfl ?_
    refine wF rfl ?_
    refine wF rfl ?_
    refine wl_offu rfl rfl rfl ?_
    refine wl_offu rfl rfl rfl ?_
    refine wF rfl ?_
    refine wV (v_pick_t rfl rfl rfl) ?_
    refine wl_nil ?_
    refine wc_cond_t rfl ?_
    refine wc_exit ?_
    refine wc_region ?_
    refine wM ?_
    refine wV (v_addi rfl rfl (by omega)) ?_
    refine wA ?_
    refine wl_nil ?_
    exact ⟨i + 1, (sc rfl (sc rfl (sn _))), ⟨by omega, upto_succ ha (by unfold chOk; omega), H.pm (by repeat constructor)⟩, by omega⟩
   have g28p := oF g28
   refine wM ?_
   refine wO g28 ?_
   refine wV (v_eql rfl rfl) ?_
   refine wV (v_pick_f rfl g28 rfl) ?_
   refine wM ?_
   refine wl_guard rfl rfl rfl (fun g32 => ?_) (fun g32 => ?_)
   rotate_left
   ·have g32p := oT g32
    refine wF g32 ?_
    refine wF g32 ?_
    refine wl_offu rfl rfl rfl ?_
    refine wl_offu rfl rfl rfl ?_
    refine wF g32 ?_
    refine wF g32 ?_
    refine wl_offu rfl rfl rfl ?_
    refine wl_offu rfl rfl rfl ?_
    refine wF g32 ?_
    refine wV (v_pick_t rfl g32 rfl) ?_
    refine wl_nil ?_
    refine wc_cond_t rfl ?_
    refine wc_exit ?_
    refine wc_region ?_
    refine wM ?_
    refine wV (v_addi rfl rfl (by omega)) ?_
    refine wA ?_
    refine wl_nil ?_
    exact ⟨i + 1, (sc rfl (sc rfl (sn _))), ⟨by omega, upto_succ ha (by unfold chOk; omega), H.pm (by repeat constructor)⟩, by omega⟩
   have g32p := oF g32
   refine wM ?_
   refine wO g32 ?_
   refine wV (v_gtr rfl rfl) ?_
   refine wO g32 ?_
   refine wM ?_
   refine wl_guard rfl rfl rfl (fun g35 => ?_) (fun g35 => ?_)
   rotate_left
   ·have g35p := oF g35
    refine wF g35 ?_
    refine wO g32 ?_
    refine wV (v_pick_f rfl g35 rfl) ?_
    refine wO g32 ?_
    refine wM ?_
    refine wF rfl ?_
    refine wF rfl ?_
    refine wO g32 ?_
    refine wV (v_pick_f rfl rfl rfl) ?_
    refine wV (v_pick_f rfl g32 rfl) ?_
    refine wl_nil ?_
    refine wc_cond_f rfl ?_
    refine wc_skip ?_
    refine wcR ?_
    refine wA ?_
    refine wl_nil ?_
    refine wc_ret ?_
    first
      | exact ⟨_, res1 rfl rfl, congrArg Value.bool (dec_eq ⟨fun hd => ⟨by omega, by have := of_decide_eq_true hd; omega, fun j hj => ha j (by omega)⟩, fun hh => decide_eq_true (by obtain ⟨h5, h6, _⟩ := hh; omega)⟩), H.pm (by repeat constructor)⟩
      | exact ⟨_, res1 rfl rfl, congrArg Value.bool (dec_f fun hh => by have h5 := hh.2.2 i (by omega); unfold chOk at h5; omega).symm, H.pm (by repeat constructor)⟩
      | exact ⟨_, res1 rfl rfl, congrArg Value.bool (dec_t ⟨by omega, by omega, fun j hj => ha j (by omega)⟩).symm, H.pm (by repeat constructor)⟩
      | exact ⟨_, res1 rfl rfl, congrArg Value.bool (dec_f fun hh => by obtain ⟨h5, h6, _⟩ := hh; omega).symm, H.pm (by repeat constructor)⟩
   have g35p := oT g35
   refine wM ?_
   refine wO g35 ?_
   refine wV (v_geq rfl rfl) ?_
   refine wO g32 ?_
   refine wV (v_pick_t rfl g35 rfl) ?_
   refine wO g32 ?_
   refine wM ?_
   refine wl_guard rfl rfl rfl (fun g39 => ?_) (fun g39 => ?_)
   rotate_left
   ·have g39p := oF g39
    refine wF g39 ?_
    refine wO g32 ?_
    refine wV (v_pick_f rfl g39 rfl) ?_
    refine wV (v_pick_f rfl g32 rfl) ?_
    refine wl_nil ?_
    refine wc_cond_f rfl ?_
    refine wc_skip ?_
    refine wcR ?_
    refine wA ?_
    refine wl_nil ?_
    refine wc_ret ?_
    first
      | exact ⟨_, res1 rfl rfl, congrArg Value.bool (dec_eq ⟨fun hd => ⟨by omega, by have := of_decide_eq_true hd; omega, fun j hj => ha j (by omega)⟩, fun hh => decide_eq_true (by obtain ⟨h5, h6, _⟩ := hh; omega)⟩), H.pm (by repeat constructor)⟩
      | exact ⟨_, res1 rfl rfl, congrArg Value.bool (dec_f fun hh => by have h5 := hh.2.2 i (by omega); unfold chOk at h5; omega).symm, H.pm (by repeat constructor)⟩
      | exact ⟨_, res1 rfl rfl, congrArg Value.bool (dec_t ⟨by omega, by omega, fun j hj => ha j (by omega)⟩).symm, H.pm (by repeat constructor)⟩
      | exact ⟨_, res1 rfl rfl, congrArg Value.bool (dec_f fun hh => by obtain ⟨h5, h6, _⟩ := hh; omega).symm, H.pm (by repeat constructor)⟩
   have g39p := oT g39
   refine wM ?_
   refine wO g39 ?_
   refine wV (v_leq rfl rfl) ?_
   refine wO g32 ?_
   refine wV (v_pick_t rfl g39 rfl) ?_
   refine wV (v_pick_f rfl g32 rfl) ?_
   refine wl_nil ?_
   refine wc_cond rfl (fun c1 => ?_) (fun c1 => ?_)
   ·have c1p := oT c1
    refine wc_exit ?_
    refine wc_region ?_
    refine wM ?_
    refine wV (v_addi rfl rfl (by omega)) ?_
    refine wA ?_
    refine wl_nil ?_
    exact ⟨i + 1, (sc rfl (sc rfl (sn _))), ⟨by omega, upto_succ ha (by unfold chOk; omega), H.pm (by repeat constructor)⟩, by omega⟩
   have c1p := oF c1
   refine wc_skip ?_
   refine wcR ?_
   refine wA ?_
   refine wl_nil ?_
   refine wc_ret ?_
   first
     | exact ⟨_, res1 rfl rfl, congrArg Value.bool (dec_eq ⟨fun hd => ⟨by omega, by have := of_decide_eq_true hd; omega, fun j hj => ha j (by omega)⟩, fun hh => decide_eq_true (by obtain ⟨h5, h6, _⟩ := hh; omega)⟩), H.pm (by repeat constructor)⟩
     | exact ⟨_, res1 rfl rfl, congrArg Value.bool (dec_f fun hh => by have h5 := hh.2.2 i (by omega); unfold chOk at h5; omega).symm, H.pm (by repeat constructor)⟩
     | exact ⟨_, res1 rfl rfl, congrArg Value.bool (dec_t ⟨by omega, by omega, fun j hj => ha j (by omega)⟩).symm, H.pm (by repeat constructor)⟩
     | exact ⟨_, res1 rfl rfl, congrArg Value.bool (dec_f fun hh => by obtain ⟨h5, h6, _⟩ := hh; omega).symm, H.pm (by repeat constructor)⟩
  have g16p := oT g16
  refine wM ?_
  refine wO g16 ?_
  refine wV (v_leq rfl rfl) ?_
  refine wV (v_pick_t rfl g16 rfl) ?_
  refine wM ?_
  refine wl_guard rfl rfl rfl (fun g20 => ?_) (fun g20 => ?_)
  rotate_left
  ·have g20p := oT g20
   refine wF g20 ?_
   refine wF g20 ?_
   refine wl_offu rfl rfl rfl ?_
   refine wl_offu rfl rfl rfl ?_
   refine wF g20 ?_
   refine wV (v_pick_t rfl g20 rfl) ?_
   refine wM ?_
   refine wF rfl ?_
   refine wF rfl ?_
   refine wV (v_pick_t rfl rfl rfl) ?_
   refine wM ?_
   refine wF rfl ?_
   refine wF rfl ?_
   refine wF rfl ?_
   refine wl_offu rfl rfl rfl ?_
   refine wl_offu rfl rfl rfl ?_
   refine wF rfl ?_
   refine wF rfl ?_
   refine wl_offu rfl rfl rfl ?_
   refine wl_offu rfl rfl rfl ?_
   refine wF rfl ?_
   refine wV (v_pick_t rfl rfl rfl) ?_
   refine wl_nil ?_
   refine wc_cond_t rfl ?_
   refine wc_exit ?_
   refine wc_region ?_
   refine wM ?_
   refine wV (v_addi rfl rfl (by omega)) ?_
   refine wA ?_
   refine wl_nil ?_
   exact ⟨i + 1, (sc rfl (sc rfl (sn _))), ⟨by omega, upto_succ ha (by unfold chOk; omega), H.pm (by repeat constructor)⟩, by omega⟩
  have g20p := oF g20
  refine wM ?_
  refine wO g20 ?_
  refine wV (v_geq rfl rfl) ?_
  refine wO g20 ?_
  refine wM ?_
  refine wl_guard rfl rfl rfl (fun g23 => ?_) (fun g23 => ?_)
  rotate_left
  ·have g23p := oF g23
   refine wF g23 ?_
   refine wO g20 ?_
   refine wV (v_pick_f rfl g23 rfl) ?_
   refine wV (v_pick_f rfl g20 rfl) ?_
   refine wM ?_
   refine wO rfl ?_
   refine wM ?_
   refine wO rfl ?_
   refine wV (v_eql rfl rfl) ?_
   refine wV (v_pick_f rfl rfl rfl) ?_
   refine wM ?_
   refine wl_guard rfl rfl rfl (fun g32 => ?_) (fun g32 => ?_)
   rotate_left
   ·have g32p := oT g32
    refine wF g32 ?_
    refine wF g32 ?_
    refine wl_offu rfl rfl rfl ?_
    refine wl_offu rfl rfl rfl ?_
    refine wF g32 ?_
    refine wF g32 ?_
    refine wl_offu rfl rfl rfl ?_
    refine wl_offu rfl rfl rfl ?_
    refine wF g32 ?_
    refine wV (v_pick_t rfl g32 rfl) ?_
    refine wl_nil ?_
    refine wc_cond_t rfl ?_
    refine wc_exit ?_
    refine wc_region ?_
    refine wM ?_
    refine wV (v_addi rfl rfl (by omega)) ?_
    refine wA ?_
    refine wl_nil ?_
    exact ⟨i + 1, (sc rfl (sc rfl (sn _))), ⟨by omega, upto_succ ha (by unfold chOk; omega), H.pm (by repeat constructor)⟩, by omega⟩
   have g32p := oF g32
   refine wM ?_
   refine wO g32 ?_
   refine wV (v_gtr rfl rfl) ?_
   refine wO g32 ?_
   refine wM ?_
   refine wl_guard rfl rfl rfl (fun g35 => ?_) (fun g35 => ?_)
   rotate_left
   ·have g35p := oF g35
    refine wF g35 ?_
    refine wO g32 ?_
    refine wV (v_pick_f rfl g35 rfl) ?_
    refine wO g32 ?_
    refine wM ?_
    refine wF rfl ?_
    refine wF rfl ?_
    refine wO g32 ?_
    refine wV (v_pick_f rfl rfl rfl) ?_
    refine wV (v_pick_f rfl g32 rfl) ?_
    refine wl_nil ?_
    refine wc_cond_f rfl ?_
    refine wc_skip ?_
    refine wcR ?_
    refine wA ?_
    refine wl_nil ?_
    refine wc_ret ?_
    first
      | exact ⟨_, res1 rfl rfl, congrArg Value.bool (dec_eq ⟨fun hd => ⟨by omega, by have := of_decide_eq_true hd; omega, fun j hj => ha j (by omega)⟩, fun hh => decide_eq_true (by obtain ⟨h5, h6, _⟩ := hh; omega)⟩), H.pm (by repeat constructor)⟩
      | exact ⟨_, res1 rfl rfl, congrArg Value.bool (dec_f fun hh => by have h5 := hh.2.2 i (by omega); unfold chOk at h5; omega).symm, H.pm (by repeat constructor)⟩
      | exact ⟨_, res1 rfl rfl, congrArg Value.bool (dec_t ⟨by omega, by omega, fun j hj => ha j (by omega)⟩).symm, H.pm (by repeat constructor)⟩
      | exact ⟨_, res1 rfl rfl, congrArg Value.bool (dec_f fun hh => by obtain ⟨h5, h6, _⟩ := hh; omega).symm, H.pm (by repeat constructor)⟩
   have g35p := oT g35
   refine wM ?_
   refine wO g35 ?_
   refine wV (v_geq rfl rfl) ?_
   refine wO g32 ?_
   refine wV (v_pick_t rfl g35 rfl) ?_
   refine wO g32 ?_
   refine wM ?_
   refine wl_guard rfl rfl rfl (fun g39 => ?_) (fun g39 => ?_)
   rotate_left
   ·have g39p := oF g39
    refine wF g39 ?_
    refine wO g32 ?_
    refine wV (v_pick_f rfl g39 rfl) ?_
    refine wV (v_pick_f rfl g32 rfl) ?_
    refine wl_nil ?_
    refine wc_cond_f rfl ?_
    refine wc_skip ?_
    refine wcR ?_
    refine wA ?_
    refine wl_nil ?_
    refine wc_ret ?_
    first
      | exact ⟨_, res1 rfl rfl, congrArg Value.bool (dec_eq ⟨fun hd => ⟨by omega, by have := of_decide_eq_true hd; omega, fun j hj => ha j (by omega)⟩, fun hh => decide_eq_true (by obtain ⟨h5, h6, _⟩ := hh; omega)⟩), H.pm (by repeat constructor)⟩
      | exact ⟨_, res1 rfl rfl, congrArg Value.bool (dec_f fun hh => by have h5 := hh.2.2 i (by omega); unfold chOk at h5; omega).symm, H.pm (by repeat constructor)⟩
      | exact ⟨_, res1 rfl rfl, congrArg Value.bool (dec_t ⟨by omega, by omega, fun j hj => ha j (by omega)⟩).symm, H.pm (by repeat constructor)⟩
      | exact ⟨_, res1 rfl rfl, congrArg Value.bool (dec_f fun hh => by obtain ⟨h5, h6, _⟩ := hh; omega).symm, H.pm (by repeat constructor)⟩
   have g39p := oT g39
   refine wM ?_
   refine wO g39 ?_
   refine wV (v_leq rfl rfl) ?_
   refine wO g32 ?_
   refine wV (v_pick_t rfl g39 rfl) ?_
   refine wV (v_pick_f rfl g32 rfl) ?_
   refine wl_nil ?_
   refine wc_cond rfl (fun c1 => ?_) (fun c1 => ?_)
   ·have c1p := oT c1
    refine wc_exit ?_
    refine wc_region ?_
    refine wM ?_
    refine wV (v_addi rfl rfl (by omega)) ?_
    refine wA ?_
    refine wl_nil ?_
    exact ⟨i + 1, (sc rfl (sc rfl (sn _))), ⟨by omega, upto_succ ha (by unfold chOk; omega), H.pm (by repeat constructor)⟩, by omega⟩
   have c1p := oF c1
   refine wc_skip ?_
   refine wcR ?_
   refine wA ?_
   refine wl_nil ?_
   refine wc_ret ?_
   first
     | exact ⟨_, res1 rfl rfl, congrArg Value.bool (dec_eq ⟨fun hd => ⟨by omega, by have := of_decide_eq_true hd; omega, fun j hj => ha j (by omega)⟩, fun hh => decide_eq_true (by obtain ⟨h5, h6, _⟩ := hh; omega)⟩), H.pm (by repeat constructor)⟩
     | exact ⟨_, res1 rfl rfl, congrArg Value.bool (dec_f fun hh => by have h5 := hh.2.2 i (by omega); unfold chOk at h5; omega).symm, H.pm (by repeat constructor)⟩
     | exact ⟨_, res1 rfl rfl, congrArg Value.bool (dec_t ⟨by omega, by omega, fun j hj => ha j (by omega)⟩).symm, H.pm (by repeat constructor)⟩
     | exact ⟨_, res1 rfl rfl, congrArg Value.bool (dec_f fun hh => by obtain ⟨h5, h6, _⟩ := hh; omega).symm, H.pm (by repeat constructor)⟩
  have g23p := oT g23
  refine wM ?_
  refine wO g23 ?_
  refine wV (v_leq rfl rfl) ?_
  refine wO g20 ?_
  refine wV (v_pick_t rfl g23 rfl) ?_
  refine wV (v_pick_f rfl g20 rfl) ?_
  refine wM ?_
  refine wl_guard rfl rfl rfl (fun g28 => ?_) (fun g28 => ?_)
  rotate_left
  ·have g28p := oT g28
   refine wF g28 ?_
   refine wV (v_pick_t rfl g28 rfl) ?_
   refine wM ?_
   refine wF rfl ?_
   refine wF rfl ?_
   refine wF rfl ?_
   refine wl_offu rfl rfl rfl ?_
   refine wl_offu rfl rfl rfl ?_
   refine wF rfl ?_
   refine wF rfl ?_
   refine wl_offu rfl rfl rfl ?_
   refine wl_offu rfl rfl rfl ?_
   refine wF rfl ?_
   refine wV (v_pick_t rfl rfl rfl) ?_
   refine wl_nil ?_
   refine wc_cond_t rfl ?_
   refine wc_exit ?_
   refine wc_region ?_
   refine wM ?_
   refine wV (v_addi rfl rfl (by omega)) ?_
   refine wA ?_
   refine wl_nil ?_
   exact ⟨i + 1, (sc rfl (sc rfl (sn _))), ⟨by omega, upto_succ ha (by unfold chOk; omega), H.pm (by repeat constructor)⟩, by omega⟩
  have g28p := oF g28
  refine wM ?_
  refine wO g28 ?_
  refine wV (v_eql rfl rfl) ?_
  refine wV (v_pick_f rfl g28 rfl) ?_
  refine wM ?_
  refine wl_guard rfl rfl rfl (fun g32 => ?_) (fun g32 => ?_)
  rotate_left
  ·have g32p := oT g32
   refine wF g32 ?_
   refine wF g32 ?_
   refine wl_offu rfl rfl rfl ?_
   refine wl_offu rfl rfl rfl ?_
   refine wF g32 ?_
   refine wF g32 ?_
   refine wl_offu rfl rfl rfl ?_
   refine wl_offu rfl rfl rfl ?_
   refine wF g32 ?_
   refine wV (v_pick_t rfl g32 rfl) ?_
   refine wl_nil ?_
   refine wc_cond_t rfl ?_
   refine wc_exit ?_
   refine wc_region ?_
   refine wM ?_
   refine wV (v_addi rfl rfl (by omega)) ?_
   refine wA ?_
   refine wl_nil ?_
   exact ⟨i + 1, (sc rfl (sc rfl (sn _))), ⟨by omega, upto_succ ha (by unfold chOk; omega), H.pm (by repeat constructor)⟩, by omega⟩
  have g32p := oF g32
  refine wM ?_
  refine wO g32 ?_
  refine wV (v_gtr rfl rfl) ?_
  refine wO g32 ?_
  refine wM ?_
  refine wl_guard rfl rfl rfl (fun g35 => ?_) (fun g35 => ?_)
  rotate_left
  ·have g35p := oF g35
   refine wF g35 ?_
   refine wO g32 ?_
   refine wV (v_pick_f rfl g35 rfl) ?_
   refine wO g32 ?_
   refine wM ?_
   refine wF rfl ?_
   refine wF rfl ?_
   refine wO g32 ?_
   refine wV (v_pick_f rfl rfl rfl) ?_
   refine wV (v_pick_f rfl g32 rfl) ?_
   refine wl_nil ?_
   refine wc_cond_f rfl ?_
   refine wc_skip ?_
   refine wcR ?_
   refine wA ?_
   refine wl_nil ?_
   refine wc_ret ?_
   first
     | exact ⟨_, res1 rfl rfl, congrArg Value.bool (dec_eq ⟨fun hd => ⟨by omega, by have := of_decide_eq_true hd; omega, fun j hj => ha j (by omega)⟩, fun hh => decide_eq_true (by obtain ⟨h5, h6, _⟩ := hh; omega)⟩), H.pm (by repeat constructor)⟩
     | exact ⟨_, res1 rfl rfl, congrArg Value.bool (dec_f fun hh => by have h5 := hh.2.2 i (by omega); unfold chOk at h5; omega).symm, H.pm (by repeat constructor)⟩
     | exact ⟨_, res1 rfl rfl, congrArg Value.bool (dec_t ⟨by omega, by omega, fun j hj => ha j (by omega)⟩).symm, H.pm (by repeat constructor)⟩
     | exact ⟨_, res1 rfl rfl, congrArg Value.bool (dec_f fun hh => by obtain ⟨h5, h6, _⟩ := hh; omega).symm, H.pm (by repeat constructor)⟩
  have g35p := oT g35
  refine wM ?_
  refine wO g35 ?_
  refine wV (v_geq rfl rfl) ?_
  refine wO g32 ?_
  refine wV (v_pick_t rfl g35 rfl) ?_
  refine wO g32 ?_
  refine wM ?_
  refine wl_guard rfl rfl rfl (fun g39 => ?_) (fun g39 => ?_)
  rotate_left
  ·have g39p := oF g39
   refine wF g39 ?_
   refine wO g32 ?_
   refine wV (v_pick_f rfl g39 rfl) ?_
   refine wV (v_pick_f rfl g32 rfl) ?_
   refine wl_nil ?_
   refine wc_cond_f rfl ?_
   refine wc_skip ?_
   refine wcR ?_
   refine wA ?_
   refine wl_nil ?_
   refine wc_ret ?_
   first
     | exact ⟨_, res1 rfl rfl, congrArg Value.bool (dec_eq ⟨fun hd => ⟨by omega, by have := of_decide_eq_true hd; omega, fun j hj => ha j (by omega)⟩, fun hh => decide_eq_true (by obtain ⟨h5, h6, _⟩ := hh; omega)⟩), H.pm (by repeat constructor)⟩
     | exact ⟨_, res1 rfl rfl, congrArg Value.bool (dec_f fun hh => by have h5 := hh.2.2 i (by omega); unfold chOk at h5; omega).symm, H.pm (by repeat constructor)⟩
     | exact ⟨_, res1 rfl rfl, congrArg Value.bool (dec_t ⟨by omega, by omega, fun j hj => ha j (by omega)⟩).symm, H.pm (by repeat constructor)⟩
     | exact ⟨_, res1 rfl rfl, congrArg Value.bool (dec_f fun hh => by obtain ⟨h5, h6, _⟩ := hh; omega).symm, H.pm (by repeat constructor)⟩
  have g39p := oT g39
  refine wM ?_
  refine wO g39 ?_
  refine wV (v_leq rfl rfl) ?_
  refine wO g32 ?_
  refine wV (v_pick_t rfl g39 rfl) ?_
  refine wV (v_pick_f rfl g32 rfl) ?_
  refine wl_nil ?_
  refine wc_cond rfl (fun c1 => ?_) (fun c1 => ?_)
  ·have c1p := oT c1
   refine wc_exit ?_
   refine wc_region ?_
   refine wM ?_
   refine wV (v_addi rfl rfl (by omega)) ?_
   refine wA ?_
   refine wl_nil ?_
   exact ⟨i + 1, (sc rfl (sc rfl (sn _))), ⟨by omega, upto_succ ha (by unfold chOk; omega), H.pm (by repeat constructor)⟩, by omega⟩
  have c1p := oF c1
  refine wc_skip ?_
  refine wcR ?_
  refine wA ?_
  refine wl_nil ?_
  refine wc_ret ?_
  first
    | exact ⟨_, res1 rfl rfl, congrArg Value.bool (dec_eq ⟨fun hd => ⟨by omega, by have := of_decide_eq_true hd; omega, fun j hj => ha j (by omega)⟩, fun hh => decide_eq_true (by obtain ⟨h5, h6, _⟩ := hh; omega)⟩), H.pm (by repeat constructor)⟩
    | exact ⟨_, res1 rfl rfl, congrArg Value.bool (dec_f fun hh => by have h5 := hh.2.2 i (by omega); unfold chOk at h5; omega).symm, H.pm (by repeat constructor)⟩
    | exact ⟨_, res1 rfl rfl, congrArg Value.bool (dec_t ⟨by omega, by omega, fun j hj => ha j (by omega)⟩).symm, H.pm (by repeat constructor)⟩
    | exact ⟨_, res1 rfl rfl, congrArg Value.bool (dec_f fun hh => by obtain ⟨h5, h6, _⟩ := hh; omega).symm, H.pm (by repeat constructor)⟩

set_option maxHeartbeats 1600000 in
set_option maxRecDepth 100000 in
theorem word_calls {s : ByteArray} {w : World} (hs : s.size ≤ 1099511627776) : Calls Try.prog 55 #[.string s] w fun e w' => ∃ v, e = .returned v ∧ v = .bool (dec (NameOk 32 s)) ∧ Holds w [] w' := by
  refine calls_of Try.func55 rfl Try.ntmps55 rfl ?_
  have H := Holds.start w
  refine wcR ?_
  refine wA ?_
  refine wl_nil ?_
  refine wc_seq ?_
  refine wcR ?_
  refine wA ?_
  refine wl_nil ?_
  refine wc_block ?_
  refine wc_loop (σ := Nat) (fun q => [(0, .string s), (3, .int .i64 q)]) (fun q W => q ≤ s.size ∧ (∀ j, j < q → chOk j (byt s j)) ∧ Holds w [] W) (fun q => s.size - q) 0 (sc rfl (sc rfl (sn _))) ⟨Nat.zero_le _, upto_zero, H⟩ ?_
  rintro i W0 ⟨hi, ha, H⟩
  refine wc_seq ?_
  refine wcR ?_
  refine wM ?_
  refine wM ?_
  refine wV (v_lens Try.underlying9 rfl) ?_
  refine wV (v_lss rfl rfl) ?_
  refine wl_nil ?_
  refine wc_cond rfl (fun c0 => ?_) (fun c0 => ?_)
  rotate_left
  ·have c0p := oF c0
   refine wc_exit ?_
   refine wcR ?_
   refine wM ?_
   refine wV (v_lens Try.underlying9 rfl) ?_
   refine wV (v_geq rfl rfl) ?_
   refine wM ?_
   refine wl_guard rfl rfl rfl (fun g47 => ?_) (fun g47 => ?_)
   rotate_left
   ·have g47p := oF g47
    refine wF g47 ?_
    refine wF g47 ?_
    refine wV (v_pick_f rfl g47 rfl) ?_
    refine wA ?_
    refine wl_nil ?_
    refine wc_ret ?_
    first
      | exact ⟨_, res1 rfl rfl, congrArg Value.bool (dec_eq ⟨fun hd => ⟨by omega, by have := of_decide_eq_true hd; omega, fun j hj => ha j (by omega)⟩, fun hh => decide_eq_true (by obtain ⟨h5, h6, _⟩ := hh; omega)⟩), H.pm (by repeat constructor)⟩
      | exact ⟨_, res1 rfl rfl, congrArg Value.bool (dec_f fun hh => by have h5 := hh.2.2 i (by omega); unfold chOk at h5; omega).symm, H.pm (by repeat constructor)⟩
      | exact ⟨_, res1 rfl rfl, congrArg Value.bool (dec_t ⟨by omega, by omega, fun j hj => ha j (by omega)⟩).symm, H.pm (by repeat constructor)⟩
      | exact ⟨_, res1 rfl rfl, congrArg Value.bool (dec_f fun hh => by obtain ⟨h5, h6, _⟩ := hh; omega).symm, H.pm (by repeat constructor)⟩
   have g47p := oT g47
   refine wM ?_
   refine wO g47 ?_
   refine wV (v_lens Try.underlying9 rfl) ?_
   refine wO g47 ?_
   refine wV (v_leq rfl rfl) ?_
   refine wV (v_pick_t rfl g47 rfl) ?_
   refine wA ?_
   refine wl_nil ?_
   refine wc_ret ?_
   first
     | exact ⟨_, res1 rfl rfl, congrArg Value.bool (dec_eq ⟨fun hd => ⟨by omega, by have := of_decide_eq_true hd; omega, fun j hj => ha j (by omega)⟩, fun hh => decide_eq_true (by obtain ⟨h5, h6, _⟩ := hh; omega)⟩), H.pm (by repeat constructor)⟩
     | exact ⟨_, res1 rfl rfl, congrArg Value.bool (dec_f fun hh => by have h5 := hh.2.2 i (by omega); unfold chOk at h5; omega).symm, H.pm (by repeat constructor)⟩
     | exact ⟨_, res1 rfl rfl, congrArg Value.bool (dec_t ⟨by omega, by omega, fun j hj => ha j (by omega)⟩).symm, H.pm (by repeat constructor)⟩
     | exact ⟨_, res1 rfl rfl, congrArg Value.bool (dec_f fun hh => by obtain ⟨h5, h6, _⟩ := hh; omega).symm, H.pm (by repeat constructor)⟩
  have c0p := oT c0
  refine wc_skip ?_
  refine wc_seq ?_
  refine wc_block ?_
  refine wcR ?_
  refine wM ?_
  refine wM ?_
  refine wV (v_idxs (i := i) (s := s) Try.underlying9 rfl rfl (by omega)) ?_
  refine wA ?_
  refine wl_nil ?_
  refine wc_seq ?_
  refine wcR ?_
  refine wM ?_
  refine wV (v_geq rfl rfl) ?_
  refine wM ?_
  refine wl_guard rfl rfl rfl (fun g16 => ?_) (fun g16 => ?_)
  rotate_left
  ·have g16p := oF g16
   refine wF g16 ?_
   refine wV (v_pick_f rfl g16 rfl) ?_
   refine wM ?_
   refine wO rfl ?_
   refine wM ?_
   refine wO rfl ?_
   refine wV (v_geq rfl rfl) ?_
   refine wO rfl ?_
   refine wM ?_
   refine wl_guard rfl rfl rfl (fun g23 => ?_) (fun g23 => ?_)
   rotate_left
   ·have g23p := oF g23
    refine wF g23 ?_
    refine wO rfl ?_
    refine wV (v_pick_f rfl g23 rfl) ?_
    refine wV (v_pick_f rfl rfl rfl) ?_
    refine wM ?_
    refine wO rfl ?_
    refine wM ?_
    refine wO rfl ?_
    refine wV (v_eql rfl rfl) ?_
    refine wV (v_pick_f rfl rfl rfl) ?_
    refine wM ?_
    refine wl_guard rfl rfl rfl (fun g32 => ?_) (fun g32 => ?_)
    rotate_left
    ·have g32p := oT g32
     refine wF g32 ?_
     refine wF g32 ?_
     refine wl_offu rfl rfl rfl ?_
     refine wl_offu rfl rfl rfl ?_
     refine wF g32 ?_
     refine wF g32 ?_
     refine wl_offu rfl rfl rfl ?_
     refine wl_offu rfl rfl rfl ?_
     refine wF g32 ?_
     refine wV (v_pick_t rfl g32 rfl) ?_
     refine wl_nil ?_
     refine wc_cond_t rfl ?_
     refine wc_exit ?_
     refine wc_region ?_
     refine wM ?_
     refine wV (v_addi rfl rfl (by omega)) ?_
     refine wA ?_
     refine wl_nil ?_
     exact ⟨i + 1, (sc rfl (sc rfl (sn _))), ⟨by omega, upto_succ ha (by unfold chOk; omega), H.pm (by repeat constructor)⟩, by omega⟩
    have g32p := oF g32
    refine wM ?_
    refine wO g32 ?_
    refine wV (v_gtr rfl rfl) ?_
    refine wO g32 ?_
    refine wM ?_
    refine wl_guard rfl rfl rfl (fun g35 => ?_) (fun g35 => ?_)
    rotate_left
    ·have g35p := oF g35
     refine wF g35 ?_
     refine wO g32 ?_
     refine wV (v_pick_f rfl g35 rfl) ?_
     refine wO g32 ?_
     refine wM ?_
     refine wF rfl ?_
     refine wF rfl ?_
     refine wO g32 ?_
     refine wV (v_pick_f rfl rfl rfl) ?_
     refine wV (v_pick_f rfl g32 rfl) ?_
     refine wl_nil ?_
     refine wc_cond_f rfl ?_
     refine wc_skip ?_
     refine wcR ?_
     refine wA ?_
     refine wl_nil ?_
     refine wc_ret ?_
     first
       | exact ⟨_, res1 rfl rfl, congrArg Value.bool (dec_eq ⟨fun hd => ⟨by omega, by have := of_decide_eq_true hd; omega, fun j hj => ha j (by omega)⟩, fun hh => decide_eq_true (by obtain ⟨h5, h6, _⟩ := hh; omega)⟩), H.pm (by repeat constructor)⟩
       | exact ⟨_, res1 rfl rfl, congrArg Value.bool (dec_f fun hh => by have h5 := hh.2.2 i (by omega); unfold chOk at h5; omega).symm, H.pm (by repeat constructor)⟩
       | exact ⟨_, res1 rfl rfl, congrArg Value.bool (dec_t ⟨by omega, by omega, fun j hj => ha j (by omega)⟩).symm, H.pm (by repeat constructor)⟩
       | exact ⟨_, res1 rfl rfl, congrArg Value.bool (dec_f fun hh => by obtain ⟨h5, h6, _⟩ := hh; omega).symm, H.pm (by repeat constructor)⟩
    have g35p := oT g35
    refine wM ?_
    refine wO g35 ?_
    refine wV (v_geq rfl rfl) ?_
    refine wO g32 ?_
    refine wV (v_pick_t rfl g35 rfl) ?_
    refine wO g32 ?_
    refine wM ?_
    refine wl_guard rfl rfl rfl (fun g39 => ?_) (fun g39 => ?_)
    rotate_left
    ·have g39p := oF g39
     refine wF g39 ?_
     refine wO g32 ?_
     refine wV (v_pick_f rfl g39 rfl) ?_
     refine wV (v_pick_f rfl g32 rfl) ?_
     refine wl_nil ?_
     refine wc_cond_f rfl ?_
     refine wc_skip ?_
     refine wcR ?_
     refine wA ?_
     refine wl_nil ?_
     refine wc_ret ?_
     first
       | exact ⟨_, res1 rfl rfl, congrArg Value.bool (dec_eq ⟨fun hd => ⟨by omega, by have := of_decide_eq_true hd; omega, fun j hj => ha j (by omega)⟩, fun hh => decide_eq_true (by obtain ⟨h5, h6, _⟩ := hh; omega)⟩), H.pm (by repeat constructor)⟩
       | exact ⟨_, res1 rfl rfl, congrArg Value.bool (dec_f fun hh => by have h5 := hh.2.2 i (by omega); unfold chOk at h5; omega).symm, H.pm (by repeat constructor)⟩
       | exact ⟨_, res1 rfl rfl, congrArg Value.bool (dec_t ⟨by omega, by omega, fun j hj => ha j (by omega)⟩).symm, H.pm (by repeat constructor)⟩
       | exact ⟨_, res1 rfl rfl, congrArg Value.bool (dec_f fun hh => by obtain ⟨h5, h6, _⟩ := hh; omega).symm, H.pm (by repeat constructor)⟩
    have g39p := oT g39
    refine wM ?_
    refine wO g39 ?_
    refine wV (v_leq rfl rfl) ?_
    refine wO g32 ?_
    refine wV (v_pick_t rfl g39 rfl) ?_
    refine wV (v_pick_f rfl g32 rfl) ?_
    refine wl_nil ?_
    refine wc_cond rfl (fun c1 => ?_) (fun c1 => ?_)
    ·have c1p := oT c1
     refine wc_exit ?_
     refine wc_region ?_
     refine wM ?_
     refine wV (v_addi rfl rfl (by omega)) ?_
     refine wA ?_
     refine wl_nil ?_
     exact ⟨i + 1, (sc rfl (sc rfl (sn _))), ⟨by omega, upto_succ ha (by unfold chOk; omega), H.pm (by repeat constructor)⟩, by omega⟩
    have c1p := oF c1
    refine wc_skip ?_
    refine wcR ?_
    refine wA ?_
    refine wl_nil ?_
    refine wc_ret ?_
    first
      | exact ⟨_, res1 rfl rfl, congrArg Value.bool (dec_eq ⟨fun hd => ⟨by omega, by have := of_decide_eq_true hd; omega, fun j hj => ha j (by omega)⟩, fun hh => decide_eq_true (by obtain ⟨h5, h6, _⟩ := hh; omega)⟩), H.pm (by repeat constructor)⟩
      | exact ⟨_, res1 rfl rfl, congrArg Value.bool (dec_f fun hh => by have h5 := hh.2.2 i (by omega); unfold chOk at h5; omega).symm, H.pm (by repeat constructor)⟩
      | exact ⟨_, res1 rfl rfl, congrArg Value.bool (dec_t ⟨by omega, by omega, fun j hj => ha j (by omega)⟩).symm, H.pm (by repeat constructor)⟩
      | exact ⟨_, res1 rfl rfl, congrArg Value.bool (dec_f fun hh => by obtain ⟨h5, h6, _⟩ := hh; omega).symm, H.pm (by repeat constructor)⟩
   have g23p := oT g23
   refine wM ?_
   refine wO g23 ?_
   refine wV (v_leq rfl rfl) ?_
   refine wO rfl ?_
   refine wV (v_pick_t rfl g23 rfl) ?_
   refine wV (v_pick_f rfl rfl rfl) ?_
   refine wM ?_
   refine wl_guard rfl rfl rfl (fun g28 => ?_) (fun g28 => ?_)
   rotate_left
   ·have g28p := oT g28
    refine wF g28 ?_
    refine wV (v_pick_t rfl g28 rfl) ?_
    refine wM ?_
    refine wF rfl ?_
    refine wF rfl ?_
    refine wF rfl ?_
    refine wl_offu rfl rfl rfl ?_
    refine wl_offu rfl rfl rfl ?_
    refine wF rfl ?_
    refine wF rfl ?_
    refine wl_offu rfl rfl rfl ?_
    refine wl_offu rfl rfl rfl ?_
    refine wF rfl ?_
    refine wV (v_pick_t rfl rfl rfl) ?_
    refine wl_nil ?_
    refine wc_cond_t rfl ?_
    refine wc_exit ?_
    refine wc_region ?_
    refine wM ?_
    refine wV (v_addi rfl rfl (by omega)) ?_
    refine wA ?_
    refine wl_nil ?_
    exact ⟨i + 1, (sc rfl (sc rfl (sn _))), ⟨by omega, upto_succ ha (by unfold chOk; omega), H.pm (by repeat constructor)⟩, by omega⟩
   have g28p := oF g28
   refine wM ?_
   refine wO g28 ?_
   refine wV (v_eql rfl rfl) ?_
   refine wV (v_pick_f rfl g28 rfl) ?_
   refine wM ?_
   refine wl_guard rfl rfl rfl (fun g32 => ?_) (fun g32 => ?_)
   rotate_left
   ·have g32p := oT g32
    refine wF g32 ?_
    refine wF g32 ?_
    refine wl_offu rfl rfl rfl ?_
    refine wl_offu rfl rfl rfl ?_
    refine wF g32 ?_
    refine wF g32 ?_
    refine wl_offu rfl rfl rfl ?_
    refine wl_offu rfl rfl rfl ?_
    refine wF g32 ?_
    refine wV (v_pick_t rfl g32 rfl) ?_
    refine wl_nil ?_
    refine wc_cond_t rfl ?_
    refine wc_exit ?_
    refine wc_region ?_
    refine wM ?_
    refine wV (v_addi rfl rfl (by omega)) ?_
    refine wA ?_
    refine wl_nil ?_
    exact ⟨i + 1, (sc rfl (sc rfl (sn _))), ⟨by omega, upto_succ ha (by unfold chOk; omega), H.pm (by repeat constructor)⟩, by omega⟩
   have g32p := oF g32
   refine wM ?_
   refine wO g32 ?_
   refine wV (v_gtr rfl rfl) ?_
   refine wO g32 ?_
   refine wM ?_
   refine wl_guard rfl rfl rfl (fun g35 => ?_) (fun g35 => ?_)
   rotate_left
   ·have g35p := oF g35
    refine wF g35 ?_
    refine wO g32 ?_
    refine wV (v_pick_f rfl g35 rfl) ?_
    refine wO g32 ?_
    refine wM ?_
    refine wF rfl ?_
    refine wF rfl ?_
    refine wO g32 ?_
    refine wV (v_pick_f rfl rfl rfl) ?_
    refine wV (v_pick_f rfl g32 rfl) ?_
    refine wl_nil ?_
    refine wc_cond_f rfl ?_
    refine wc_skip ?_
    refine wcR ?_
    refine wA ?_
    refine wl_nil ?_
    refine wc_ret ?_
    first
      | exact ⟨_, res1 rfl rfl, congrArg Value.bool (dec_eq ⟨fun hd => ⟨by omega, by have := of_decide_eq_true hd; omega, fun j hj => ha j (by omega)⟩, fun hh => decide_eq_true (by obtain ⟨h5, h6, _⟩ := hh; omega)⟩), H.pm (by repeat constructor)⟩
      | exact ⟨_, res1 rfl rfl, congrArg Value.bool (dec_f fun hh => by have h5 := hh.2.2 i (by omega); unfold chOk at h5; omega).symm, H.pm (by repeat constructor)⟩
      | exact ⟨_, res1 rfl rfl, congrArg Value.bool (dec_t ⟨by omega, by omega, fun j hj => ha j (by omega)⟩).symm, H.pm (by repeat constructor)⟩
      | exact ⟨_, res1 rfl rfl, congrArg Value.bool (dec_f fun hh => by obtain ⟨h5, h6, _⟩ := hh; omega).symm, H.pm (by repeat constructor)⟩
   have g35p := oT g35
   refine wM ?_
   refine wO g35 ?_
   refine wV (v_geq rfl rfl) ?_
   refine wO g32 ?_
   refine wV (v_pick_t rfl g35 rfl) ?_
   refine wO g32 ?_
   refine wM ?_
   refine wl_guard rfl rfl rfl (fun g39 => ?_) (fun g39 => ?_)
   rotate_left
   ·have g39p := oF g39
    refine wF g39 ?_
    refine wO g32 ?_
    refine wV (v_pick_f rfl g39 rfl) ?_
    refine wV (v_pick_f rfl g32 rfl) ?_
    refine wl_nil ?_
    refine wc_cond_f rfl ?_
    refine wc_skip ?_
    refine wcR ?_
    refine wA ?_
    refine wl_nil ?_
    refine wc_ret ?_
    first
      | exact ⟨_, res1 rfl rfl, congrArg Value.bool (dec_eq ⟨fun hd => ⟨by omega, by have := of_decide_eq_true hd; omega, fun j hj => ha j (by omega)⟩, fun hh => decide_eq_true (by obtain ⟨h5, h6, _⟩ := hh; omega)⟩), H.pm (by repeat constructor)⟩
      | exact ⟨_, res1 rfl rfl, congrArg Value.bool (dec_f fun hh => by have h5 := hh.2.2 i (by omega); unfold chOk at h5; omega).symm, H.pm (by repeat constructor)⟩
      | exact ⟨_, res1 rfl rfl, congrArg Value.bool (dec_t ⟨by omega, by omega, fun j hj => ha j (by omega)⟩).symm, H.pm (by repeat constructor)⟩
      | exact ⟨_, res1 rfl rfl, congrArg Value.bool (dec_f fun hh => by obtain ⟨h5, h6, _⟩ := hh; omega).symm, H.pm (by repeat constructor)⟩
   have g39p := oT g39
   refine wM ?_
   refine wO g39 ?_
   refine wV (v_leq rfl rfl) ?_
   refine wO g32 ?_
   refine wV (v_pick_t rfl g39 rfl) ?_
   refine wV (v_pick_f rfl g32 rfl) ?_
   refine wl_nil ?_
   refine wc_cond rfl (fun c1 => ?_) (fun c1 => ?_)
   ·have c1p := oT c1
    refine wc_exit ?_
    refine wc_region ?_
    refine wM ?_
    refine wV (v_addi rfl rfl (by omega)) ?_
    refine wA ?_
    refine wl_nil ?_
    exact ⟨i + 1, (sc rfl (sc rfl (sn _))), ⟨by omega, upto_succ ha (by unfold chOk; omega), H.pm (by repeat constructor)⟩, by omega⟩
   have c1p := oF c1
   refine wc_skip ?_
   refine wcR ?_
   refine wA ?_
   refine wl_nil ?_
   refine wc_ret ?_
   first
     | exact ⟨_, res1 rfl rfl, congrArg Value.bool (dec_eq ⟨fun hd => ⟨by omega, by have := of_decide_eq_true hd; omega, fun j hj => ha j (by omega)⟩, fun hh => decide_eq_true (by obtain ⟨h5, h6, _⟩ := hh; omega)⟩), H.pm (by repeat constructor)⟩
     | exact ⟨_, res1 rfl rfl, congrArg Value.bool (dec_f fun hh => by have h5 := hh.2.2 i (by omega); unfold chOk at h5; omega).symm, H.pm (by repeat constructor)⟩
     | exact ⟨_, res1 rfl rfl, congrArg Value.bool (dec_t ⟨by omega, by omega, fun j hj => ha j (by omega)⟩).symm, H.pm (by repeat constructor)⟩
     | exact ⟨_, res1 rfl rfl, congrArg Value.bool (dec_f fun hh => by obtain ⟨h5, h6, _⟩ := hh; omega).symm, H.pm (by repeat constructor)⟩
  have g16p := oT g16
  refine wM ?_
  refine wO g16 ?_
  refine wV (v_leq rfl rfl) ?_
  refine wV (v_pick_t rfl g16 rfl) ?_
  refine wM ?_
  refine wl_guard rfl rfl rfl (fun g20 => ?_) (fun g20 => ?_)
  rotate_left
  ·have g20p := oT g20
   refine wF g20 ?_
   refine wF g20 ?_
   refine wl_offu rfl rfl rfl ?_
   refine wl_offu rfl rfl rfl ?_
   refine wF g20 ?_
   refine wV (v_pick_t rfl g20 rfl) ?_
   refine wM ?_
   refine wF rfl ?_
   refine wF rfl ?_
   refine wV (v_pick_t rfl rfl rfl) ?_
   refine wM ?_
   refine wF rfl ?_
   refine wF rfl ?_
   refine wF rfl ?_
   refine wl_offu rfl rfl rfl ?_
   refine wl_offu rfl rfl rfl ?_
   refine wF rfl ?_
   refine wF rfl ?_
   refine wl_offu rfl rfl rfl ?_
   refine wl_offu rfl rfl rfl ?_
   refine wF rfl ?_
   refine wV (v_pick_t rfl rfl rfl) ?_
   refine wl_nil ?_
   refine wc_cond_t rfl ?_
   refine wc_exit ?_
   refine wc_region ?_
   refine wM ?_
   refine wV (v_addi rfl rfl (by omega)) ?_
   refine wA ?_
   refine wl_nil ?_
   exact ⟨i + 1, (sc rfl (sc rfl (sn _))), ⟨by omega, upto_succ ha (by unfold chOk; omega), H.pm (by repeat constructor)⟩, by omega⟩
  have g20p := oF g20
  refine wM ?_
  refine wO g20 ?_
  refine wV (v_geq rfl rfl) ?_
  refine wO g20 ?_
  refine wM ?_
  refine wl_guard rfl rfl rfl (fun g23 => ?_) (fun g23 => ?_)
  rotate_left
  ·have g23p := oF g23
   refine wF g23 ?_
   refine wO g20 ?_
   refine wV (v_pick_f rfl g23 rfl) ?_
   refine wV (v_pick_f rfl g20 rfl) ?_
   refine wM ?_
   refine wO rfl ?_
   refine wM ?_
   refine wO rfl ?_
   refine wV (v_eql rfl rfl) ?_
   refine wV (v_pick_f rfl rfl rfl) ?_
   refine wM ?_
   refine wl_guard rfl rfl rfl (fun g32 => ?_) (fun g32 => ?_)
   rotate_left
   ·have g32p := oT g32
    refine wF g32 ?_
    refine wF g32 ?_
    refine wl_offu rfl rfl rfl ?_
    refine wl_offu rfl rfl rfl ?_
    refine wF g32 ?_
    refine wF g32 ?_
    refine wl_offu rfl rfl rfl ?_
    refine wl_offu rfl rfl rfl ?_
    refine wF g32 ?_
    refine wV (v_pick_t rfl g32 rfl) ?_
    refine wl_nil ?_
    refine wc_cond_t rfl ?_
    refine wc_exit ?_
    refine wc_region ?_
    refine wM ?_
    refine wV (v_addi rfl rfl (by omega)) ?_
    refine wA ?_
    refine wl_nil ?_
    exact ⟨i + 1, (sc rfl (sc rfl (sn _))), ⟨by omega, upto_succ ha (by unfold chOk; omega), H.pm (by repeat constructor)⟩, by omega⟩
   have g32p := oF g32
   refine wM ?_
   refine wO g32 ?_
   refine wV (v_gtr rfl rfl) ?_
   refine wO g32 ?_
   refine wM ?_
   refine wl_guard rfl rfl rfl (fun g35 => ?_) (fun g35 => ?_)
   rotate_left
   ·have g35p := oF g35
    refine wF g35 ?_
    refine wO g32 ?_
    refine wV (v_pick_f rfl g35 rfl) ?_
    refine wO g32 ?_
    refine wM ?_
    refine wF rfl ?_
    refine wF rfl ?_
    refine wO g32 ?_
    refine wV (v_pick_f rfl rfl rfl) ?_
    refine wV (v_pick_f rfl g32 rfl) ?_
    refine wl_nil ?_
    refine wc_cond_f rfl ?_
    refine wc_skip ?_
    refine wcR ?_
    refine wA ?_
    refine wl_nil ?_
    refine wc_ret ?_
    first
      | exact ⟨_, res1 rfl rfl, congrArg Value.bool (dec_eq ⟨fun hd => ⟨by omega, by have := of_decide_eq_true hd; omega, fun j hj => ha j (by omega)⟩, fun hh => decide_eq_true (by obtain ⟨h5, h6, _⟩ := hh; omega)⟩), H.pm (by repeat constructor)⟩
      | exact ⟨_, res1 rfl rfl, congrArg Value.bool (dec_f fun hh => by have h5 := hh.2.2 i (by omega); unfold chOk at h5; omega).symm, H.pm (by repeat constructor)⟩
      | exact ⟨_, res1 rfl rfl, congrArg Value.bool (dec_t ⟨by omega, by omega, fun j hj => ha j (by omega)⟩).symm, H.pm (by repeat constructor)⟩
      | exact ⟨_, res1 rfl rfl, congrArg Value.bool (dec_f fun hh => by obtain ⟨h5, h6, _⟩ := hh; omega).symm, H.pm (by repeat constructor)⟩
   have g35p := oT g35
   refine wM ?_
   refine wO g35 ?_
   refine wV (v_geq rfl rfl) ?_
   refine wO g32 ?_
   refine wV (v_pick_t rfl g35 rfl) ?_
   refine wO g32 ?_
   refine wM ?_
   refine wl_guard rfl rfl rfl (fun g39 => ?_) (fun g39 => ?_)
   rotate_left
   ·have g39p := oF g39
    refine wF g39 ?_
    refine wO g32 ?_
    refine wV (v_pick_f rfl g39 rfl) ?_
    refine wV (v_pick_f rfl g32 rfl) ?_
    refine wl_nil ?_
    refine wc_cond_f rfl ?_
    refine wc_skip ?_
    refine wcR ?_
    refine wA ?_
    refine wl_nil ?_
    refine wc_ret ?_
    first
      | exact ⟨_, res1 rfl rfl, congrArg Value.bool (dec_eq ⟨fun hd => ⟨by omega, by have := of_decide_eq_true hd; omega, fun j hj => ha j (by omega)⟩, fun hh => decide_eq_true (by obtain ⟨h5, h6, _⟩ := hh; omega)⟩), H.pm (by repeat constructor)⟩
      | exact ⟨_, res1 rfl rfl, congrArg Value.bool (dec_f fun hh => by have h5 := hh.2.2 i (by omega); unfold chOk at h5; omega).symm, H.pm (by repeat constructor)⟩
      | exact ⟨_, res1 rfl rfl, congrArg Value.bool (dec_t ⟨by omega, by omega, fun j hj => ha j (by omega)⟩).symm, H.pm (by repeat constructor)⟩
      | exact ⟨_, res1 rfl rfl, congrArg Value.bool (dec_f fun hh => by obtain ⟨h5, h6, _⟩ := hh; omega).symm, H.pm (by repeat constructor)⟩
   have g39p := oT g39
   refine wM ?_
   refine wO g39 ?_
   refine wV (v_leq rfl rfl) ?_
   refine wO g32 ?_
   refine wV (v_pick_t rfl g39 rfl) ?_
   refine wV (v_pick_f rfl g32 rfl) ?_
   refine wl_nil ?_
   refine wc_cond rfl (fun c1 => ?_) (fun c1 => ?_)
   ·have c1p := oT c1
    refine wc_exit ?_
    refine wc_region ?_
    refine wM ?_
    refine wV (v_addi rfl rfl (by omega)) ?_
    refine wA ?_
    refine wl_nil ?_
    exact ⟨i + 1, (sc rfl (sc rfl (sn _))), ⟨by omega, upto_succ ha (by unfold chOk; omega), H.pm (by repeat constructor)⟩, by omega⟩
   have c1p := oF c1
   refine wc_skip ?_
   refine wcR ?_
   refine wA ?_
   refine wl_nil ?_
   refine wc_ret ?_
   first
     | exact ⟨_, res1 rfl rfl, congrArg Value.bool (dec_eq ⟨fun hd => ⟨by omega, by have := of_decide_eq_true hd; omega, fun j hj => ha j (by omega)⟩, fun hh => decide_eq_true (by obtain ⟨h5, h6, _⟩ := hh; omega)⟩), H.pm (by repeat constructor)⟩
     | exact ⟨_, res1 rfl rfl, congrArg Value.bool (dec_f fun hh => by have h5 := hh.2.2 i (by omega); unfold chOk at h5; omega).symm, H.pm (by repeat constructor)⟩
     | exact ⟨_, res1 rfl rfl, congrArg Value.bool (dec_t ⟨by omega, by omega, fun j hj => ha j (by omega)⟩).symm, H.pm (by repeat constructor)⟩
     | exact ⟨_, res1 rfl rfl, congrArg Value.bool (dec_f fun hh => by obtain ⟨h5, h6, _⟩ := hh; omega).symm, H.pm (by repeat constructor)⟩
  have g23p := oT g23
  refine wM ?_
  refine wO g23 ?_
  refine wV (v_leq rfl rfl) ?_
  refine wO g20 ?_
  refine wV (v_pick_t rfl g23 rfl) ?_
  refine wV (v_pick_f rfl g20 rfl) ?_
  refine wM ?_
  refine wl_guard rfl rfl rfl (fun g28 => ?_) (fun g28 => ?_)
  rotate_left
  ·have g28p := oT g28
   refine wF g28 ?_
   refine wV (v_pick_t rfl g28 rfl) ?_
   refine wM ?_
   refine wF rfl ?_
   refine wF rfl ?_
   refine wF rfl ?_
   refine wl_offu rfl rfl rfl ?_
   refine wl_offu rfl rfl rfl ?_
   refine wF rfl ?_
   refine wF rfl ?_
   refine wl_offu rfl rfl rfl ?_
   refine wl_offu rfl rfl rfl ?_
   refine wF rfl ?_
   refine wV (v_pick_t rfl rfl rfl) ?_
   refine wl_nil ?_
   refine wc_cond_t rfl ?_
   refine wc_exit ?_
   refine wc_region ?_
   refine wM ?_
   refine wV (v_addi rfl rfl (by omega)) ?_
   refine wA ?_
   refine wl_nil ?_
   exact ⟨i + 1, (sc rfl (sc rfl (sn _))), ⟨by omega, upto_succ ha (by unfold chOk; omega), H.pm (by repeat constructor)⟩, by omega⟩
  have g28p := oF g28
  refine wM ?_
  refine wO g28 ?_
  refine wV (v_eql rfl rfl) ?_
  refine wV (v_pick_f rfl g28 rfl) ?_
  refine wM ?_
  refine wl_guard rfl rfl rfl (fun g32 => ?_) (fun g32 => ?_)
  rotate_left
  ·have g32p := oT g32
   refine wF g32 ?_
   refine wF g32 ?_
   refine wl_offu rfl rfl rfl ?_
   refine wl_offu rfl rfl rfl ?_
   refine wF g32 ?_
   refine wF g32 ?_
   refine wl_offu rfl rfl rfl ?_
   refine wl_offu rfl rfl rfl ?_
   refine wF g32 ?_
   refine wV (v_pick_t rfl g32 rfl) ?_
   refine wl_nil ?_
   refine wc_cond_t rfl ?_
   refine wc_exit ?_
   refine wc_region ?_
   refine wM ?_
   refine wV (v_addi rfl rfl (by omega)) ?_
   refine wA ?_
   refine wl_nil ?_
   exact ⟨i + 1, (sc rfl (sc rfl (sn _))), ⟨by omega, upto_succ ha (by unfold chOk; omega), H.pm (by repeat constructor)⟩, by omega⟩
  have g32p := oF g32
  refine wM ?_
  refine wO g32 ?_
  refine wV (v_gtr rfl rfl) ?_
  refine wO g32 ?_
  refine wM ?_
  refine wl_guard rfl rfl rfl (fun g35 => ?_) (fun g35 => ?_)
  rotate_left
  ·have g35p := oF g35
   refine wF g35 ?_
   refine wO g32 ?_
   refine wV (v_pick_f rfl g35 rfl) ?_
   refine wO g32 ?_
   refine wM ?_
   refine wF rfl ?_
   refine wF rfl ?_
   refine wO g32 ?_
   refine wV (v_pick_f rfl rfl rfl) ?_
   refine wV (v_pick_f rfl g32 rfl) ?_
   refine wl_nil ?_
   refine wc_cond_f rfl ?_
   refine wc_skip ?_
   refine wcR ?_
   refine wA ?_
   refine wl_nil ?_
   refine wc_ret ?_
   first
     | exact ⟨_, res1 rfl rfl, congrArg Value.bool (dec_eq ⟨fun hd => ⟨by omega, by have := of_decide_eq_true hd; omega, fun j hj => ha j (by omega)⟩, fun hh => decide_eq_true (by obtain ⟨h5, h6, _⟩ := hh; omega)⟩), H.pm (by repeat constructor)⟩
     | exact ⟨_, res1 rfl rfl, congrArg Value.bool (dec_f fun hh => by have h5 := hh.2.2 i (by omega); unfold chOk at h5; omega).symm, H.pm (by repeat constructor)⟩
     | exact ⟨_, res1 rfl rfl, congrArg Value.bool (dec_t ⟨by omega, by omega, fun j hj => ha j (by omega)⟩).symm, H.pm (by repeat constructor)⟩
     | exact ⟨_, res1 rfl rfl, congrArg Value.bool (dec_f fun hh => by obtain ⟨h5, h6, _⟩ := hh; omega).symm, H.pm (by repeat constructor)⟩
  have g35p := oT g35
  refine wM ?_
  refine wO g35 ?_
  refine wV (v_geq rfl rfl) ?_
  refine wO g32 ?_
  refine wV (v_pick_t rfl g35 rfl) ?_
  refine wO g32 ?_
  refine wM ?_
  refine wl_guard rfl rfl rfl (fun g39 => ?_) (fun g39 => ?_)
  rotate_left
  ·have g39p := oF g39
   refine wF g39 ?_
   refine wO g32 ?_
   refine wV (v_pick_f rfl g39 rfl) ?_
   refine wV (v_pick_f rfl g32 rfl) ?_
   refine wl_nil ?_
   refine wc_cond_f rfl ?_
   refine wc_skip ?_
   refine wcR ?_
   refine wA ?_
   refine wl_nil ?_
   refine wc_ret ?_
   first
     | exact ⟨_, res1 rfl rfl, congrArg Value.bool (dec_eq ⟨fun hd => ⟨by omega, by have := of_decide_eq_true hd; omega, fun j hj => ha j (by omega)⟩, fun hh => decide_eq_true (by obtain ⟨h5, h6, _⟩ := hh; omega)⟩), H.pm (by repeat constructor)⟩
     | exact ⟨_, res1 rfl rfl, congrArg Value.bool (dec_f fun hh => by have h5 := hh.2.2 i (by omega); unfold chOk at h5; omega).symm, H.pm (by repeat constructor)⟩
     | exact ⟨_, res1 rfl rfl, congrArg Value.bool (dec_t ⟨by omega, by omega, fun j hj => ha j (by omega)⟩).symm, H.pm (by repeat constructor)⟩
     | exact ⟨_, res1 rfl rfl, congrArg Value.bool (dec_f fun hh => by obtain ⟨h5, h6, _⟩ := hh; omega).symm, H.pm (by repeat constructor)⟩
  have g39p := oT g39
  refine wM ?_
  refine wO g39 ?_
  refine wV (v_leq rfl rfl) ?_
  refine wO g32 ?_
  refine wV (v_pick_t rfl g39 rfl) ?_
  refine wV (v_pick_f rfl g32 rfl) ?_
  refine wl_nil ?_
  refine wc_cond rfl (fun c1 => ?_) (fun c1 => ?_)
  ·have c1p := oT c1
   refine wc_exit ?_
   refine wc_region ?_
   refine wM ?_
   refine wV (v_addi rfl rfl (by omega)) ?_
   refine wA ?_
   refine wl_nil ?_
   exact ⟨i + 1, (sc rfl (sc rfl (sn _))), ⟨by omega, upto_succ ha (by unfold chOk; omega), H.pm (by repeat constructor)⟩, by omega⟩
  have c1p := oF c1
  refine wc_skip ?_
  refine wcR ?_
  refine wA ?_
  refine wl_nil ?_
  refine wc_ret ?_
  first
    | exact ⟨_, res1 rfl rfl, congrArg Value.bool (dec_eq ⟨fun hd => ⟨by omega, by have := of_decide_eq_true hd; omega, fun j hj => ha j (by omega)⟩, fun hh => decide_eq_true (by obtain ⟨h5, h6, _⟩ := hh; omega)⟩), H.pm (by repeat constructor)⟩
    | exact ⟨_, res1 rfl rfl, congrArg Value.bool (dec_f fun hh => by have h5 := hh.2.2 i (by omega); unfold chOk at h5; omega).symm, H.pm (by repeat constructor)⟩
    | exact ⟨_, res1 rfl rfl, congrArg Value.bool (dec_t ⟨by omega, by omega, fun j hj => ha j (by omega)⟩).symm, H.pm (by repeat constructor)⟩
    | exact ⟨_, res1 rfl rfl, congrArg Value.bool (dec_f fun hh => by obtain ⟨h5, h6, _⟩ := hh; omega).symm, H.pm (by repeat constructor)⟩
end Go.Proofs.Ytgdemplcpcacaaa.NameW
