/- Whether all actions fit their types: the program's answer. A node's type: the program's answer. -/
import Derived.Test.YtgdemplcpcacaaaProg
import Derived.Test.YtgdemplcpcacaaaK08
set_option linter.unusedVariables false
set_option linter.unusedSimpArgs false
/-! Whether all actions fit their types: the program's answer. -/
namespace Go.Proofs.Ytgdemplcpcacaaa.PCheck
open Go Go.RowKit Go.Proofs.YtgdemplcpcacaaaFx Go.Proofs.Ytgdemplcpcacaaa.PartsW Go.Proofs.Ytgdemplcpcacaaa.NameW Go.Proofs.Ytgdemplcpcacaaa.KindsW Go.Proofs.Ytgdemplcpcacaaa.GramW Go.Proofs.Ytgdemplcpcacaaa.KnownD Go.Proofs.Ytgdemplcpcacaaa.PValue Go.Proofs.Ytgdemplcpcacaaa.TypD
theorem agg44 : Agg Try.prog 44 5 := agg_of Try.underlying44 (by kernel_rfl)
theorem agg69 : Agg Try.prog 69 4 := agg_of Try.underlying69 (by kernel_rfl)
theorem agg73 : Agg Try.prog 73 7 := agg_of Try.underlying73 (by kernel_rfl)
theorem en34 : Enters Try.prog 34 := enters Try.func34 (by kernel_rfl) rfl
theorem en48 : Enters Try.prog 48 := enters Try.func48 (by kernel_rfl) rfl
theorem en49 : Enters Try.prog 49 := enters Try.func49 (by kernel_rfl) rfl
theorem fa126_0 : FieldAt Try.prog 126 0 0 := field_at (sz := 0) Try.underlying126 rfl (by kernel_rfl) rfl
theorem fa44_0 : FieldAt Try.prog 44 0 0 := field_at (sz := 0) Try.underlying44 rfl (by kernel_rfl) rfl
theorem fa44_2 : FieldAt Try.prog 44 2 2 := field_at (sz := 0) Try.underlying44 rfl (by kernel_rfl) rfl
theorem fa44_3 : FieldAt Try.prog 44 3 3 := field_at (sz := 0) Try.underlying44 rfl (by kernel_rfl) rfl
theorem fa73_0 : FieldAt Try.prog 73 0 0 := field_at (sz := 0) Try.underlying73 rfl (by kernel_rfl) rfl
theorem fa73_1 : FieldAt Try.prog 73 1 1 := field_at (sz := 0) Try.underlying73 rfl (by kernel_rfl) rfl
theorem fa73_3 : FieldAt Try.prog 73 3 3 := field_at (sz := 3) Try.underlying73 rfl (by kernel_rfl) rfl
theorem info9 : (Try.prog.info? 9).map (fun i => (i.zero, i.size, i.bytes)) = some (some (.string ⟨#[]⟩), 1, 16) := by kernel_rfl
theorem one122 : One Try.prog 122 := one_of Try.underlying122 rfl (by kernel_rfl)
theorem one3 : One Try.prog 3 := one_of Try.underlying3 rfl (by kernel_rfl)
theorem one40 : One Try.prog 40 := one_of Try.underlying40 rfl (by kernel_rfl)
theorem one42 : One Try.prog 42 := one_of Try.underlying42 rfl (by kernel_rfl)
theorem one51 : One Try.prog 51 := one_of Try.underlying51 rfl (by kernel_rfl)
theorem one9 : One Try.prog 9 := one_of Try.underlying9 rfl (by kernel_rfl)
theorem sz3 : ∀ W, (sizeOf 3).run Try.prog W = .ok 1 W := size_of (by kernel_rfl)
theorem sz73 : ∀ W, (sizeOf 73).run Try.prog W = .ok 7 W := size_of (by kernel_rfl)
theorem sz9 : ∀ W, (sizeOf 9).run Try.prog W = .ok 1 W := size_of (by kernel_rfl)
theorem zv4 : ∀ W, (zeroValue 4).run Try.prog W = .ok (.bool false) W := zero_of (by kernel_rfl)
theorem zv73 : ∀ W, (zeroValue 73).run Try.prog W = .ok (.agg #[.int .i64 0, .slice none 0 0, .int .i64 0, .int .i64 0, .int .i64 0, .string ⟨#[]⟩, .slice none 0 0]) W := zero_of (by kernel_rfl)
theorem zv9 : ∀ W, (zeroValue 9).run Try.prog W = .ok (.string ⟨#[]⟩) W := zero_of (by kernel_rfl)

set_option maxHeartbeats 6400000 in
set_option maxRecDepth 100000 in
theorem pcheck_calls {g : Pl} {a : PlA} {l : List Dt} {types : List ByteArray} {A Ty : Option Addr} {cd kt : Nat} {w : World} (hg : g.ok) (hrg : g.rd w a) (hl : DOk l) (hr : Rd kDt w A l) (hty : Rd kStr w Ty types) (htl : types.length ≤ 1099511627776) (hts : ∀ s ∈ types, s.size ≤ 1099511627776) :
    Calls Try.prog 19 #[.agg #[.slice a.k g.kinds.length a.ck, .slice a.p g.precs.length a.cp, .slice a.r g.rules.length a.cr, .slice a.q g.prods.length a.cq, .int .i64 g.start], .slice A l.length cd, .slice Ty types.length kt] w fun e w' => ∃ v, e = .returned v ∧ ∃ p e : Int, v = .tuple #[.int .i64 p, .int .i64 e] ∧ (e = 0 ↔ ChkOk g l types) ∧ (e = 0 → p = 0) ∧ Holds w [] w' := by
  have hgk := hg.k
  have hgr := hg.r
  have hgq := hg.q
  refine calls_of Try.func19 rfl Try.ntmps19 rfl ?_
  have H := Holds.start w
  refine wcR ?_
  refine wl_box (cs := [_, _, _, _, _]) H rfl rfl rfl ?_
  intro b3 w1 hb3 H2
  refine wA ?_
  refine wA ?_
  refine wl_nil ?_
  refine wc_seq ?_
  refine wcR ?_
  refine wV (v_loadN agg44 rfl rfl (H2.ats (by repeat constructor))) ?_
  refine wl_call en34 rfl rfl (gcheck_calls (hrg.below H2.old) hg) ?_
  rintro _ w3 ⟨rfl, Hc⟩
  have H4 := H2.call0 Hc
  refine wV (v_neq rfl rfl) ?_
  refine wl_nil ?_
  refine wc_cond rfl (fun c0 => ?_) (fun c0 => ?_)
  ·have c0p := of_nd_t c0
   refine wcR ?_
   refine wA ?_
   refine wA ?_
   refine wl_nil ?_
   refine wc_ret ?_
   first
     | (have q_ := c9p
        exact ⟨_, res2 rfl rfl rfl, _, _, rfl, ⟨fun h => absurd h (by decide), fun hh => absurd (prodE_is.1 (hh.2.2.2.2 i hin)).2 c9p⟩, (fun h => by first | rfl | exact absurd h (by decide) | exact absurd h c8p | exact absurd h c1p), H4.pm (Pm.nil _)⟩)
     | (have q_ := c8p
        exact ⟨_, res2 rfl rfl rfl, _, _, rfl, ⟨fun h => absurd h c8p, fun hh => absurd (prodE_is.1 (hh.2.2.2.2 i hin)).1 c8p⟩, (fun h => by first | rfl | exact absurd h (by decide) | exact absurd h c8p | exact absurd h c1p), H4.pm (Pm.nil _)⟩)
     | (have q_ := c5p
        exact ⟨_, res2 rfl rfl rfl, _, _, rfl, ⟨fun _ => ⟨hG, c1p, by omega, fun j hj => ha j (by omega), fun j hj => hp j (by omega)⟩, fun _ => rfl⟩, (fun h => by first | rfl | exact absurd h (by decide) | exact absurd h c8p | exact absurd h c1p), H4.pm (Pm.nil _)⟩)
     | (have q_ := c4p
        exact ⟨_, res2 rfl rfl rfl, _, _, rfl, ⟨fun h => absurd h (by decide), fun hh => ((hh.2.2.2.1 i hin).elim (fun h => absurd h g44p) (fun h => h.elim (fun h => absurd h g48p) (fun h => absurd h (of_ndec (of_n_t c4)))))⟩, (fun h => by first | rfl | exact absurd h (by decide) | exact absurd h c8p | exact absurd h c1p), H4.pm (Pm.nil _)⟩)
     | (have q_ := c2p
        exact ⟨_, res2 rfl rfl rfl, _, _, rfl, ⟨fun h => absurd h (by decide), fun hh => by have h_ := hh.2.2.1; omega⟩, (fun h => by first | rfl | exact absurd h (by decide) | exact absurd h c8p | exact absurd h c1p), H4.pm (Pm.nil _)⟩)
     | (have q_ := c1p
        exact ⟨_, res2 rfl rfl rfl, _, _, rfl, ⟨fun h => absurd h c1p, fun hh => absurd hh.2.1 c1p⟩, (fun h => by first | rfl | exact absurd h (by decide) | exact absurd h c8p | exact absurd h c1p), H4.pm (Pm.nil _)⟩)
     | exact ⟨_, res2 rfl rfl rfl, _, _, rfl, ⟨fun h => absurd h (by decide), fun hh => by have h_ := checkG_t hh.1; omega⟩, (fun h => by first | rfl | exact absurd h (by decide) | exact absurd h c8p | exact absurd h c1p), H4.pm (Pm.nil _)⟩
  have c0p := of_nd_f c0
  have hG : GOk g := Classical.byContradiction fun h_ => (by have e_ := checkG_f h_; omega)
  refine wc_skip ?_
  refine wcR ?_
  refine wM ?_
  refine wl_call en48 rfl rfl (known_calls hl hr H4) ?_
  rintro _ w5 ⟨bd, b0, b1, b2, fC, rfl, H5, hkf⟩
  refine wM ?_
  refine wV (v_extract rfl rfl) ?_
  refine wV (v_extract rfl rfl) ?_
  refine wA ?_
  refine wA ?_
  refine wl_nil ?_
  refine wc_seq ?_
  refine wcR ?_
  refine wM ?_
  refine wV (v_neq rfl rfl) ?_
  refine wl_nil ?_
  refine wc_cond rfl (fun c1 => ?_) (fun c1 => ?_)
  ·have c1p := of_nd_t c1
   refine wcR ?_
   refine wM ?_
   refine wA ?_
   refine wA ?_
   refine wl_nil ?_
   refine wc_ret ?_
   first
     | (have q_ := c9p
        exact ⟨_, res2 rfl rfl rfl, _, _, rfl, ⟨fun h => absurd h (by decide), fun hh => absurd (prodE_is.1 (hh.2.2.2.2 i hin)).2 c9p⟩, (fun h => by first | rfl | exact absurd h (by decide) | exact absurd h c8p | exact absurd h c1p), H5.pm (Pm.nil _)⟩)
     | (have q_ := c8p
        exact ⟨_, res2 rfl rfl rfl, _, _, rfl, ⟨fun h => absurd h c8p, fun hh => absurd (prodE_is.1 (hh.2.2.2.2 i hin)).1 c8p⟩, (fun h => by first | rfl | exact absurd h (by decide) | exact absurd h c8p | exact absurd h c1p), H5.pm (Pm.nil _)⟩)
     | (have q_ := c5p
        exact ⟨_, res2 rfl rfl rfl, _, _, rfl, ⟨fun _ => ⟨hG, c1p, by omega, fun j hj => ha j (by omega), fun j hj => hp j (by omega)⟩, fun _ => rfl⟩, (fun h => by first | rfl | exact absurd h (by decide) | exact absurd h c8p | exact absurd h c1p), H5.pm (Pm.nil _)⟩)
     | (have q_ := c4p
        exact ⟨_, res2 rfl rfl rfl, _, _, rfl, ⟨fun h => absurd h (by decide), fun hh => ((hh.2.2.2.1 i hin).elim (fun h => absurd h g44p) (fun h => h.elim (fun h => absurd h g48p) (fun h => absurd h (of_ndec (of_n_t c4)))))⟩, (fun h => by first | rfl | exact absurd h (by decide) | exact absurd h c8p | exact absurd h c1p), H5.pm (Pm.nil _)⟩)
     | (have q_ := c2p
        exact ⟨_, res2 rfl rfl rfl, _, _, rfl, ⟨fun h => absurd h (by decide), fun hh => by have h_ := hh.2.2.1; omega⟩, (fun h => by first | rfl | exact absurd h (by decide) | exact absurd h c8p | exact absurd h c1p), H5.pm (Pm.nil _)⟩)
     | (have q_ := c1p
        exact ⟨_, res2 rfl rfl rfl, _, _, rfl, ⟨fun h => absurd h c1p, fun hh => absurd hh.2.1 c1p⟩, (fun h => by first | rfl | exact absurd h (by decide) | exact absurd h c8p | exact absurd h c1p), H5.pm (Pm.nil _)⟩)
     | exact ⟨_, res2 rfl rfl rfl, _, _, rfl, ⟨fun h => absurd h (by decide), fun hh => by have h_ := checkG_t hh.1; omega⟩, (fun h => by first | rfl | exact absurd h (by decide) | exact absurd h c8p | exact absurd h c1p), H5.pm (Pm.nil _)⟩
  have c1p := of_nd_f c1
  obtain ⟨hC, HF⟩ := hkf c1p
  replace H5 := HF
  refine wc_skip ?_
  refine wc_seq ?_
  refine wcR ?_
  refine wM ?_
  refine wV (v_len Try.underlying40 rfl) ?_
  refine wV (v_fb (o2 := 2) fa44_2 rfl rfl) ?_
  refine wV (v_load one40 rfl (H5.at (by repeat constructor) rfl)) ?_
  refine wV (v_len Try.underlying40 rfl) ?_
  refine wV (v_neq rfl rfl) ?_
  refine wl_nil ?_
  refine wc_cond rfl (fun c2 => ?_) (fun c2 => ?_)
  ·have c2p := of_nd_t c2
   refine wcR ?_
   refine wA ?_
   refine wA ?_
   refine wl_nil ?_
   refine wc_ret ?_
   first
     | (have q_ := c9p
        exact ⟨_, res2 rfl rfl rfl, _, _, rfl, ⟨fun h => absurd h (by decide), fun hh => absurd (prodE_is.1 (hh.2.2.2.2 i hin)).2 c9p⟩, (fun h => by first | rfl | exact absurd h (by decide) | exact absurd h c8p | exact absurd h c1p), H5.pm (Pm.nil _)⟩)
     | (have q_ := c8p
        exact ⟨_, res2 rfl rfl rfl, _, _, rfl, ⟨fun h => absurd h c8p, fun hh => absurd (prodE_is.1 (hh.2.2.2.2 i hin)).1 c8p⟩, (fun h => by first | rfl | exact absurd h (by decide) | exact absurd h c8p | exact absurd h c1p), H5.pm (Pm.nil _)⟩)
     | (have q_ := c5p
        exact ⟨_, res2 rfl rfl rfl, _, _, rfl, ⟨fun _ => ⟨hG, c1p, by omega, fun j hj => ha j (by omega), fun j hj => hp j (by omega)⟩, fun _ => rfl⟩, (fun h => by first | rfl | exact absurd h (by decide) | exact absurd h c8p | exact absurd h c1p), H5.pm (Pm.nil _)⟩)
     | (have q_ := c4p
        exact ⟨_, res2 rfl rfl rfl, _, _, rfl, ⟨fun h => absurd h (by decide), fun hh => ((hh.2.2.2.1 i hin).elim (fun h => absurd h g44p) (fun h => h.elim (fun h => absurd h g48p) (fun h => absurd h (of_ndec (of_n_t c4)))))⟩, (fun h => by first | rfl | exact absurd h (by decide) | exact absurd h c8p | exact absurd h c1p), H5.pm (Pm.nil _)⟩)
     | (have q_ := c2p
        exact ⟨_, res2 rfl rfl rfl, _, _, rfl, ⟨fun h => absurd h (by decide), fun hh => by have h_ := hh.2.2.1; omega⟩, (fun h => by first | rfl | exact absurd h (by decide) | exact absurd h c8p | exact absurd h c1p), H5.pm (Pm.nil _)⟩)
     | (have q_ := c1p
        exact ⟨_, res2 rfl rfl rfl, _, _, rfl, ⟨fun h => absurd h c1p, fun hh => absurd hh.2.1 c1p⟩, (fun h => by first | rfl | exact absurd h (by decide) | exact absurd h c8p | exact absurd h c1p), H5.pm (Pm.nil _)⟩)
     | exact ⟨_, res2 rfl rfl rfl, _, _, rfl, ⟨fun h => absurd h (by decide), fun hh => by have h_ := checkG_t hh.1; omega⟩, (fun h => by first | rfl | exact absurd h (by decide) | exact absurd h c8p | exact absurd h c1p), H5.pm (Pm.nil _)⟩
  have c2p := of_nd_f c2
  refine wc_skip ?_
  refine wc_seq ?_
  refine wcR ?_
  refine wM ?_
  refine wV (v_len Try.underlying40 rfl) ?_
  refine wM ?_
  refine wl_nil ?_
  refine wc_block ?_
  refine wc_loop (σ := Nat) (fun s => [(2, .slice Ty types.length kt), (3, .pointer (some ⟨b3, 0, none⟩)), (8, .pointer (some ⟨bd, 0, none⟩)), (36, .slice Ty types.length kt), (37, .int .i64 types.length), (38, .int .i64 s)]) (fun s W => (s ≤ types.length ∧ ∀ j, j < s → TyOk l (types.getD j s0)) ∧ Holds w [Blk bd 126 [.map (some b0), .map (some b1), .map (some b2)], Mp KS Value.bool b0 l.length (metF (nms l)), Mp KS VId b1 (flat l).length fC, Mp KS Value.string b2 (flat l).length (ofF (flat l)), Blk b3 44 [.slice a.k g.kinds.length a.ck, .slice a.p g.precs.length a.cp, .slice a.r g.rules.length a.cr, .slice a.q g.prods.length a.cq, .int .i64 g.start]] W) (fun s => types.length - s) 0 (sc rfl (sc rfl (sc rfl (sc rfl (sc rfl (sc rfl (sn _))))))) ⟨⟨Nat.zero_le _, upto_zero⟩, H5.pm (by repeat constructor)⟩ ?_
  rintro i W0 ⟨⟨hi, ha⟩, H⟩
  refine wcR ?_
  refine wV (v_lss rfl rfl) ?_
  refine wl_nil ?_
  refine wc_seq ?_
  refine wc_cond rfl (fun c3 => ?_) (fun c3 => ?_)
  ·have c3p := oT c3
   have hin : i < types.length := by omega
   refine wc_skip ?_
   refine wc_seq ?_
   refine wc_block ?_
   refine wcR ?_
   refine wV (v_idx Try.underlying40 sz9 hty.ad rfl rfl (by omega) (by omega)) ?_
   refine wV (v_load one9 rfl (H.cell (hty.at1sN (i := i) (by omega)))) ?_
   refine wA ?_
   refine wl_nil ?_
   refine wcR ?_
   refine wM ?_
   refine wV (v_neqs rfl rfl) ?_
   refine wM ?_
   refine wl_guard rfl rfl rfl (fun g44 => ?_) (fun g44 => ?_)
   rotate_left
   ·have g44p := of_nd_f g44
    refine wF g44 ?_
    refine wV (v_pick_f rfl g44 rfl) ?_
    refine wM ?_
    refine wF rfl ?_
    refine wF rfl ?_
    refine wF rfl ?_
    refine wF rfl ?_
    refine wF rfl ?_
    refine wF rfl ?_
    refine wF rfl ?_
    refine wV (v_pick_f rfl rfl rfl) ?_
    refine wl_nil ?_
    refine wc_cond_f rfl ?_
    refine wc_skip ?_
    refine wc_region ?_
    refine wV (v_addi rfl rfl (by omega)) ?_
    refine wM ?_
    refine wl_nil ?_
    first
      | exact ⟨i + 1, (sc rfl (sc rfl (sc rfl (sc rfl (sc rfl (sc rfl (sn _))))))), ⟨⟨by omega, upto_succ ha (.inr (.inr (of_dec (of_n_f c4))))⟩, H.pm (by repeat constructor)⟩, by omega⟩
      | exact ⟨i + 1, (sc rfl (sc rfl (sc rfl (sc rfl (sc rfl (sc rfl (sn _))))))), ⟨⟨by omega, upto_succ ha (.inr (.inl g48p))⟩, H.pm (by repeat constructor)⟩, by omega⟩
      | exact ⟨i + 1, (sc rfl (sc rfl (sc rfl (sc rfl (sc rfl (sc rfl (sn _))))))), ⟨⟨by omega, upto_succ ha (.inl g44p)⟩, H.pm (by repeat constructor)⟩, by omega⟩
   have g44p := of_nd_t g44
   refine wM ?_
   refine wO g44 ?_
   refine wV (v_neqs rfl rfl) ?_
   refine wV (v_pick_t rfl g44 rfl) ?_
   refine wM ?_
   refine wl_guard rfl rfl rfl (fun g48 => ?_) (fun g48 => ?_)
   rotate_left
   ·have g48p := of_nd_f g48
    refine wF g48 ?_
    refine wF g48 ?_
    refine wF g48 ?_
    refine wF g48 ?_
    refine wF g48 ?_
    refine wF g48 ?_
    refine wV (v_pick_f rfl g48 rfl) ?_
    refine wl_nil ?_
    refine wc_cond_f rfl ?_
    refine wc_skip ?_
    refine wc_region ?_
    refine wV (v_addi rfl rfl (by omega)) ?_
    refine wM ?_
    refine wl_nil ?_
    first
      | exact ⟨i + 1, (sc rfl (sc rfl (sc rfl (sc rfl (sc rfl (sc rfl (sn _))))))), ⟨⟨by omega, upto_succ ha (.inr (.inr (of_dec (of_n_f c4))))⟩, H.pm (by repeat constructor)⟩, by omega⟩
      | exact ⟨i + 1, (sc rfl (sc rfl (sc rfl (sc rfl (sc rfl (sc rfl (sn _))))))), ⟨⟨by omega, upto_succ ha (.inr (.inl g48p))⟩, H.pm (by repeat constructor)⟩, by omega⟩
      | exact ⟨i + 1, (sc rfl (sc rfl (sc rfl (sc rfl (sc rfl (sc rfl (sn _))))))), ⟨⟨by omega, upto_succ ha (.inl g44p)⟩, H.pm (by repeat constructor)⟩, by omega⟩
   have g48p := of_nd_t g48
   refine wM ?_
   refine wO g48 ?_
   refine wV (v_nil rfl) ?_
   refine wO g48 ?_
   refine wV (v_fb (o2 := 0) fa126_0 rfl rfl) ?_
   refine wO g48 ?_
   refine wV (v_load one122 rfl (H.at (by repeat constructor) rfl)) ?_
   refine wO g48 ?_
   refine wM ?_
   refine wO g48 ?_
   refine wV (v_look' H (by repeat constructor) Try.underlying122 zv4 (show KS.ok (types.getD i s0) from Nat.le_trans (hts _ (getD_mem hin)) (by decide)) rfl rfl (metF_get _ _)) ?_
   refine wO g48 ?_
   refine wV (v_not rfl) ?_
   refine wV (v_pick_t rfl g48 rfl) ?_
   refine wl_nil ?_
   refine wc_cond rfl (fun c4 => ?_) (fun c4 => ?_)
   rotate_left
   ·have c4p := of_n_f c4
    refine wc_skip ?_
    refine wc_region ?_
    refine wV (v_addi rfl rfl (by omega)) ?_
    refine wM ?_
    refine wl_nil ?_
    first
      | exact ⟨i + 1, (sc rfl (sc rfl (sc rfl (sc rfl (sc rfl (sc rfl (sn _))))))), ⟨⟨by omega, upto_succ ha (.inr (.inr (of_dec (of_n_f c4))))⟩, H.pm (by repeat constructor)⟩, by omega⟩
      | exact ⟨i + 1, (sc rfl (sc rfl (sc rfl (sc rfl (sc rfl (sc rfl (sn _))))))), ⟨⟨by omega, upto_succ ha (.inr (.inl g48p))⟩, H.pm (by repeat constructor)⟩, by omega⟩
      | exact ⟨i + 1, (sc rfl (sc rfl (sc rfl (sc rfl (sc rfl (sc rfl (sn _))))))), ⟨⟨by omega, upto_succ ha (.inl g44p)⟩, H.pm (by repeat constructor)⟩, by omega⟩
   have c4p := of_n_t c4
   refine wcR ?_
   refine wA ?_
   refine wA ?_
   refine wl_nil ?_
   refine wc_ret ?_
   first
     | (have q_ := c9p
        exact ⟨_, res2 rfl rfl rfl, _, _, rfl, ⟨fun h => absurd h (by decide), fun hh => absurd (prodE_is.1 (hh.2.2.2.2 i hin)).2 c9p⟩, (fun h => by first | rfl | exact absurd h (by decide) | exact absurd h c8p | exact absurd h c1p), H.pm (Pm.nil _)⟩)
     | (have q_ := c8p
        exact ⟨_, res2 rfl rfl rfl, _, _, rfl, ⟨fun h => absurd h c8p, fun hh => absurd (prodE_is.1 (hh.2.2.2.2 i hin)).1 c8p⟩, (fun h => by first | rfl | exact absurd h (by decide) | exact absurd h c8p | exact absurd h c1p), H.pm (Pm.nil _)⟩)
     | (have q_ := c5p
        exact ⟨_, res2 rfl rfl rfl, _, _, rfl, ⟨fun _ => ⟨hG, c1p, by omega, fun j hj => ha j (by omega), fun j hj => hp j (by omega)⟩, fun _ => rfl⟩, (fun h => by first | rfl | exact absurd h (by decide) | exact absurd h c8p | exact absurd h c1p), H.pm (Pm.nil _)⟩)
     | (have q_ := c4p
        exact ⟨_, res2 rfl rfl rfl, _, _, rfl, ⟨fun h => absurd h (by decide), fun hh => ((hh.2.2.2.1 i hin).elim (fun h => absurd h g44p) (fun h => h.elim (fun h => absurd h g48p) (fun h => absurd h (of_ndec (of_n_t c4)))))⟩, (fun h => by first | rfl | exact absurd h (by decide) | exact absurd h c8p | exact absurd h c1p), H.pm (Pm.nil _)⟩)
     | (have q_ := c2p
        exact ⟨_, res2 rfl rfl rfl, _, _, rfl, ⟨fun h => absurd h (by decide), fun hh => by have h_ := hh.2.2.1; omega⟩, (fun h => by first | rfl | exact absurd h (by decide) | exact absurd h c8p | exact absurd h c1p), H.pm (Pm.nil _)⟩)
     | (have q_ := c1p
        exact ⟨_, res2 rfl rfl rfl, _, _, rfl, ⟨fun h => absurd h c1p, fun hh => absurd hh.2.1 c1p⟩, (fun h => by first | rfl | exact absurd h (by decide) | exact absurd h c8p | exact absurd h c1p), H.pm (Pm.nil _)⟩)
     | exact ⟨_, res2 rfl rfl rfl, _, _, rfl, ⟨fun h => absurd h (by decide), fun hh => by have h_ := checkG_t hh.1; omega⟩, (fun h => by first | rfl | exact absurd h (by decide) | exact absurd h c8p | exact absurd h c1p), H.pm (Pm.nil _)⟩
  have c3p := oF c3
  refine wc_exit ?_
  refine wc_seq ?_
  refine wcR ?_
  refine wV (v_fb (o2 := 3) fa44_3 rfl rfl) ?_
  refine wV (v_load one42 rfl (H.at (by repeat constructor) rfl)) ?_
  refine wV (v_len Try.underlying42 rfl) ?_
  refine wM ?_
  refine wl_nil ?_
  refine wc_block ?_
  refine wc_loop (σ := Nat) (fun s => [(2, .slice Ty types.length kt), (3, .pointer (some ⟨b3, 0, none⟩)), (8, .pointer (some ⟨bd, 0, none⟩)), (59, .slice a.q g.prods.length a.cq), (60, .int .i64 g.prods.length), (61, .int .i64 s)]) (fun s W => (s ≤ g.prods.length ∧ ∀ j, j < s → prodE g l types j = 0) ∧ Holds w [Blk bd 126 [.map (some b0), .map (some b1), .map (some b2)], Mp KS Value.bool b0 l.length (metF (nms l)), Mp KS VId b1 (flat l).length fC, Mp KS Value.string b2 (flat l).length (ofF (flat l)), Blk b3 44 [.slice a.k g.kinds.length a.ck, .slice a.p g.precs.length a.cp, .slice a.r g.rules.length a.cr, .slice a.q g.prods.length a.cq, .int .i64 g.start]] W) (fun s => g.prods.length - s) 0 (sc rfl (sc rfl (sc rfl (sc rfl (sc rfl (sc rfl (sn _))))))) ⟨⟨Nat.zero_le _, upto_zero⟩, H.pm (by repeat constructor)⟩ ?_
  rintro i W1 ⟨⟨hi, hp⟩, H⟩
  refine wcR ?_
  refine wV (v_lss rfl rfl) ?_
  refine wl_nil ?_
  refine wc_seq ?_
  refine wc_cond rfl (fun c5 => ?_) (fun c5 => ?_)
  rotate_left
  ·have c5p := oF c5
   refine wc_exit ?_
   refine wcR ?_
   refine wA ?_
   refine wA ?_
   refine wl_nil ?_
   refine wc_ret ?_
   first
     | (have q_ := c9p
        exact ⟨_, res2 rfl rfl rfl, _, _, rfl, ⟨fun h => absurd h (by decide), fun hh => absurd (prodE_is.1 (hh.2.2.2.2 i hin)).2 c9p⟩, (fun h => by first | rfl | exact absurd h (by decide) | exact absurd h c8p | exact absurd h c1p), H.pm (Pm.nil _)⟩)
     | (have q_ := c8p
        exact ⟨_, res2 rfl rfl rfl, _, _, rfl, ⟨fun h => absurd h c8p, fun hh => absurd (prodE_is.1 (hh.2.2.2.2 i hin)).1 c8p⟩, (fun h => by first | rfl | exact absurd h (by decide) | exact absurd h c8p | exact absurd h c1p), H.pm (Pm.nil _)⟩)
     | (have q_ := c5p
        exact ⟨_, res2 rfl rfl rfl, _, _, rfl, ⟨fun _ => ⟨hG, c1p, by omega, fun j hj => ha j (by omega), fun j hj => hp j (by omega)⟩, fun _ => rfl⟩, (fun h => by first | rfl | exact absurd h (by decide) | exact absurd h c8p | exact absurd h c1p), H.pm (Pm.nil _)⟩)
     | (have q_ := c4p
        exact ⟨_, res2 rfl rfl rfl, _, _, rfl, ⟨fun h => absurd h (by decide), fun hh => ((hh.2.2.2.1 i hin).elim (fun h => absurd h g44p) (fun h => h.elim (fun h => absurd h g48p) (fun h => absurd h (of_ndec (of_n_t c4)))))⟩, (fun h => by first | rfl | exact absurd h (by decide) | exact absurd h c8p | exact absurd h c1p), H.pm (Pm.nil _)⟩)
     | (have q_ := c2p
        exact ⟨_, res2 rfl rfl rfl, _, _, rfl, ⟨fun h => absurd h (by decide), fun hh => by have h_ := hh.2.2.1; omega⟩, (fun h => by first | rfl | exact absurd h (by decide) | exact absurd h c8p | exact absurd h c1p), H.pm (Pm.nil _)⟩)
     | (have q_ := c1p
        exact ⟨_, res2 rfl rfl rfl, _, _, rfl, ⟨fun h => absurd h c1p, fun hh => absurd hh.2.1 c1p⟩, (fun h => by first | rfl | exact absurd h (by decide) | exact absurd h c8p | exact absurd h c1p), H.pm (Pm.nil _)⟩)
     | exact ⟨_, res2 rfl rfl rfl, _, _, rfl, ⟨fun h => absurd h (by decide), fun hh => by have h_ := checkG_t hh.1; omega⟩, (fun h => by first | rfl | exact absurd h (by decide) | exact absurd h c8p | exact absurd h c1p), H.pm (Pm.nil _)⟩
  have c5p := oT c5
  have hin : i < g.prods.length := by omega
  have hpok := hG.2.2 i hin
  have hpl := hpok.1
  refine wc_skip ?_
  refine wc_seq ?_
  refine wc_block ?_
  refine wcR ?_
  refine wM ?_
  refine wV (v_idx Try.underlying42 sz73 hrg.q.ad rfl rfl (by omega) (by omega)) ?_
  obtain ⟨R65_, c65_, B65_, k65_, hc65_, hl65_, hR65_, hB65_⟩ := hrg.q.atPr (i := i) (by omega)
  refine wV (v_loadN (cs := [.int .i64 (g.prods.getD i pr0).left, .slice R65_ (g.prods.getD i pr0).right.length c65_, .int .i64 (g.prods.getD i pr0).level, .int .i64 (g.prods.getD i pr0).act.x.kind, .int .i64 (g.prods.getD i pr0).act.x.at_, .string (g.prods.getD i pr0).act.x.name, .slice B65_ (g.prods.getD i pr0).act.kids.length k65_]) agg73 rfl rfl (fun q_ u_ hu_ => H.cell (hc65_ q_ u_ hu_))) ?_
  refine wl_alloc (cs := [.int .i64 0, .slice none 0 0, .int .i64 0, .int .i64 0, .int .i64 0, .string ⟨#[]⟩, .slice none 0 0]) H rfl zv73 rfl ?_
  intro b13 w7 hb13 H8
  refine wA ?_
  refine wl_store (vs := [_, _, _, _, _, _, _]) H8 (by repeat constructor) sz73 rfl rfl rfl rfl rfl (by (repeat constructor)) ?_
  intro w9 H10 hw9
  refine wl_nil ?_
  refine wcR ?_
  refine wA ?_
  refine wl_nil ?_
  refine wc_seq ?_
  refine wcR ?_
  refine wV (v_fb (o2 := 1) fa73_1 rfl rfl) ?_
  refine wV (v_load one51 rfl (H10.at (by repeat constructor) rfl)) ?_
  refine wV (v_len Try.underlying51 rfl) ?_
  refine wM ?_
  refine wl_nil ?_
  refine wc_block ?_
  refine wc_loop (σ := Nat × Option Addr × Nat) (fun s => [(2, .slice Ty types.length kt), (3, .pointer (some ⟨b3, 0, none⟩)), (8, .pointer (some ⟨bd, 0, none⟩)), (59, .slice a.q g.prods.length a.cq), (60, .int .i64 g.prods.length), (12, .int .i64 i), (13, .pointer (some ⟨b13, 0, none⟩)), (61, .int .i64 i), (67, .slice R65_ (g.prods.getD i pr0).right.length c65_), (68, .int .i64 (g.prods.getD i pr0).right.length), (69, .int .i64 s.1), (14, .slice s.2.1 (((g.prods.getD i pr0).right.take s.1).map (symT g types)).length s.2.2)]) (fun s W => s.1 ≤ (g.prods.getD i pr0).right.length ∧ Holds w [Row fStr 9 (.slice s.2.1 (((g.prods.getD i pr0).right.take s.1).map (symT g types)).length s.2.2) (((g.prods.getD i pr0).right.take s.1).map (symT g types)), Blk b13 73 [.int .i64 (g.prods.getD i pr0).left, .slice R65_ (g.prods.getD i pr0).right.length c65_, .int .i64 (g.prods.getD i pr0).level, .int .i64 (g.prods.getD i pr0).act.x.kind, .int .i64 (g.prods.getD i pr0).act.x.at_, .string (g.prods.getD i pr0).act.x.name, .slice B65_ (g.prods.getD i pr0).act.kids.length k65_], Blk bd 126 [.map (some b0), .map (some b1), .map (some b2)], Mp KS Value.bool b0 l.length (metF (nms l)), Mp KS VId b1 (flat l).length fC, Mp KS Value.string b2 (flat l).length (ofF (flat l)), Blk b3 44 [.slice a.k g.kinds.length a.ck, .slice a.p g.precs.length a.cp, .slice a.r g.rules.length a.cr, .slice a.q g.prods.length a.cq, .int .i64 g.start]] W) (fun s => (g.prods.getD i pr0).right.length - s.1) (0, none, 0) (sc rfl (sc rfl (sc rfl (sc rfl (sc rfl (sc rfl (sc rfl (sc rfl (sc rfl (sc rfl (sc rfl (sc rfl (sn _))))))))))))) ⟨Nat.zero_le _, (H10.nilrow 9 1).pm (by repeat constructor)⟩ ?_
  rintro ⟨j, Asy, csy⟩ W2 ⟨hj, H⟩
  dsimp only at hj H ⊢
  refine wcR ?_
  refine wV (v_lss rfl rfl) ?_
  refine wl_nil ?_
  refine wc_seq ?_
  refine wc_cond rfl (fun c6 => ?_) (fun c6 => ?_)
  ·have c6p := oT c6
   have hjn : j < (g.prods.getD i pr0).right.length := by omega
   have hxj := hpok.2.1 j hjn
   refine wc_skip ?_
   refine wc_cut (σ := Option Addr × Nat) (fun s' => [(2, .slice Ty types.length kt), (3, .pointer (some ⟨b3, 0, none⟩)), (8, .pointer (some ⟨bd, 0, none⟩)), (59, .slice a.q g.prods.length a.cq), (60, .int .i64 g.prods.length), (12, .int .i64 i), (13, .pointer (some ⟨b13, 0, none⟩)), (61, .int .i64 i), (67, .slice R65_ (g.prods.getD i pr0).right.length c65_), (68, .int .i64 (g.prods.getD i pr0).right.length), (69, .int .i64 j), (14, .slice s'.1 (((g.prods.getD i pr0).right.take (j + 1)).map (symT g types)).length s'.2)]) (fun s' W => Holds w [Row fStr 9 (.slice s'.1 (((g.prods.getD i pr0).right.take (j + 1)).map (symT g types)).length s'.2) (((g.prods.getD i pr0).right.take (j + 1)).map (symT g types)), Blk b13 73 [.int .i64 (g.prods.getD i pr0).left, .slice R65_ (g.prods.getD i pr0).right.length c65_, .int .i64 (g.prods.getD i pr0).level, .int .i64 (g.prods.getD i pr0).act.x.kind, .int .i64 (g.prods.getD i pr0).act.x.at_, .string (g.prods.getD i pr0).act.x.name, .slice B65_ (g.prods.getD i pr0).act.kids.length k65_], Blk bd 126 [.map (some b0), .map (some b1), .map (some b2)], Mp KS Value.bool b0 l.length (metF (nms l)), Mp KS VId b1 (flat l).length fC, Mp KS Value.string b2 (flat l).length (ofF (flat l)), Blk b3 44 [.slice a.k g.kinds.length a.ck, .slice a.p g.precs.length a.cp, .slice a.r g.rules.length a.cr, .slice a.q g.prods.length a.cq, .int .i64 g.start]] W) ?_ ?_
   rotate_left
   ·rintro ⟨Aq, cq⟩ Wm H
    dsimp only at H ⊢
    refine wc_region ?_
    refine wV (v_addi rfl rfl (by omega)) ?_
    refine wM ?_
    refine wl_nil ?_
    exact ⟨(j + 1, Aq, cq), (sc rfl (sc rfl (sc rfl (sc rfl (sc rfl (sc rfl (sc rfl (sc rfl (sc rfl (sc rfl (sc rfl (sc rfl (sn _))))))))))))), ⟨by dsimp only; omega, H.pm (by repeat constructor)⟩, by dsimp only; omega⟩
   refine wc_block ?_
   refine wcR ?_
   refine wV (v_idx Try.underlying51 sz3 hR65_.ad rfl rfl (by omega) (by omega)) ?_
   refine wV (v_load one3 rfl (H.cell (hR65_.at1N (i := j) (by omega)))) ?_
   refine wA ?_
   refine wl_nil ?_
   refine wcR ?_
   refine wM ?_
   refine wV (v_fb (o2 := 0) fa44_0 rfl rfl) ?_
   refine wV (v_load one40 rfl (H.at (by repeat constructor) rfl)) ?_
   refine wV (v_len Try.underlying40 rfl) ?_
   refine wV (v_lss rfl rfl) ?_
   refine wl_nil ?_
   refine wc_cond rfl (fun c7 => ?_) (fun c7 => ?_)
   ·have c7p := oT c7
    refine wc_region ?_
    refine wM ?_
    refine wl_slit (v := .string ⟨#[]⟩) (z := [.string ⟨#[]⟩]) (cs := [.string tx]) (sz := 1) H rfl Try.underlying40 sz9 zv9 (by decide) (by decide) (by kernel_rfl) rfl (by repeat constructor) ?_
    intro b79 w11 hb79 H11 hs11
    refine wl_app1 (f := fStr) (xs := (((g.prods.getD i pr0).right.take j).map (symT g types))) (y' := tx) H11 (fun v' => (by repeat constructor)) (by repeat constructor) rfl Try.underlying40 info9 rfl (by decide) rfl rfl rfl (by rw [map_take_len _ hj]; omega) (by decide) ?_
    intro A80 c80 w12 H12 hs12
    refine wA ?_
    refine wl_nil ?_
    have hms := map_succ (symT g types) 0 hjn
    first
      | (rw [show symT g types ((g.prods.getD i pr0).right.getD j 0) = tx from if_pos c7p] at hms
         exact ⟨(A80, c80), by (dsimp only; rw [hms]; exact (sc rfl (sc rfl (sc rfl (sc rfl (sc rfl (sc rfl (sc rfl (sc rfl (sc rfl (sc rfl (sc rfl (sc rfl (sn _)))))))))))))), by (dsimp only; rw [hms]; exact H12.pm (by repeat constructor))⟩)
      | (rw [show symT g types ((g.prods.getD i pr0).right.getD j 0) = (types.getD (((g.prods.getD i pr0).right.getD j 0) - g.kinds.length).toNat s0) from if_neg c7p] at hms
         exact ⟨(A91, c91), by (dsimp only; rw [hms]; exact (sc rfl (sc rfl (sc rfl (sc rfl (sc rfl (sc rfl (sc rfl (sc rfl (sc rfl (sc rfl (sc rfl (sc rfl (sn _)))))))))))))), by (dsimp only; rw [hms]; exact H12.pm (by repeat constructor))⟩)
   have c7p := oF c7
   refine wc_region ?_
   refine wM ?_
   refine wM ?_
   refine wM ?_
   refine wV (v_fb (o2 := 0) fa44_0 rfl rfl) ?_
   refine wV (v_load one40 rfl (H.at (by repeat constructor) rfl)) ?_
   refine wV (v_len Try.underlying40 rfl) ?_
   refine wV (v_subi rfl rfl (by omega)) ?_
   refine wV (v_idx Try.underlying40 sz9 hty.ad rfl rfl (by omega) (by omega)) ?_
   refine wV (v_load one9 rfl (H.cell (hty.at1s (by omega) (by omega)))) ?_
   refine wl_slit (v := .string ⟨#[]⟩) (z := [.string ⟨#[]⟩]) (cs := [.string (types.getD (((g.prods.getD i pr0).right.getD j 0) - g.kinds.length).toNat s0)]) (sz := 1) H rfl Try.underlying40 sz9 zv9 (by decide) (by decide) (by kernel_rfl) rfl (by repeat constructor) ?_
   intro b90 w13 hb90 H13 hs13
   refine wl_app1 (f := fStr) (xs := (((g.prods.getD i pr0).right.take j).map (symT g types))) (y' := (types.getD (((g.prods.getD i pr0).right.getD j 0) - g.kinds.length).toNat s0)) H13 (fun v' => (by repeat constructor)) (by repeat constructor) rfl Try.underlying40 info9 rfl (by decide) rfl rfl rfl (by rw [map_take_len _ hj]; omega) (by decide) ?_
   intro A91 c91 w14 H14 hs14
   refine wA ?_
   refine wl_nil ?_
   have hms := map_succ (symT g types) 0 hjn
   first
     | (rw [show symT g types ((g.prods.getD i pr0).right.getD j 0) = tx from if_pos c7p] at hms
        exact ⟨(A80, c80), by (dsimp only; rw [hms]; exact (sc rfl (sc rfl (sc rfl (sc rfl (sc rfl (sc rfl (sc rfl (sc rfl (sc rfl (sc rfl (sc rfl (sc rfl (sn _)))))))))))))), by (dsimp only; rw [hms]; exact H14.pm (by repeat constructor))⟩)
     | (rw [show symT g types ((g.prods.getD i pr0).right.getD j 0) = (types.getD (((g.prods.getD i pr0).right.getD j 0) - g.kinds.length).toNat s0) from if_neg c7p] at hms
        exact ⟨(A91, c91), by (dsimp only; rw [hms]; exact (sc rfl (sc rfl (sc rfl (sc rfl (sc rfl (sc rfl (sc rfl (sc rfl (sc rfl (sc rfl (sc rfl (sc rfl (sn _)))))))))))))), by (dsimp only; rw [hms]; exact H14.pm (by repeat constructor))⟩)
  have c6p := oF c6
  rw [List.take_of_length_le (show (g.prods.getD i pr0).right.length ≤ j by omega)] at H ⊢
  refine wc_exit ?_
  refine wcR ?_
  refine wM ?_
  refine wV (v_fb (o2 := 3) fa73_3 rfl rfl) ?_
  refine wV (v_loadN (cs := [_, _, _, _]) agg69 rfl rfl (H.atsN (k := 4) (by repeat constructor) rfl)) ?_
  refine wM ?_
  refine wl_call en49 rfl rfl (typed_calls (g.prods.getD i pr0).act _ Asy B65_ k65_ csy bd b0 b1 b2 (nms l) ((g.prods.getD i pr0).right.map (symT g types)) fC (dsr_of hC H (by repeat constructor) (by repeat constructor) (by repeat constructor) (by repeat constructor)) (H.rrd (f := fStr) (e := 9) (A := Asy) (xs := ((g.prods.getD i pr0).right.map (symT g types))) (by repeat constructor)) (hB65_.below H.old) (by rw [List.length_map]; exact (hG.acts i hin).1) (by have := (hG.acts i hin).2; omega)) ?_
  rintro _ w15 ⟨rfl, Hc⟩
  have H16 := H.call0 Hc
  refine wM ?_
  refine wV (v_extract rfl rfl) ?_
  refine wV (v_extract rfl rfl) ?_
  refine wA ?_
  refine wA ?_
  refine wl_nil ?_
  refine wc_seq ?_
  refine wcR ?_
  refine wM ?_
  refine wV (v_neq rfl rfl) ?_
  refine wl_nil ?_
  refine wc_cond rfl (fun c8 => ?_) (fun c8 => ?_)
  ·have c8p := of_nd_t c8
   refine wcR ?_
   refine wM ?_
   refine wM ?_
   refine wA ?_
   refine wA ?_
   refine wl_nil ?_
   refine wc_ret ?_
   first
     | (have q_ := c9p
        exact ⟨_, res2 rfl rfl rfl, _, _, rfl, ⟨fun h => absurd h (by decide), fun hh => absurd (prodE_is.1 (hh.2.2.2.2 i hin)).2 c9p⟩, (fun h => by first | rfl | exact absurd h (by decide) | exact absurd h c8p | exact absurd h c1p), H16.pm (Pm.nil _)⟩)
     | (have q_ := c8p
        exact ⟨_, res2 rfl rfl rfl, _, _, rfl, ⟨fun h => absurd h c8p, fun hh => absurd (prodE_is.1 (hh.2.2.2.2 i hin)).1 c8p⟩, (fun h => by first | rfl | exact absurd h (by decide) | exact absurd h c8p | exact absurd h c1p), H16.pm (Pm.nil _)⟩)
     | (have q_ := c5p
        exact ⟨_, res2 rfl rfl rfl, _, _, rfl, ⟨fun _ => ⟨hG, c1p, by omega, fun j hj => ha j (by omega), fun j hj => hp j (by omega)⟩, fun _ => rfl⟩, (fun h => by first | rfl | exact absurd h (by decide) | exact absurd h c8p | exact absurd h c1p), H16.pm (Pm.nil _)⟩)
     | (have q_ := c4p
        exact ⟨_, res2 rfl rfl rfl, _, _, rfl, ⟨fun h => absurd h (by decide), fun hh => ((hh.2.2.2.1 i hin).elim (fun h => absurd h g44p) (fun h => h.elim (fun h => absurd h g48p) (fun h => absurd h (of_ndec (of_n_t c4)))))⟩, (fun h => by first | rfl | exact absurd h (by decide) | exact absurd h c8p | exact absurd h c1p), H16.pm (Pm.nil _)⟩)
     | (have q_ := c2p
        exact ⟨_, res2 rfl rfl rfl, _, _, rfl, ⟨fun h => absurd h (by decide), fun hh => by have h_ := hh.2.2.1; omega⟩, (fun h => by first | rfl | exact absurd h (by decide) | exact absurd h c8p | exact absurd h c1p), H16.pm (Pm.nil _)⟩)
     | (have q_ := c1p
        exact ⟨_, res2 rfl rfl rfl, _, _, rfl, ⟨fun h => absurd h c1p, fun hh => absurd hh.2.1 c1p⟩, (fun h => by first | rfl | exact absurd h (by decide) | exact absurd h c8p | exact absurd h c1p), H16.pm (Pm.nil _)⟩)
     | exact ⟨_, res2 rfl rfl rfl, _, _, rfl, ⟨fun h => absurd h (by decide), fun hh => by have h_ := checkG_t hh.1; omega⟩, (fun h => by first | rfl | exact absurd h (by decide) | exact absurd h c8p | exact absurd h c1p), H16.pm (Pm.nil _)⟩
  have c8p := of_nd_f c8
  refine wc_skip ?_
  refine wcR ?_
  refine wM ?_
  refine wM ?_
  refine wV (v_fb (o2 := 0) fa73_0 rfl rfl) ?_
  refine wV (v_load one3 rfl (H16.at (by repeat constructor) rfl)) ?_
  refine wV (v_idx Try.underlying40 sz9 hty.ad rfl rfl (by omega) (by omega)) ?_
  refine wV (v_load one9 rfl (H16.cell (hty.at1s (by omega) (by omega)))) ?_
  refine wV (v_neqs rfl rfl) ?_
  refine wl_nil ?_
  refine wc_cond rfl (fun c9 => ?_) (fun c9 => ?_)
  rotate_left
  ·have c9p := of_nd_f c9
   refine wc_skip ?_
   refine wc_region ?_
   refine wV (v_addi rfl rfl (by omega)) ?_
   refine wM ?_
   refine wl_nil ?_
   exact ⟨i + 1, (sc rfl (sc rfl (sc rfl (sc rfl (sc rfl (sc rfl (sn _))))))), ⟨⟨by omega, upto_succ hp (prodE_is.2 ⟨c8p, c9p⟩)⟩, H16.pm (by repeat constructor)⟩, by omega⟩
  have c9p := of_nd_t c9
  refine wcR ?_
  refine wM ?_
  refine wA ?_
  refine wA ?_
  refine wl_nil ?_
  refine wc_ret ?_
  first
    | (have q_ := c9p
       exact ⟨_, res2 rfl rfl rfl, _, _, rfl, ⟨fun h => absurd h (by decide), fun hh => absurd (prodE_is.1 (hh.2.2.2.2 i hin)).2 c9p⟩, (fun h => by first | rfl | exact absurd h (by decide) | exact absurd h c8p | exact absurd h c1p), H16.pm (Pm.nil _)⟩)
    | (have q_ := c8p
       exact ⟨_, res2 rfl rfl rfl, _, _, rfl, ⟨fun h => absurd h c8p, fun hh => absurd (prodE_is.1 (hh.2.2.2.2 i hin)).1 c8p⟩, (fun h => by first | rfl | exact absurd h (by decide) | exact absurd h c8p | exact absurd h c1p), H16.pm (Pm.nil _)⟩)
    | (have q_ := c5p
       exact ⟨_, res2 rfl rfl rfl, _, _, rfl, ⟨fun _ => ⟨hG, c1p, by omega, fun j hj => ha j (by omega), fun j hj => hp j (by omega)⟩, fun _ => rfl⟩, (fun h => by first | rfl | exact absurd h (by decide) | exact absurd h c8p | exact absurd h c1p), H16.pm (Pm.nil _)⟩)
    | (have q_ := c4p
       exact ⟨_, res2 rfl rfl rfl, _, _, rfl, ⟨fun h => absurd h (by decide), fun hh => ((hh.2.2.2.1 i hin).elim (fun h => absurd h g44p) (fun h => h.elim (fun h => absurd h g48p) (fun h => absurd h (of_ndec (of_n_t c4)))))⟩, (fun h => by first | rfl | exact absurd h (by decide) | exact absurd h c8p | exact absurd h c1p), H16.pm (Pm.nil _)⟩)
    | (have q_ := c2p
       exact ⟨_, res2 rfl rfl rfl, _, _, rfl, ⟨fun h => absurd h (by decide), fun hh => by have h_ := hh.2.2.1; omega⟩, (fun h => by first | rfl | exact absurd h (by decide) | exact absurd h c8p | exact absurd h c1p), H16.pm (Pm.nil _)⟩)
    | (have q_ := c1p
       exact ⟨_, res2 rfl rfl rfl, _, _, rfl, ⟨fun h => absurd h c1p, fun hh => absurd hh.2.1 c1p⟩, (fun h => by first | rfl | exact absurd h (by decide) | exact absurd h c8p | exact absurd h c1p), H16.pm (Pm.nil _)⟩)
    | exact ⟨_, res2 rfl rfl rfl, _, _, rfl, ⟨fun h => absurd h (by decide), fun hh => by have h_ := checkG_t hh.1; omega⟩, (fun h => by first | rfl | exact absurd h (by decide) | exact absurd h c8p | exact absurd h c1p), H16.pm (Pm.nil _)⟩
end Go.Proofs.Ytgdemplcpcacaaa.PCheck

/-! A node's type: the program's answer. -/
namespace Go.Proofs.Ytgdemplcpcacaaa.PTyped
open Go Go.RowKit Go.Proofs.YtgdemplcpcacaaaFx Go.Proofs.Ytgdemplcpcacaaa.NameW Go.Proofs.Ytgdemplcpcacaaa.KindsW Go.Proofs.Ytgdemplcpcacaaa.KnownD Go.Proofs.Ytgdemplcpcacaaa.TypD
theorem agg24 : Agg Try.prog 24 4 := agg_of Try.underlying24 (by kernel_rfl)
theorem en48 : Enters Try.prog 48 := enters Try.func48 (by kernel_rfl) rfl
theorem en53 : Enters Try.prog 53 := enters Try.func53 (by kernel_rfl) rfl
theorem fa126_1 : FieldAt Try.prog 126 1 1 := field_at (sz := 0) Try.underlying126 rfl (by kernel_rfl) rfl
theorem fa126_2 : FieldAt Try.prog 126 2 2 := field_at (sz := 0) Try.underlying126 rfl (by kernel_rfl) rfl
theorem fa24_0 : FieldAt Try.prog 24 0 0 := field_at (sz := 0) Try.underlying24 rfl (by kernel_rfl) rfl
theorem fa24_1 : FieldAt Try.prog 24 1 1 := field_at (sz := 0) Try.underlying24 rfl (by kernel_rfl) rfl
theorem fa24_2 : FieldAt Try.prog 24 2 2 := field_at (sz := 0) Try.underlying24 rfl (by kernel_rfl) rfl
theorem fa24_3 : FieldAt Try.prog 24 3 3 := field_at (sz := 0) Try.underlying24 rfl (by kernel_rfl) rfl
theorem fa80_1 : FieldAt Try.prog 80 1 1 := field_at (sz := 0) Try.underlying80 rfl (by kernel_rfl) rfl
theorem mixed : Try.prog.follows .mixedOrders = true := by kernel_rfl
theorem one123 : One Try.prog 123 := one_of Try.underlying123 rfl (by kernel_rfl)
theorem one124 : One Try.prog 124 := one_of Try.underlying124 rfl (by kernel_rfl)
theorem one22 : One Try.prog 22 := one_of Try.underlying22 rfl (by kernel_rfl)
theorem one3 : One Try.prog 3 := one_of Try.underlying3 rfl (by kernel_rfl)
theorem one40 : One Try.prog 40 := one_of Try.underlying40 rfl (by kernel_rfl)
theorem one9 : One Try.prog 9 := one_of Try.underlying9 rfl (by kernel_rfl)
theorem sz24 : ∀ W, (sizeOf 24).run Try.prog W = .ok 4 W := size_of (by kernel_rfl)
theorem sz80 : ∀ W, (sizeOf 80).run Try.prog W = .ok 2 W := size_of (by kernel_rfl)
theorem sz9 : ∀ W, (sizeOf 9).run Try.prog W = .ok 1 W := size_of (by kernel_rfl)
theorem zv24 : ∀ W, (zeroValue 24).run Try.prog W = .ok (.agg #[.int .i64 0, .string ⟨#[]⟩, .int .i64 0, .slice none 0 0]) W := zero_of (by kernel_rfl)
theorem zv80 : ∀ W, (zeroValue 80).run Try.prog W = .ok (.agg #[.string ⟨#[]⟩, .slice none 0 0]) W := zero_of (by kernel_rfl)
theorem zv9 : ∀ W, (zeroValue 9).run Try.prog W = .ok (.string ⟨#[]⟩) W := zero_of (by kernel_rfl)

def ValDOk (P : List (ByteArray × Ct)) (t : Nd) : Prop := ∀ (w : World) (B : Option Addr) (k bd b0 b1 b2 : Nat) (ns : List ByteArray) (name : ByteArray) (fC : ByteArray → Option Value) (hds : DsR w bd b0 b1 b2 ns P fC) (hr : Rd (kTr fNd) w B t.kids) (hf : t.All smallN), Calls Try.prog 53 #[.pointer (some ⟨bd, 0, none⟩), .agg #[.int .i64 t.x.kind, .string t.x.name, .int .i64 t.x.tok, .slice B t.kids.length k], .string name] w fun e w' => ∃ v, e = .returned v ∧ v = .bool (dec (fitN P t name)) ∧ Holds w [] w'

set_option maxHeartbeats 6400000 in
set_option maxRecDepth 100000 in
theorem dvalue_step {P : List (ByteArray × Ct)} {t : Nd} {w : World} {B : Option Addr} {k bd b0 b1 b2 : Nat} {ns : List ByteArray} {name : ByteArray} {fC : ByteArray → Option Value} (hds : DsR w bd b0 b1 b2 ns P fC) (hr : Rd (kTr fNd) w B t.kids) (hf : t.All smallN) (ih : ∀ t' ∈ t.kids, ValDOk P t') : Calls Try.prog 53 #[.pointer (some ⟨bd, 0, none⟩), .agg #[.int .i64 t.x.kind, .string t.x.name, .int .i64 t.x.tok, .slice B t.kids.length k], .string name] w fun e w' => ∃ v, e = .returned v ∧ v = .bool (dec (fitN P t name)) ∧ Holds w [] w' := by
  obtain ⟨⟨hsz, hkk⟩, hks⟩ := (Tr.All_eq t).1 hf
  have hdc := hds.c
  have hC := hds.r
  obtain ⟨N1, S1, hM1⟩ := hds.m1
  obtain ⟨N2, S2, hM2⟩ := hds.m2
  refine calls_of Try.func53 rfl Try.ntmps53 rfl ?_
  have H := Holds.start w
  refine wcR ?_
  refine wl_box (cs := [_, _, _, _]) H rfl rfl rfl ?_
  intro b4 w1 hb4 H2
  refine wA ?_
  refine wl_nil ?_
  refine wc_seq ?_
  refine wcR ?_
  refine wV (v_fb (o2 := 0) fa24_0 rfl rfl) ?_
  refine wV (v_load one3 rfl (H2.at (by repeat constructor) rfl)) ?_
  refine wl_nil ?_
  refine wc_block ?_
  refine wcR ?_
  refine wV (v_eql rfl rfl) ?_
  refine wA ?_
  refine wl_nil ?_
  refine wc_cond rfl (fun c0 => ?_) (fun c0 => ?_)
  ·have c0p := oT c0
   refine wcR ?_
   refine wM ?_
   refine wV (v_eqls rfl rfl) ?_
   refine wM ?_
   refine wl_guard rfl rfl rfl (fun g17 => ?_) (fun g17 => ?_)
   rotate_left
   ·have g17p := oF g17
    refine wF g17 ?_
    refine wF g17 ?_
    refine wV (v_pick_f rfl g17 rfl) ?_
    refine wM ?_
    refine wF rfl ?_
    refine wF rfl ?_
    refine wF rfl ?_
    refine wV (v_pick_f rfl rfl rfl) ?_
    refine wM ?_
    refine wF rfl ?_
    refine wF rfl ?_
    refine wF rfl ?_
    refine wF rfl ?_
    refine wV (v_pick_f rfl rfl rfl) ?_
    refine wA ?_
    refine wl_nil ?_
    refine wc_ret ?_
    first
      | (have q_ := c0p
         first
           | exact ⟨_, res1 rfl rfl, congrArg Value.bool (dec_eq ⟨fun hd => (fit0 c0p).2 ⟨g17p, g22p, by omega, by (have h_ := oT hd; omega)⟩, fun hh => decide_eq_true (by have h_ := (fit0 c0p).1 hh; omega)⟩), H2.pm (Pm.nil _)⟩
           | exact ⟨_, res1 rfl rfl, congrArg Value.bool (dec_f fun hh => by (have h_ := (fit0 c0p).1 hh; first | omega | exact g17p h_.1 | exact g22p h_.2.1)).symm, H2.pm (Pm.nil _)⟩)
      | (have q_ := c1p
         first
           | exact ⟨_, res1 rfl rfl, congrArg Value.bool (dec_eq ⟨fun hd => (fit1 c1p).2 ⟨g37p, by omega, g47p, by (have h_ := oT hd; omega)⟩, fun hh => decide_eq_true (by have h_ := (fit1 c1p).1 hh; omega)⟩), H2.pm (Pm.nil _)⟩
           | exact ⟨_, res1 rfl rfl, congrArg Value.bool (dec_f fun hh => by (have h_ := (fit1 c1p).1 hh; first | omega | exact g37p h_.1 | exact g47p h_.2.2.1)).symm, H2.pm (Pm.nil _)⟩)
      | (have q_ := c2p
         first
           | exact ⟨_, res1 rfl rfl, congrArg Value.bool (dec_eq ⟨fun hd => (fit2 c2p).2 ⟨g57p, by omega, by (have h_ := oT hd; omega)⟩, fun hh => decide_eq_true (by have h_ := (fit2 c2p).1 hh; omega)⟩), H2.pm (Pm.nil _)⟩
           | exact ⟨_, res1 rfl rfl, congrArg Value.bool (dec_f fun hh => by (have h_ := (fit2 c2p).1 hh; first | omega | exact g57p h_.1 | exact g57p h_.1)).symm, H2.pm (Pm.nil _)⟩)
      | exact ⟨_, res1 rfl rfl, congrArg Value.bool (dec_f (fitx c0p c1p c2p c3p)).symm, H2.pm (Pm.nil _)⟩
      | (have q_ := c6p
         exact ⟨_, res1 rfl rfl, congrArg Value.bool (dec_f fun hh => of_ndec (of_n_t c6) ((fitNs_iff _ _).1 ((fit3_f c3p hp).1 hh).2.2.2 i hin)).symm, H2.pm (Pm.nil _)⟩)
      | (have q_ := c5p
         exact ⟨_, res1 rfl rfl, congrArg Value.bool (dec_t ((fit3_f c3p hp).2 ⟨g93p, by omega, by omega, (fitNs_iff _ _).2 fun j hj => ha j (by omega)⟩)).symm, H2.pm (Pm.nil _)⟩)
      | (exact ⟨_, res1 rfl rfl, congrArg Value.bool (dec_f fun hh => by
           obtain ⟨p, hp, h1_, h2_, h3_, _⟩ := (fit3 c3p).1 hh
           first
             | (have h_ := hq4.symm.trans g82p; rw [hp] at h_; cases h_; done)
             | (rw [ofF_get hp] at g93p; exact g93p h1_)
             | omega
             | (have h_ := hq5 p hp; rw [h_] at c4p; omega)).symm, H2.pm (Pm.nil _)⟩)
   have g17p := oT g17
   refine wV (v_fb (o2 := 1) fa24_1 rfl rfl) ?_
   refine wO g17 ?_
   refine wV (v_load one9 rfl (H2.at (by repeat constructor) rfl)) ?_
   refine wO g17 ?_
   refine wV (v_eqls rfl rfl) ?_
   refine wV (v_pick_t rfl g17 rfl) ?_
   refine wM ?_
   refine wl_guard rfl rfl rfl (fun g22 => ?_) (fun g22 => ?_)
   rotate_left
   ·have g22p := oF g22
    refine wF g22 ?_
    refine wF g22 ?_
    refine wV (v_pick_f rfl g22 rfl) ?_
    refine wM ?_
    refine wF rfl ?_
    refine wF rfl ?_
    refine wF rfl ?_
    refine wF rfl ?_
    refine wV (v_pick_f rfl rfl rfl) ?_
    refine wA ?_
    refine wl_nil ?_
    refine wc_ret ?_
    first
      | (have q_ := c0p
         first
           | exact ⟨_, res1 rfl rfl, congrArg Value.bool (dec_eq ⟨fun hd => (fit0 c0p).2 ⟨g17p, g22p, by omega, by (have h_ := oT hd; omega)⟩, fun hh => decide_eq_true (by have h_ := (fit0 c0p).1 hh; omega)⟩), H2.pm (Pm.nil _)⟩
           | exact ⟨_, res1 rfl rfl, congrArg Value.bool (dec_f fun hh => by (have h_ := (fit0 c0p).1 hh; first | omega | exact g17p h_.1 | exact g22p h_.2.1)).symm, H2.pm (Pm.nil _)⟩)
      | (have q_ := c1p
         first
           | exact ⟨_, res1 rfl rfl, congrArg Value.bool (dec_eq ⟨fun hd => (fit1 c1p).2 ⟨g37p, by omega, g47p, by (have h_ := oT hd; omega)⟩, fun hh => decide_eq_true (by have h_ := (fit1 c1p).1 hh; omega)⟩), H2.pm (Pm.nil _)⟩
           | exact ⟨_, res1 rfl rfl, congrArg Value.bool (dec_f fun hh => by (have h_ := (fit1 c1p).1 hh; first | omega | exact g37p h_.1 | exact g47p h_.2.2.1)).symm, H2.pm (Pm.nil _)⟩)
      | (have q_ := c2p
         first
           | exact ⟨_, res1 rfl rfl, congrArg Value.bool (dec_eq ⟨fun hd => (fit2 c2p).2 ⟨g57p, by omega, by (have h_ := oT hd; omega)⟩, fun hh => decide_eq_true (by have h_ := (fit2 c2p).1 hh; omega)⟩), H2.pm (Pm.nil _)⟩
           | exact ⟨_, res1 rfl rfl, congrArg Value.bool (dec_f fun hh => by (have h_ := (fit2 c2p).1 hh; first | omega | exact g57p h_.1 | exact g57p h_.1)).symm, H2.pm (Pm.nil _)⟩)
      | exact ⟨_, res1 rfl rfl, congrArg Value.bool (dec_f (fitx c0p c1p c2p c3p)).symm, H2.pm (Pm.nil _)⟩
      | (have q_ := c6p
         exact ⟨_, res1 rfl rfl, congrArg Value.bool (dec_f fun hh => of_ndec (of_n_t c6) ((fitNs_iff _ _).1 ((fit3_f c3p hp).1 hh).2.2.2 i hin)).symm, H2.pm (Pm.nil _)⟩)
      | (have q_ := c5p
         exact ⟨_, res1 rfl rfl, congrArg Value.bool (dec_t ((fit3_f c3p hp).2 ⟨g93p, by omega, by omega, (fitNs_iff _ _).2 fun j hj => ha j (by omega)⟩)).symm, H2.pm (Pm.nil _)⟩)
      | (exact ⟨_, res1 rfl rfl, congrArg Value.bool (dec_f fun hh => by
           obtain ⟨p, hp, h1_, h2_, h3_, _⟩ := (fit3 c3p).1 hh
           first
             | (have h_ := hq4.symm.trans g82p; rw [hp] at h_; cases h_; done)
             | (rw [ofF_get hp] at g93p; exact g93p h1_)
             | omega
             | (have h_ := hq5 p hp; rw [h_] at c4p; omega)).symm, H2.pm (Pm.nil _)⟩)
   have g22p := oT g22
   refine wV (v_fb (o2 := 2) fa24_2 rfl rfl) ?_
   refine wO g22 ?_
   refine wV (v_load one3 rfl (H2.at (by repeat constructor) rfl)) ?_
   refine wO g22 ?_
   refine wV (v_eql rfl rfl) ?_
   refine wV (v_pick_t rfl g22 rfl) ?_
   refine wM ?_
   refine wl_guard rfl rfl rfl (fun g27 => ?_) (fun g27 => ?_)
   rotate_left
   ·have g27p := oF g27
    refine wF g27 ?_
    refine wF g27 ?_
    refine wF g27 ?_
    refine wV (v_pick_f rfl g27 rfl) ?_
    refine wA ?_
    refine wl_nil ?_
    refine wc_ret ?_
    first
      | (have q_ := c0p
         first
           | exact ⟨_, res1 rfl rfl, congrArg Value.bool (dec_eq ⟨fun hd => (fit0 c0p).2 ⟨g17p, g22p, by omega, by (have h_ := oT hd; omega)⟩, fun hh => decide_eq_true (by have h_ := (fit0 c0p).1 hh; omega)⟩), H2.pm (Pm.nil _)⟩
           | exact ⟨_, res1 rfl rfl, congrArg Value.bool (dec_f fun hh => by (have h_ := (fit0 c0p).1 hh; first | omega | exact g17p h_.1 | exact g22p h_.2.1)).symm, H2.pm (Pm.nil _)⟩)
      | (have q_ := c1p
         first
           | exact ⟨_, res1 rfl rfl, congrArg Value.bool (dec_eq ⟨fun hd => (fit1 c1p).2 ⟨g37p, by omega, g47p, by (have h_ := oT hd; omega)⟩, fun hh => decide_eq_true (by have h_ := (fit1 c1p).1 hh; omega)⟩), H2.pm (Pm.nil _)⟩
           | exact ⟨_, res1 rfl rfl, congrArg Value.bool (dec_f fun hh => by (have h_ := (fit1 c1p).1 hh; first | omega | exact g37p h_.1 | exact g47p h_.2.2.1)).symm, H2.pm (Pm.nil _)⟩)
      | (have q_ := c2p
         first
           | exact ⟨_, res1 rfl rfl, congrArg Value.bool (dec_eq ⟨fun hd => (fit2 c2p).2 ⟨g57p, by omega, by (have h_ := oT hd; omega)⟩, fun hh => decide_eq_true (by have h_ := (fit2 c2p).1 hh; omega)⟩), H2.pm (Pm.nil _)⟩
           | exact ⟨_, res1 rfl rfl, congrArg Value.bool (dec_f fun hh => by (have h_ := (fit2 c2p).1 hh; first | omega | exact g57p h_.1 | exact g57p h_.1)).symm, H2.pm (Pm.nil _)⟩)
      | exact ⟨_, res1 rfl rfl, congrArg Value.bool (dec_f (fitx c0p c1p c2p c3p)).symm, H2.pm (Pm.nil _)⟩
      | (have q_ := c6p
         exact ⟨_, res1 rfl rfl, congrArg Value.bool (dec_f fun hh => of_ndec (of_n_t c6) ((fitNs_iff _ _).1 ((fit3_f c3p hp).1 hh).2.2.2 i hin)).symm, H2.pm (Pm.nil _)⟩)
      | (have q_ := c5p
         exact ⟨_, res1 rfl rfl, congrArg Value.bool (dec_t ((fit3_f c3p hp).2 ⟨g93p, by omega, by omega, (fitNs_iff _ _).2 fun j hj => ha j (by omega)⟩)).symm, H2.pm (Pm.nil _)⟩)
      | (exact ⟨_, res1 rfl rfl, congrArg Value.bool (dec_f fun hh => by
           obtain ⟨p, hp, h1_, h2_, h3_, _⟩ := (fit3 c3p).1 hh
           first
             | (have h_ := hq4.symm.trans g82p; rw [hp] at h_; cases h_; done)
             | (rw [ofF_get hp] at g93p; exact g93p h1_)
             | omega
             | (have h_ := hq5 p hp; rw [h_] at c4p; omega)).symm, H2.pm (Pm.nil _)⟩)
   have g27p := oT g27
   refine wV (v_fb (o2 := 3) fa24_3 rfl rfl) ?_
   refine wO g27 ?_
   refine wV (v_load one22 rfl (H2.at (by repeat constructor) rfl)) ?_
   refine wO g27 ?_
   refine wV (v_len Try.underlying22 rfl) ?_
   refine wO g27 ?_
   refine wV (v_eql rfl rfl) ?_
   refine wV (v_pick_t rfl g27 rfl) ?_
   refine wA ?_
   refine wl_nil ?_
   refine wc_ret ?_
   first
     | (have q_ := c0p
        first
          | exact ⟨_, res1 rfl rfl, congrArg Value.bool (dec_eq ⟨fun hd => (fit0 c0p).2 ⟨g17p, g22p, by omega, by (have h_ := oT hd; omega)⟩, fun hh => decide_eq_true (by have h_ := (fit0 c0p).1 hh; omega)⟩), H2.pm (Pm.nil _)⟩
          | exact ⟨_, res1 rfl rfl, congrArg Value.bool (dec_f fun hh => by (have h_ := (fit0 c0p).1 hh; first | omega | exact g17p h_.1 | exact g22p h_.2.1)).symm, H2.pm (Pm.nil _)⟩)
     | (have q_ := c1p
        first
          | exact ⟨_, res1 rfl rfl, congrArg Value.bool (dec_eq ⟨fun hd => (fit1 c1p).2 ⟨g37p, by omega, g47p, by (have h_ := oT hd; omega)⟩, fun hh => decide_eq_true (by have h_ := (fit1 c1p).1 hh; omega)⟩), H2.pm (Pm.nil _)⟩
          | exact ⟨_, res1 rfl rfl, congrArg Value.bool (dec_f fun hh => by (have h_ := (fit1 c1p).1 hh; first | omega | exact g37p h_.1 | exact g47p h_.2.2.1)).symm, H2.pm (Pm.nil _)⟩)
     | (have q_ := c2p
        first
          | exact ⟨_, res1 rfl rfl, congrArg Value.bool (dec_eq ⟨fun hd => (fit2 c2p).2 ⟨g57p, by omega, by (have h_ := oT hd; omega)⟩, fun hh => decide_eq_true (by have h_ := (fit2 c2p).1 hh; omega)⟩), H2.pm (Pm.nil _)⟩
          | exact ⟨_, res1 rfl rfl, congrArg Value.bool (dec_f fun hh => by (have h_ := (fit2 c2p).1 hh; first | omega | exact g57p h_.1 | exact g57p h_.1)).symm, H2.pm (Pm.nil _)⟩)
     | exact ⟨_, res1 rfl rfl, congrArg Value.bool (dec_f (fitx c0p c1p c2p c3p)).symm, H2.pm (Pm.nil _)⟩
     | (have q_ := c6p
        exact ⟨_, res1 rfl rfl, congrArg Value.bool (dec_f fun hh => of_ndec (of_n_t c6) ((fitNs_iff _ _).1 ((fit3_f c3p hp).1 hh).2.2.2 i hin)).symm, H2.pm (Pm.nil _)⟩)
     | (have q_ := c5p
        exact ⟨_, res1 rfl rfl, congrArg Value.bool (dec_t ((fit3_f c3p hp).2 ⟨g93p, by omega, by omega, (fitNs_iff _ _).2 fun j hj => ha j (by omega)⟩)).symm, H2.pm (Pm.nil _)⟩)
     | (exact ⟨_, res1 rfl rfl, congrArg Value.bool (dec_f fun hh => by
          obtain ⟨p, hp, h1_, h2_, h3_, _⟩ := (fit3 c3p).1 hh
          first
            | (have h_ := hq4.symm.trans g82p; rw [hp] at h_; cases h_; done)
            | (rw [ofF_get hp] at g93p; exact g93p h1_)
            | omega
            | (have h_ := hq5 p hp; rw [h_] at c4p; omega)).symm, H2.pm (Pm.nil _)⟩)
  have c0p := oF c0
  refine wcR ?_
  refine wV (v_eql rfl rfl) ?_
  refine wA ?_
  refine wl_nil ?_
  refine wc_cond rfl (fun c1 => ?_) (fun c1 => ?_)
  ·have c1p := oT c1
   refine wcR ?_
   refine wM ?_
   refine wV (v_eqls rfl rfl) ?_
   refine wM ?_
   refine wl_guard rfl rfl rfl (fun g37 => ?_) (fun g37 => ?_)
   rotate_left
   ·have g37p := oF g37
    refine wF g37 ?_
    refine wF g37 ?_
    refine wV (v_pick_f rfl g37 rfl) ?_
    refine wM ?_
    refine wF rfl ?_
    refine wF rfl ?_
    refine wF rfl ?_
    refine wV (v_pick_f rfl rfl rfl) ?_
    refine wM ?_
    refine wF rfl ?_
    refine wF rfl ?_
    refine wF rfl ?_
    refine wF rfl ?_
    refine wV (v_pick_f rfl rfl rfl) ?_
    refine wA ?_
    refine wl_nil ?_
    refine wc_ret ?_
    first
      | (have q_ := c0p
         first
           | exact ⟨_, res1 rfl rfl, congrArg Value.bool (dec_eq ⟨fun hd => (fit0 c0p).2 ⟨g17p, g22p, by omega, by (have h_ := oT hd; omega)⟩, fun hh => decide_eq_true (by have h_ := (fit0 c0p).1 hh; omega)⟩), H2.pm (Pm.nil _)⟩
           | exact ⟨_, res1 rfl rfl, congrArg Value.bool (dec_f fun hh => by (have h_ := (fit0 c0p).1 hh; first | omega | exact g17p h_.1 | exact g22p h_.2.1)).symm, H2.pm (Pm.nil _)⟩)
      | (have q_ := c1p
         first
           | exact ⟨_, res1 rfl rfl, congrArg Value.bool (dec_eq ⟨fun hd => (fit1 c1p).2 ⟨g37p, by omega, g47p, by (have h_ := oT hd; omega)⟩, fun hh => decide_eq_true (by have h_ := (fit1 c1p).1 hh; omega)⟩), H2.pm (Pm.nil _)⟩
           | exact ⟨_, res1 rfl rfl, congrArg Value.bool (dec_f fun hh => by (have h_ := (fit1 c1p).1 hh; first | omega | exact g37p h_.1 | exact g47p h_.2.2.1)).symm, H2.pm (Pm.nil _)⟩)
      | (have q_ := c2p
         first
           | exact ⟨_, res1 rfl rfl, congrArg Value.bool (dec_eq ⟨fun hd => (fit2 c2p).2 ⟨g57p, by omega, by (have h_ := oT hd; omega)⟩, fun hh => decide_eq_true (by have h_ := (fit2 c2p).1 hh; omega)⟩), H2.pm (Pm.nil _)⟩
           | exact ⟨_, res1 rfl rfl, congrArg Value.bool (dec_f fun hh => by (have h_ := (fit2 c2p).1 hh; first | omega | exact g57p h_.1 | exact g57p h_.1)).symm, H2.pm (Pm.nil _)⟩)
      | exact ⟨_, res1 rfl rfl, congrArg Value.bool (dec_f (fitx c0p c1p c2p c3p)).symm, H2.pm (Pm.nil _)⟩
      | (have q_ := c6p
         exact ⟨_, res1 rfl rfl, congrArg Value.bool (dec_f fun hh => of_ndec (of_n_t c6) ((fitNs_iff _ _).1 ((fit3_f c3p hp).1 hh).2.2.2 i hin)).symm, H2.pm (Pm.nil _)⟩)
      | (have q_ := c5p
         exact ⟨_, res1 rfl rfl, congrArg Value.bool (dec_t ((fit3_f c3p hp).2 ⟨g93p, by omega, by omega, (fitNs_iff _ _).2 fun j hj => ha j (by omega)⟩)).symm, H2.pm (Pm.nil _)⟩)
      | (exact ⟨_, res1 rfl rfl, congrArg Value.bool (dec_f fun hh => by
           obtain ⟨p, hp, h1_, h2_, h3_, _⟩ := (fit3 c3p).1 hh
           first
             | (have h_ := hq4.symm.trans g82p; rw [hp] at h_; cases h_; done)
             | (rw [ofF_get hp] at g93p; exact g93p h1_)
             | omega
             | (have h_ := hq5 p hp; rw [h_] at c4p; omega)).symm, H2.pm (Pm.nil _)⟩)
   have g37p := oT g37
   refine wV (v_fb (o2 := 2) fa24_2 rfl rfl) ?_
   refine wO g37 ?_
   refine wV (v_load one3 rfl (H2.at (by repeat constructor) rfl)) ?_
   refine wO g37 ?_
   refine wV (v_geq rfl rfl) ?_
   refine wV (v_pick_t rfl g37 rfl) ?_
   refine wM ?_
   refine wl_guard rfl rfl rfl (fun g42 => ?_) (fun g42 => ?_)
   rotate_left
   ·have g42p := oF g42
    refine wF g42 ?_
    refine wF g42 ?_
    refine wV (v_pick_f rfl g42 rfl) ?_
    refine wM ?_
    refine wF rfl ?_
    refine wF rfl ?_
    refine wF rfl ?_
    refine wF rfl ?_
    refine wV (v_pick_f rfl rfl rfl) ?_
    refine wA ?_
    refine wl_nil ?_
    refine wc_ret ?_
    first
      | (have q_ := c0p
         first
           | exact ⟨_, res1 rfl rfl, congrArg Value.bool (dec_eq ⟨fun hd => (fit0 c0p).2 ⟨g17p, g22p, by omega, by (have h_ := oT hd; omega)⟩, fun hh => decide_eq_true (by have h_ := (fit0 c0p).1 hh; omega)⟩), H2.pm (Pm.nil _)⟩
           | exact ⟨_, res1 rfl rfl, congrArg Value.bool (dec_f fun hh => by (have h_ := (fit0 c0p).1 hh; first | omega | exact g17p h_.1 | exact g22p h_.2.1)).symm, H2.pm (Pm.nil _)⟩)
      | (have q_ := c1p
         first
           | exact ⟨_, res1 rfl rfl, congrArg Value.bool (dec_eq ⟨fun hd => (fit1 c1p).2 ⟨g37p, by omega, g47p, by (have h_ := oT hd; omega)⟩, fun hh => decide_eq_true (by have h_ := (fit1 c1p).1 hh; omega)⟩), H2.pm (Pm.nil _)⟩
           | exact ⟨_, res1 rfl rfl, congrArg Value.bool (dec_f fun hh => by (have h_ := (fit1 c1p).1 hh; first | omega | exact g37p h_.1 | exact g47p h_.2.2.1)).symm, H2.pm (Pm.nil _)⟩)
      | (have q_ := c2p
         first
           | exact ⟨_, res1 rfl rfl, congrArg Value.bool (dec_eq ⟨fun hd => (fit2 c2p).2 ⟨g57p, by omega, by (have h_ := oT hd; omega)⟩, fun hh => decide_eq_true (by have h_ := (fit2 c2p).1 hh; omega)⟩), H2.pm (Pm.nil _)⟩
           | exact ⟨_, res1 rfl rfl, congrArg Value.bool (dec_f fun hh => by (have h_ := (fit2 c2p).1 hh; first | omega | exact g57p h_.1 | exact g57p h_.1)).symm, H2.pm (Pm.nil _)⟩)
      | exact ⟨_, res1 rfl rfl, congrArg Value.bool (dec_f (fitx c0p c1p c2p c3p)).symm, H2.pm (Pm.nil _)⟩
      | (have q_ := c6p
         exact ⟨_, res1 rfl rfl, congrArg Value.bool (dec_f fun hh => of_ndec (of_n_t c6) ((fitNs_iff _ _).1 ((fit3_f c3p hp).1 hh).2.2.2 i hin)).symm, H2.pm (Pm.nil _)⟩)
      | (have q_ := c5p
         exact ⟨_, res1 rfl rfl, congrArg Value.bool (dec_t ((fit3_f c3p hp).2 ⟨g93p, by omega, by omega, (fitNs_iff _ _).2 fun j hj => ha j (by omega)⟩)).symm, H2.pm (Pm.nil _)⟩)
      | (exact ⟨_, res1 rfl rfl, congrArg Value.bool (dec_f fun hh => by
           obtain ⟨p, hp, h1_, h2_, h3_, _⟩ := (fit3 c3p).1 hh
           first
             | (have h_ := hq4.symm.trans g82p; rw [hp] at h_; cases h_; done)
             | (rw [ofF_get hp] at g93p; exact g93p h1_)
             | omega
             | (have h_ := hq5 p hp; rw [h_] at c4p; omega)).symm, H2.pm (Pm.nil _)⟩)
   have g42p := oT g42
   refine wV (v_fb (o2 := 1) fa24_1 rfl rfl) ?_
   refine wO g42 ?_
   refine wV (v_load one9 rfl (H2.at (by repeat constructor) rfl)) ?_
   refine wO g42 ?_
   refine wV (v_eqls rfl rfl) ?_
   refine wV (v_pick_t rfl g42 rfl) ?_
   refine wM ?_
   refine wl_guard rfl rfl rfl (fun g47 => ?_) (fun g47 => ?_)
   rotate_left
   ·have g47p := oF g47
    refine wF g47 ?_
    refine wF g47 ?_
    refine wF g47 ?_
    refine wV (v_pick_f rfl g47 rfl) ?_
    refine wA ?_
    refine wl_nil ?_
    refine wc_ret ?_
    first
      | (have q_ := c0p
         first
           | exact ⟨_, res1 rfl rfl, congrArg Value.bool (dec_eq ⟨fun hd => (fit0 c0p).2 ⟨g17p, g22p, by omega, by (have h_ := oT hd; omega)⟩, fun hh => decide_eq_true (by have h_ := (fit0 c0p).1 hh; omega)⟩), H2.pm (Pm.nil _)⟩
           | exact ⟨_, res1 rfl rfl, congrArg Value.bool (dec_f fun hh => by (have h_ := (fit0 c0p).1 hh; first | omega | exact g17p h_.1 | exact g22p h_.2.1)).symm, H2.pm (Pm.nil _)⟩)
      | (have q_ := c1p
         first
           | exact ⟨_, res1 rfl rfl, congrArg Value.bool (dec_eq ⟨fun hd => (fit1 c1p).2 ⟨g37p, by omega, g47p, by (have h_ := oT hd; omega)⟩, fun hh => decide_eq_true (by have h_ := (fit1 c1p).1 hh; omega)⟩), H2.pm (Pm.nil _)⟩
           | exact ⟨_, res1 rfl rfl, congrArg Value.bool (dec_f fun hh => by (have h_ := (fit1 c1p).1 hh; first | omega | exact g37p h_.1 | exact g47p h_.2.2.1)).symm, H2.pm (Pm.nil _)⟩)
      | (have q_ := c2p
         first
           | exact ⟨_, res1 rfl rfl, congrArg Value.bool (dec_eq ⟨fun hd => (fit2 c2p).2 ⟨g57p, by omega, by (have h_ := oT hd; omega)⟩, fun hh => decide_eq_true (by have h_ := (fit2 c2p).1 hh; omega)⟩), H2.pm (Pm.nil _)⟩
           | exact ⟨_, res1 rfl rfl, congrArg Value.bool (dec_f fun hh => by (have h_ := (fit2 c2p).1 hh; first | omega | exact g57p h_.1 | exact g57p h_.1)).symm, H2.pm (Pm.nil _)⟩)
      | exact ⟨_, res1 rfl rfl, congrArg Value.bool (dec_f (fitx c0p c1p c2p c3p)).symm, H2.pm (Pm.nil _)⟩
      | (have q_ := c6p
         exact ⟨_, res1 rfl rfl, congrArg Value.bool (dec_f fun hh => of_ndec (of_n_t c6) ((fitNs_iff _ _).1 ((fit3_f c3p hp).1 hh).2.2.2 i hin)).symm, H2.pm (Pm.nil _)⟩)
      | (have q_ := c5p
         exact ⟨_, res1 rfl rfl, congrArg Value.bool (dec_t ((fit3_f c3p hp).2 ⟨g93p, by omega, by omega, (fitNs_iff _ _).2 fun j hj => ha j (by omega)⟩)).symm, H2.pm (Pm.nil _)⟩)
      | (exact ⟨_, res1 rfl rfl, congrArg Value.bool (dec_f fun hh => by
           obtain ⟨p, hp, h1_, h2_, h3_, _⟩ := (fit3 c3p).1 hh
           first
             | (have h_ := hq4.symm.trans g82p; rw [hp] at h_; cases h_; done)
             | (rw [ofF_get hp] at g93p; exact g93p h1_)
             | omega
             | (have h_ := hq5 p hp; rw [h_] at c4p; omega)).symm, H2.pm (Pm.nil _)⟩)
   have g47p := oT g47
   refine wV (v_fb (o2 := 3) fa24_3 rfl rfl) ?_
   refine wO g47 ?_
   refine wV (v_load one22 rfl (H2.at (by repeat constructor) rfl)) ?_
   refine wO g47 ?_
   refine wV (v_len Try.underlying22 rfl) ?_
   refine wO g47 ?_
   refine wV (v_eql rfl rfl) ?_
   refine wV (v_pick_t rfl g47 rfl) ?_
   refine wA ?_
   refine wl_nil ?_
   refine wc_ret ?_
   first
     | (have q_ := c0p
        first
          | exact ⟨_, res1 rfl rfl, congrArg Value.bool (dec_eq ⟨fun hd => (fit0 c0p).2 ⟨g17p, g22p, by omega, by (have h_ := oT hd; omega)⟩, fun hh => decide_eq_true (by have h_ := (fit0 c0p).1 hh; omega)⟩), H2.pm (Pm.nil _)⟩
          | exact ⟨_, res1 rfl rfl, congrArg Value.bool (dec_f fun hh => by (have h_ := (fit0 c0p).1 hh; first | omega | exact g17p h_.1 | exact g22p h_.2.1)).symm, H2.pm (Pm.nil _)⟩)
     | (have q_ := c1p
        first
          | exact ⟨_, res1 rfl rfl, congrArg Value.bool (dec_eq ⟨fun hd => (fit1 c1p).2 ⟨g37p, by omega, g47p, by (have h_ := oT hd; omega)⟩, fun hh => decide_eq_true (by have h_ := (fit1 c1p).1 hh; omega)⟩), H2.pm (Pm.nil _)⟩
          | exact ⟨_, res1 rfl rfl, congrArg Value.bool (dec_f fun hh => by (have h_ := (fit1 c1p).1 hh; first | omega | exact g37p h_.1 | exact g47p h_.2.2.1)).symm, H2.pm (Pm.nil _)⟩)
     | (have q_ := c2p
        first
          | exact ⟨_, res1 rfl rfl, congrArg Value.bool (dec_eq ⟨fun hd => (fit2 c2p).2 ⟨g57p, by omega, by (have h_ := oT hd; omega)⟩, fun hh => decide_eq_true (by have h_ := (fit2 c2p).1 hh; omega)⟩), H2.pm (Pm.nil _)⟩
          | exact ⟨_, res1 rfl rfl, congrArg Value.bool (dec_f fun hh => by (have h_ := (fit2 c2p).1 hh; first | omega | exact g57p h_.1 | exact g57p h_.1)).symm, H2.pm (Pm.nil _)⟩)
     | exact ⟨_, res1 rfl rfl, congrArg Value.bool (dec_f (fitx c0p c1p c2p c3p)).symm, H2.pm (Pm.nil _)⟩
     | (have q_ := c6p
        exact ⟨_, res1 rfl rfl, congrArg Value.bool (dec_f fun hh => of_ndec (of_n_t c6) ((fitNs_iff _ _).1 ((fit3_f c3p hp).1 hh).2.2.2 i hin)).symm, H2.pm (Pm.nil _)⟩)
     | (have q_ := c5p
        exact ⟨_, res1 rfl rfl, congrArg Value.bool (dec_t ((fit3_f c3p hp).2 ⟨g93p, by omega, by omega, (fitNs_iff _ _).2 fun j hj => ha j (by omega)⟩)).symm, H2.pm (Pm.nil _)⟩)
     | (exact ⟨_, res1 rfl rfl, congrArg Value.bool (dec_f fun hh => by
          obtain ⟨p, hp, h1_, h2_, h3_, _⟩ := (fit3 c3p).1 hh
          first
            | (have h_ := hq4.symm.trans g82p; rw [hp] at h_; cases h_; done)
            | (rw [ofF_get hp] at g93p; exact g93p h1_)
            | omega
            | (have h_ := hq5 p hp; rw [h_] at c4p; omega)).symm, H2.pm (Pm.nil _)⟩)
  have c1p := oF c1
  refine wcR ?_
  refine wV (v_eql rfl rfl) ?_
  refine wA ?_
  refine wl_nil ?_
  refine wc_cond rfl (fun c2 => ?_) (fun c2 => ?_)
  ·have c2p := oT c2
   refine wcR ?_
   refine wM ?_
   refine wV (v_eqls rfl rfl) ?_
   refine wM ?_
   refine wl_guard rfl rfl rfl (fun g57 => ?_) (fun g57 => ?_)
   rotate_left
   ·have g57p := oF g57
    refine wF g57 ?_
    refine wF g57 ?_
    refine wV (v_pick_f rfl g57 rfl) ?_
    refine wM ?_
    refine wF rfl ?_
    refine wF rfl ?_
    refine wF rfl ?_
    refine wF rfl ?_
    refine wV (v_pick_f rfl rfl rfl) ?_
    refine wA ?_
    refine wl_nil ?_
    refine wc_ret ?_
    first
      | (have q_ := c0p
         first
           | exact ⟨_, res1 rfl rfl, congrArg Value.bool (dec_eq ⟨fun hd => (fit0 c0p).2 ⟨g17p, g22p, by omega, by (have h_ := oT hd; omega)⟩, fun hh => decide_eq_true (by have h_ := (fit0 c0p).1 hh; omega)⟩), H2.pm (Pm.nil _)⟩
           | exact ⟨_, res1 rfl rfl, congrArg Value.bool (dec_f fun hh => by (have h_ := (fit0 c0p).1 hh; first | omega | exact g17p h_.1 | exact g22p h_.2.1)).symm, H2.pm (Pm.nil _)⟩)
      | (have q_ := c1p
         first
           | exact ⟨_, res1 rfl rfl, congrArg Value.bool (dec_eq ⟨fun hd => (fit1 c1p).2 ⟨g37p, by omega, g47p, by (have h_ := oT hd; omega)⟩, fun hh => decide_eq_true (by have h_ := (fit1 c1p).1 hh; omega)⟩), H2.pm (Pm.nil _)⟩
           | exact ⟨_, res1 rfl rfl, congrArg Value.bool (dec_f fun hh => by (have h_ := (fit1 c1p).1 hh; first | omega | exact g37p h_.1 | exact g47p h_.2.2.1)).symm, H2.pm (Pm.nil _)⟩)
      | (have q_ := c2p
         first
           | exact ⟨_, res1 rfl rfl, congrArg Value.bool (dec_eq ⟨fun hd => (fit2 c2p).2 ⟨g57p, by omega, by (have h_ := oT hd; omega)⟩, fun hh => decide_eq_true (by have h_ := (fit2 c2p).1 hh; omega)⟩), H2.pm (Pm.nil _)⟩
           | exact ⟨_, res1 rfl rfl, congrArg Value.bool (dec_f fun hh => by (have h_ := (fit2 c2p).1 hh; first | omega | exact g57p h_.1 | exact g57p h_.1)).symm, H2.pm (Pm.nil _)⟩)
      | exact ⟨_, res1 rfl rfl, congrArg Value.bool (dec_f (fitx c0p c1p c2p c3p)).symm, H2.pm (Pm.nil _)⟩
      | (have q_ := c6p
         exact ⟨_, res1 rfl rfl, congrArg Value.bool (dec_f fun hh => of_ndec (of_n_t c6) ((fitNs_iff _ _).1 ((fit3_f c3p hp).1 hh).2.2.2 i hin)).symm, H2.pm (Pm.nil _)⟩)
      | (have q_ := c5p
         exact ⟨_, res1 rfl rfl, congrArg Value.bool (dec_t ((fit3_f c3p hp).2 ⟨g93p, by omega, by omega, (fitNs_iff _ _).2 fun j hj => ha j (by omega)⟩)).symm, H2.pm (Pm.nil _)⟩)
      | (exact ⟨_, res1 rfl rfl, congrArg Value.bool (dec_f fun hh => by
           obtain ⟨p, hp, h1_, h2_, h3_, _⟩ := (fit3 c3p).1 hh
           first
             | (have h_ := hq4.symm.trans g82p; rw [hp] at h_; cases h_; done)
             | (rw [ofF_get hp] at g93p; exact g93p h1_)
             | omega
             | (have h_ := hq5 p hp; rw [h_] at c4p; omega)).symm, H2.pm (Pm.nil _)⟩)
   have g57p := oT g57
   refine wV (v_fb (o2 := 2) fa24_2 rfl rfl) ?_
   refine wO g57 ?_
   refine wV (v_load one3 rfl (H2.at (by repeat constructor) rfl)) ?_
   refine wO g57 ?_
   refine wV (v_eql rfl rfl) ?_
   refine wV (v_pick_t rfl g57 rfl) ?_
   refine wM ?_
   refine wl_guard rfl rfl rfl (fun g62 => ?_) (fun g62 => ?_)
   rotate_left
   ·have g62p := oF g62
    refine wF g62 ?_
    refine wF g62 ?_
    refine wF g62 ?_
    refine wV (v_pick_f rfl g62 rfl) ?_
    refine wA ?_
    refine wl_nil ?_
    refine wc_ret ?_
    first
      | (have q_ := c0p
         first
           | exact ⟨_, res1 rfl rfl, congrArg Value.bool (dec_eq ⟨fun hd => (fit0 c0p).2 ⟨g17p, g22p, by omega, by (have h_ := oT hd; omega)⟩, fun hh => decide_eq_true (by have h_ := (fit0 c0p).1 hh; omega)⟩), H2.pm (Pm.nil _)⟩
           | exact ⟨_, res1 rfl rfl, congrArg Value.bool (dec_f fun hh => by (have h_ := (fit0 c0p).1 hh; first | omega | exact g17p h_.1 | exact g22p h_.2.1)).symm, H2.pm (Pm.nil _)⟩)
      | (have q_ := c1p
         first
           | exact ⟨_, res1 rfl rfl, congrArg Value.bool (dec_eq ⟨fun hd => (fit1 c1p).2 ⟨g37p, by omega, g47p, by (have h_ := oT hd; omega)⟩, fun hh => decide_eq_true (by have h_ := (fit1 c1p).1 hh; omega)⟩), H2.pm (Pm.nil _)⟩
           | exact ⟨_, res1 rfl rfl, congrArg Value.bool (dec_f fun hh => by (have h_ := (fit1 c1p).1 hh; first | omega | exact g37p h_.1 | exact g47p h_.2.2.1)).symm, H2.pm (Pm.nil _)⟩)
      | (have q_ := c2p
         first
           | exact ⟨_, res1 rfl rfl, congrArg Value.bool (dec_eq ⟨fun hd => (fit2 c2p).2 ⟨g57p, by omega, by (have h_ := oT hd; omega)⟩, fun hh => decide_eq_true (by have h_ := (fit2 c2p).1 hh; omega)⟩), H2.pm (Pm.nil _)⟩
           | exact ⟨_, res1 rfl rfl, congrArg Value.bool (dec_f fun hh => by (have h_ := (fit2 c2p).1 hh; first | omega | exact g57p h_.1 | exact g57p h_.1)).symm, H2.pm (Pm.nil _)⟩)
      | exact ⟨_, res1 rfl rfl, congrArg Value.bool (dec_f (fitx c0p c1p c2p c3p)).symm, H2.pm (Pm.nil _)⟩
      | (have q_ := c6p
         exact ⟨_, res1 rfl rfl, congrArg Value.bool (dec_f fun hh => of_ndec (of_n_t c6) ((fitNs_iff _ _).1 ((fit3_f c3p hp).1 hh).2.2.2 i hin)).symm, H2.pm (Pm.nil _)⟩)
      | (have q_ := c5p
         exact ⟨_, res1 rfl rfl, congrArg Value.bool (dec_t ((fit3_f c3p hp).2 ⟨g93p, by omega, by omega, (fitNs_iff _ _).2 fun j hj => ha j (by omega)⟩)).symm, H2.pm (Pm.nil _)⟩)
      | (exact ⟨_, res1 rfl rfl, congrArg Value.bool (dec_f fun hh => by
           obtain ⟨p, hp, h1_, h2_, h3_, _⟩ := (fit3 c3p).1 hh
           first
             | (have h_ := hq4.symm.trans g82p; rw [hp] at h_; cases h_; done)
             | (rw [ofF_get hp] at g93p; exact g93p h1_)
             | omega
             | (have h_ := hq5 p hp; rw [h_] at c4p; omega)).symm, H2.pm (Pm.nil _)⟩)
   have g62p := oT g62
   refine wV (v_fb (o2 := 3) fa24_3 rfl rfl) ?_
   refine wO g62 ?_
   refine wV (v_load one22 rfl (H2.at (by repeat constructor) rfl)) ?_
   refine wO g62 ?_
   refine wV (v_len Try.underlying22 rfl) ?_
   refine wO g62 ?_
   refine wV (v_eql rfl rfl) ?_
   refine wV (v_pick_t rfl g62 rfl) ?_
   refine wA ?_
   refine wl_nil ?_
   refine wc_ret ?_
   first
     | (have q_ := c0p
        first
          | exact ⟨_, res1 rfl rfl, congrArg Value.bool (dec_eq ⟨fun hd => (fit0 c0p).2 ⟨g17p, g22p, by omega, by (have h_ := oT hd; omega)⟩, fun hh => decide_eq_true (by have h_ := (fit0 c0p).1 hh; omega)⟩), H2.pm (Pm.nil _)⟩
          | exact ⟨_, res1 rfl rfl, congrArg Value.bool (dec_f fun hh => by (have h_ := (fit0 c0p).1 hh; first | omega | exact g17p h_.1 | exact g22p h_.2.1)).symm, H2.pm (Pm.nil _)⟩)
     | (have q_ := c1p
        first
          | exact ⟨_, res1 rfl rfl, congrArg Value.bool (dec_eq ⟨fun hd => (fit1 c1p).2 ⟨g37p, by omega, g47p, by (have h_ := oT hd; omega)⟩, fun hh => decide_eq_true (by have h_ := (fit1 c1p).1 hh; omega)⟩), H2.pm (Pm.nil _)⟩
          | exact ⟨_, res1 rfl rfl, congrArg Value.bool (dec_f fun hh => by (have h_ := (fit1 c1p).1 hh; first | omega | exact g37p h_.1 | exact g47p h_.2.2.1)).symm, H2.pm (Pm.nil _)⟩)
     | (have q_ := c2p
        first
          | exact ⟨_, res1 rfl rfl, congrArg Value.bool (dec_eq ⟨fun hd => (fit2 c2p).2 ⟨g57p, by omega, by (have h_ := oT hd; omega)⟩, fun hh => decide_eq_true (by have h_ := (fit2 c2p).1 hh; omega)⟩), H2.pm (Pm.nil _)⟩
          | exact ⟨_, res1 rfl rfl, congrArg Value.bool (dec_f fun hh => by (have h_ := (fit2 c2p).1 hh; first | omega | exact g57p h_.1 | exact g57p h_.1)).symm, H2.pm (Pm.nil _)⟩)
     | exact ⟨_, res1 rfl rfl, congrArg Value.bool (dec_f (fitx c0p c1p c2p c3p)).symm, H2.pm (Pm.nil _)⟩
     | (have q_ := c6p
        exact ⟨_, res1 rfl rfl, congrArg Value.bool (dec_f fun hh => of_ndec (of_n_t c6) ((fitNs_iff _ _).1 ((fit3_f c3p hp).1 hh).2.2.2 i hin)).symm, H2.pm (Pm.nil _)⟩)
     | (have q_ := c5p
        exact ⟨_, res1 rfl rfl, congrArg Value.bool (dec_t ((fit3_f c3p hp).2 ⟨g93p, by omega, by omega, (fitNs_iff _ _).2 fun j hj => ha j (by omega)⟩)).symm, H2.pm (Pm.nil _)⟩)
     | (exact ⟨_, res1 rfl rfl, congrArg Value.bool (dec_f fun hh => by
          obtain ⟨p, hp, h1_, h2_, h3_, _⟩ := (fit3 c3p).1 hh
          first
            | (have h_ := hq4.symm.trans g82p; rw [hp] at h_; cases h_; done)
            | (rw [ofF_get hp] at g93p; exact g93p h1_)
            | omega
            | (have h_ := hq5 p hp; rw [h_] at c4p; omega)).symm, H2.pm (Pm.nil _)⟩)
  have c2p := oF c2
  refine wcR ?_
  refine wV (v_eql rfl rfl) ?_
  refine wA ?_
  refine wl_nil ?_
  refine wc_cond rfl (fun c3 => ?_) (fun c3 => ?_)
  rotate_left
  ·have c3p := oF c3
   refine wcR ?_
   refine wA ?_
   refine wl_nil ?_
   refine wc_ret ?_
   first
     | (have q_ := c0p
        first
          | exact ⟨_, res1 rfl rfl, congrArg Value.bool (dec_eq ⟨fun hd => (fit0 c0p).2 ⟨g17p, g22p, by omega, by (have h_ := oT hd; omega)⟩, fun hh => decide_eq_true (by have h_ := (fit0 c0p).1 hh; omega)⟩), H2.pm (Pm.nil _)⟩
          | exact ⟨_, res1 rfl rfl, congrArg Value.bool (dec_f fun hh => by (have h_ := (fit0 c0p).1 hh; first | omega | exact g17p h_.1 | exact g22p h_.2.1)).symm, H2.pm (Pm.nil _)⟩)
     | (have q_ := c1p
        first
          | exact ⟨_, res1 rfl rfl, congrArg Value.bool (dec_eq ⟨fun hd => (fit1 c1p).2 ⟨g37p, by omega, g47p, by (have h_ := oT hd; omega)⟩, fun hh => decide_eq_true (by have h_ := (fit1 c1p).1 hh; omega)⟩), H2.pm (Pm.nil _)⟩
          | exact ⟨_, res1 rfl rfl, congrArg Value.bool (dec_f fun hh => by (have h_ := (fit1 c1p).1 hh; first | omega | exact g37p h_.1 | exact g47p h_.2.2.1)).symm, H2.pm (Pm.nil _)⟩)
     | (have q_ := c2p
        first
          | exact ⟨_, res1 rfl rfl, congrArg Value.bool (dec_eq ⟨fun hd => (fit2 c2p).2 ⟨g57p, by omega, by (have h_ := oT hd; omega)⟩, fun hh => decide_eq_true (by have h_ := (fit2 c2p).1 hh; omega)⟩), H2.pm (Pm.nil _)⟩
          | exact ⟨_, res1 rfl rfl, congrArg Value.bool (dec_f fun hh => by (have h_ := (fit2 c2p).1 hh; first | omega | exact g57p h_.1 | exact g57p h_.1)).symm, H2.pm (Pm.nil _)⟩)
     | exact ⟨_, res1 rfl rfl, congrArg Value.bool (dec_f (fitx c0p c1p c2p c3p)).symm, H2.pm (Pm.nil _)⟩
     | (have q_ := c6p
        exact ⟨_, res1 rfl rfl, congrArg Value.bool (dec_f fun hh => of_ndec (of_n_t c6) ((fitNs_iff _ _).1 ((fit3_f c3p hp).1 hh).2.2.2 i hin)).symm, H2.pm (Pm.nil _)⟩)
     | (have q_ := c5p
        exact ⟨_, res1 rfl rfl, congrArg Value.bool (dec_t ((fit3_f c3p hp).2 ⟨g93p, by omega, by omega, (fitNs_iff _ _).2 fun j hj => ha j (by omega)⟩)).symm, H2.pm (Pm.nil _)⟩)
     | (exact ⟨_, res1 rfl rfl, congrArg Value.bool (dec_f fun hh => by
          obtain ⟨p, hp, h1_, h2_, h3_, _⟩ := (fit3 c3p).1 hh
          first
            | (have h_ := hq4.symm.trans g82p; rw [hp] at h_; cases h_; done)
            | (rw [ofF_get hp] at g93p; exact g93p h1_)
            | omega
            | (have h_ := hq5 p hp; rw [h_] at c4p; omega)).symm, H2.pm (Pm.nil _)⟩)
  have c3p := oT c3
  refine wc_skip ?_
  refine wc_seq ?_
  refine wc_tree [0, 1, 2, 3, 4, 5, 6, 7, 8, 9] (fun W => Holds w [Blk b4 24 [.int .i64 t.x.kind, .string t.x.name, .int .i64 t.x.tok, .slice B t.kids.length k]] W) mixed ?_
  have Hd := H2.drew
  have HSd : Holds w [Blk b4 24 [.int .i64 t.x.kind, .string t.x.name, .int .i64 t.x.tok, .slice B t.kids.length k]] _ := Hd.pm (by repeat constructor)
  refine wjV (k := 0) rfl HSd (fun W HW => v_move rfl) ?_
  refine wjV (k := 1) rfl HSd (fun W HW => v_nil rfl) ?_
  refine wjV (k := 2) rfl HSd (fun W HW => v_fb (o2 := 1) fa126_1 rfl rfl) ?_
  refine wjV (k := 3) rfl HSd (fun W HW => v_load one123 rfl (HW.cell (hdc 1 _ rfl))) ?_
  refine wjV (k := 4) rfl HSd (fun W HW => v_fb (o2 := 1) fa24_1 rfl rfl) ?_
  refine wjV (k := 5) rfl HSd (fun W HW => v_load one9 rfl (HW.at (by repeat constructor) rfl)) ?_
  obtain ⟨q9, A9, k9, hq1, hq2, hq3, hq4, hq5⟩ := hC.look t.x.name
  refine wjV (k := 6) rfl HSd (fun W HW => v_lookRok (hM1 _ HW.old) Try.underlying123 zv80 (show KS.ok t.x.name from Nat.le_trans hsz (by decide)) rfl rfl hq1) ?_
  refine wjV (k := 7) rfl HSd (fun W HW => v_move rfl) ?_
  refine wjV (k := 8) rfl HSd (fun W HW => v_extract rfl rfl) ?_
  refine wjV (k := 9) rfl HSd (fun W HW => v_extract rfl rfl) ?_
  refine wj_t (k := 10) rfl (by kernel_rfl) ?_
  refine wl_alloc (cs := [.string ⟨#[]⟩, .slice none 0 0]) Hd rfl zv80 rfl ?_
  intro b7 w3 hb7 H4
  have HS5 : Holds w [Blk b4 24 [.int .i64 t.x.kind, .string t.x.name, .int .i64 t.x.tok, .slice B t.kids.length k]] _ := H4.pm (by repeat constructor)
  refine wl_nil (tn ⟨fun _ => HS5, ?_⟩)
  refine wj_t (k := 11) rfl (by kernel_rfl) ?_
  refine wl_store (vs := [_, _]) H4 (by repeat constructor) sz80 rfl rfl rfl rfl rfl (by (repeat constructor)) ?_
  intro w6 H7 hw6
  have HS8 : Holds w [Blk b4 24 [.int .i64 t.x.kind, .string t.x.name, .int .i64 t.x.tok, .slice B t.kids.length k]] _ := H7.pm (by repeat constructor)
  refine wl_nil (tn ⟨fun _ => HS8, ?_⟩)
  refine wj_t (k := 12) rfl (by kernel_rfl) ?_
  refine wA ?_
  refine wl_nil (tn ⟨fun hlt => absurd hlt (by rw [show allH _ _ _ = true by kernel_rfl]; simp), ?_⟩)
  refine wj_done (by kernel_rfl) ?_
  refine wc_seq ?_
  refine wc_seq ?_
  refine wc_still mixed (by kernel_rfl) ?_
  have Hd := H7.drew
  refine ws_v rfl rfl rfl (v_move rfl) ?_
  refine ws_v rfl rfl rfl (v_not rfl) ?_
  refine ws_v rfl rfl rfl (v_move rfl) ?_
  refine ws_guard rfl rfl rfl (fun g82 => ?_) (fun g82 => ?_)
  rotate_left
  ·have g82p := of_n_t g82
   refine ws_off rfl rfl g82 rfl ?_
   refine ws_off rfl rfl g82 rfl ?_
   refine ws_off rfl rfl g82 rfl ?_
   refine ws_off rfl rfl g82 rfl ?_
   refine ws_off rfl rfl g82 rfl ?_
   refine ws_off rfl rfl g82 rfl ?_
   refine ws_off rfl rfl g82 rfl ?_
   refine ws_off rfl rfl g82 rfl ?_
   refine ws_v rfl rfl rfl (v_pick_t rfl g82 rfl) ?_
   refine ws_v rfl rfl rfl (v_move rfl) ?_
   refine ws_off rfl rfl rfl rfl ?_
   refine ws_off rfl rfl rfl rfl ?_
   refine ws_off rfl rfl rfl rfl ?_
   refine ws_v rfl rfl rfl (v_pick_t rfl rfl rfl) ?_
   refine ws_v rfl rfl rfl (v_move rfl) ?_
   refine ws_off rfl rfl rfl rfl ?_
   refine ws_off rfl rfl rfl rfl ?_
   refine ws_off rfl rfl rfl rfl ?_
   refine ws_off rfl rfl rfl rfl ?_
   refine ws_off rfl rfl rfl rfl ?_
   refine ws_off rfl rfl rfl rfl ?_
   refine ws_off rfl rfl rfl rfl ?_
   refine ws_v rfl rfl rfl (v_pick_t rfl rfl rfl) ?_
   refine ws_nil ?_
   refine wc_cond_t rfl ?_
   refine wcR ?_
   refine wA ?_
   refine wl_nil ?_
   refine wc_ret ?_
   first
     | (have q_ := c0p
        first
          | exact ⟨_, res1 rfl rfl, congrArg Value.bool (dec_eq ⟨fun hd => (fit0 c0p).2 ⟨g17p, g22p, by omega, by (have h_ := oT hd; omega)⟩, fun hh => decide_eq_true (by have h_ := (fit0 c0p).1 hh; omega)⟩), Hd.pm (Pm.nil _)⟩
          | exact ⟨_, res1 rfl rfl, congrArg Value.bool (dec_f fun hh => by (have h_ := (fit0 c0p).1 hh; first | omega | exact g17p h_.1 | exact g22p h_.2.1)).symm, Hd.pm (Pm.nil _)⟩)
     | (have q_ := c1p
        first
          | exact ⟨_, res1 rfl rfl, congrArg Value.bool (dec_eq ⟨fun hd => (fit1 c1p).2 ⟨g37p, by omega, g47p, by (have h_ := oT hd; omega)⟩, fun hh => decide_eq_true (by have h_ := (fit1 c1p).1 hh; omega)⟩), Hd.pm (Pm.nil _)⟩
          | exact ⟨_, res1 rfl rfl, congrArg Value.bool (dec_f fun hh => by (have h_ := (fit1 c1p).1 hh; first | omega | exact g37p h_.1 | exact g47p h_.2.2.1)).symm, Hd.pm (Pm.nil _)⟩)
     | (have q_ := c2p
        first
          | exact ⟨_, res1 rfl rfl, congrArg Value.bool (dec_eq ⟨fun hd => (fit2 c2p).2 ⟨g57p, by omega, by (have h_ := oT hd; omega)⟩, fun hh => decide_eq_true (by have h_ := (fit2 c2p).1 hh; omega)⟩), Hd.pm (Pm.nil _)⟩
          | exact ⟨_, res1 rfl rfl, congrArg Value.bool (dec_f fun hh => by (have h_ := (fit2 c2p).1 hh; first | omega | exact g57p h_.1 | exact g57p h_.1)).symm, Hd.pm (Pm.nil _)⟩)
     | exact ⟨_, res1 rfl rfl, congrArg Value.bool (dec_f (fitx c0p c1p c2p c3p)).symm, Hd.pm (Pm.nil _)⟩
     | (have q_ := c6p
        exact ⟨_, res1 rfl rfl, congrArg Value.bool (dec_f fun hh => of_ndec (of_n_t c6) ((fitNs_iff _ _).1 ((fit3_f c3p hp).1 hh).2.2.2 i hin)).symm, Hd.pm (Pm.nil _)⟩)
     | (have q_ := c5p
        exact ⟨_, res1 rfl rfl, congrArg Value.bool (dec_t ((fit3_f c3p hp).2 ⟨g93p, by omega, by omega, (fitNs_iff _ _).2 fun j hj => ha j (by omega)⟩)).symm, Hd.pm (Pm.nil _)⟩)
     | (exact ⟨_, res1 rfl rfl, congrArg Value.bool (dec_f fun hh => by
          obtain ⟨p, hp, h1_, h2_, h3_, _⟩ := (fit3 c3p).1 hh
          first
            | (have h_ := hq4.symm.trans g82p; rw [hp] at h_; cases h_; done)
            | (rw [ofF_get hp] at g93p; exact g93p h1_)
            | omega
            | (have h_ := hq5 p hp; rw [h_] at c4p; omega)).symm, Hd.pm (Pm.nil _)⟩)
  have g82p := of_n_f g82
  refine ws_v rfl rfl rfl (v_move rfl) ?_
  refine ws_on' rfl rfl g82 ?_
  refine ws_v rfl rfl rfl (v_nil rfl) ?_
  refine ws_on' rfl rfl g82 ?_
  refine ws_v rfl rfl rfl (v_fb (o2 := 2) fa126_2 rfl rfl) ?_
  refine ws_on' rfl rfl g82 ?_
  refine ws_v rfl rfl rfl (v_load one124 rfl (Hd.cell (hdc 2 _ rfl))) ?_
  refine ws_on' rfl rfl g82 ?_
  refine ws_v rfl rfl rfl (v_fb (o2 := 1) fa24_1 rfl rfl) ?_
  refine ws_on' rfl rfl g82 ?_
  refine ws_v rfl rfl rfl (v_load one9 rfl (Hd.at (by repeat constructor) rfl)) ?_
  refine ws_on' rfl rfl g82 ?_
  refine ws_v rfl rfl rfl (v_lookR (hM2 _ Hd.old) Try.underlying124 zv9 (show KS.ok t.x.name from Nat.le_trans hsz (by decide)) rfl rfl (ofF_look _ _)) ?_
  refine ws_on' rfl rfl g82 ?_
  refine ws_v rfl rfl rfl (v_move rfl) ?_
  refine ws_on' rfl rfl g82 ?_
  refine ws_v rfl rfl rfl (v_neqs rfl rfl) ?_
  refine ws_v rfl rfl rfl (v_pick_f rfl g82 rfl) ?_
  refine ws_v rfl rfl rfl (v_move rfl) ?_
  refine ws_guard rfl rfl rfl (fun g93 => ?_) (fun g93 => ?_)
  rotate_left
  ·have g93p := of_nd_t g93
   refine ws_off rfl rfl g93 rfl ?_
   refine ws_off rfl rfl g93 rfl ?_
   refine ws_v rfl rfl rfl (v_pick_t rfl g93 rfl) ?_
   refine ws_v rfl rfl rfl (v_move rfl) ?_
   refine ws_off rfl rfl rfl rfl ?_
   refine ws_off rfl rfl rfl rfl ?_
   refine ws_off rfl rfl rfl rfl ?_
   refine ws_off rfl rfl rfl rfl ?_
   refine ws_off rfl rfl rfl rfl ?_
   refine ws_off rfl rfl rfl rfl ?_
   refine ws_off rfl rfl rfl rfl ?_
   refine ws_v rfl rfl rfl (v_pick_t rfl rfl rfl) ?_
   refine ws_nil ?_
   refine wc_cond_t rfl ?_
   refine wcR ?_
   refine wA ?_
   refine wl_nil ?_
   refine wc_ret ?_
   first
     | (have q_ := c0p
        first
          | exact ⟨_, res1 rfl rfl, congrArg Value.bool (dec_eq ⟨fun hd => (fit0 c0p).2 ⟨g17p, g22p, by omega, by (have h_ := oT hd; omega)⟩, fun hh => decide_eq_true (by have h_ := (fit0 c0p).1 hh; omega)⟩), Hd.pm (Pm.nil _)⟩
          | exact ⟨_, res1 rfl rfl, congrArg Value.bool (dec_f fun hh => by (have h_ := (fit0 c0p).1 hh; first | omega | exact g17p h_.1 | exact g22p h_.2.1)).symm, Hd.pm (Pm.nil _)⟩)
     | (have q_ := c1p
        first
          | exact ⟨_, res1 rfl rfl, congrArg Value.bool (dec_eq ⟨fun hd => (fit1 c1p).2 ⟨g37p, by omega, g47p, by (have h_ := oT hd; omega)⟩, fun hh => decide_eq_true (by have h_ := (fit1 c1p).1 hh; omega)⟩), Hd.pm (Pm.nil _)⟩
          | exact ⟨_, res1 rfl rfl, congrArg Value.bool (dec_f fun hh => by (have h_ := (fit1 c1p).1 hh; first | omega | exact g37p h_.1 | exact g47p h_.2.2.1)).symm, Hd.pm (Pm.nil _)⟩)
     | (have q_ := c2p
        first
          | exact ⟨_, res1 rfl rfl, congrArg Value.bool (dec_eq ⟨fun hd => (fit2 c2p).2 ⟨g57p, by omega, by (have h_ := oT hd; omega)⟩, fun hh => decide_eq_true (by have h_ := (fit2 c2p).1 hh; omega)⟩), Hd.pm (Pm.nil _)⟩
          | exact ⟨_, res1 rfl rfl, congrArg Value.bool (dec_f fun hh => by (have h_ := (fit2 c2p).1 hh; first | omega | exact g57p h_.1 | exact g57p h_.1)).symm, Hd.pm (Pm.nil _)⟩)
     | exact ⟨_, res1 rfl rfl, congrArg Value.bool (dec_f (fitx c0p c1p c2p c3p)).symm, Hd.pm (Pm.nil _)⟩
     | (have q_ := c6p
        exact ⟨_, res1 rfl rfl, congrArg Value.bool (dec_f fun hh => of_ndec (of_n_t c6) ((fitNs_iff _ _).1 ((fit3_f c3p hp).1 hh).2.2.2 i hin)).symm, Hd.pm (Pm.nil _)⟩)
     | (have q_ := c5p
        exact ⟨_, res1 rfl rfl, congrArg Value.bool (dec_t ((fit3_f c3p hp).2 ⟨g93p, by omega, by omega, (fitNs_iff _ _).2 fun j hj => ha j (by omega)⟩)).symm, Hd.pm (Pm.nil _)⟩)
     | (exact ⟨_, res1 rfl rfl, congrArg Value.bool (dec_f fun hh => by
          obtain ⟨p, hp, h1_, h2_, h3_, _⟩ := (fit3 c3p).1 hh
          first
            | (have h_ := hq4.symm.trans g82p; rw [hp] at h_; cases h_; done)
            | (rw [ofF_get hp] at g93p; exact g93p h1_)
            | omega
            | (have h_ := hq5 p hp; rw [h_] at c4p; omega)).symm, Hd.pm (Pm.nil _)⟩)
  have g93p := of_nd_f g93
  refine ws_v rfl rfl rfl (v_fb (o2 := 2) fa24_2 rfl rfl) ?_
  refine ws_on' rfl rfl g93 ?_
  refine ws_v rfl rfl rfl (v_load one3 rfl (Hd.at (by repeat constructor) rfl)) ?_
  refine ws_on' rfl rfl g93 ?_
  refine ws_v rfl rfl rfl (v_neq rfl rfl) ?_
  refine ws_v rfl rfl rfl (v_pick_f rfl g93 rfl) ?_
  refine ws_v rfl rfl rfl (v_move rfl) ?_
  refine ws_guard rfl rfl rfl (fun g98 => ?_) (fun g98 => ?_)
  rotate_left
  ·have g98p := of_nd_t g98
   refine ws_off rfl rfl g98 rfl ?_
   refine ws_off rfl rfl g98 rfl ?_
   refine ws_off rfl rfl g98 rfl ?_
   refine ws_off rfl rfl g98 rfl ?_
   refine ws_off rfl rfl g98 rfl ?_
   refine ws_off rfl rfl g98 rfl ?_
   refine ws_v rfl rfl rfl (v_pick_t rfl g98 rfl) ?_
   refine ws_nil ?_
   refine wc_cond_t rfl ?_
   refine wcR ?_
   refine wA ?_
   refine wl_nil ?_
   refine wc_ret ?_
   first
     | (have q_ := c0p
        first
          | exact ⟨_, res1 rfl rfl, congrArg Value.bool (dec_eq ⟨fun hd => (fit0 c0p).2 ⟨g17p, g22p, by omega, by (have h_ := oT hd; omega)⟩, fun hh => decide_eq_true (by have h_ := (fit0 c0p).1 hh; omega)⟩), Hd.pm (Pm.nil _)⟩
          | exact ⟨_, res1 rfl rfl, congrArg Value.bool (dec_f fun hh => by (have h_ := (fit0 c0p).1 hh; first | omega | exact g17p h_.1 | exact g22p h_.2.1)).symm, Hd.pm (Pm.nil _)⟩)
     | (have q_ := c1p
        first
          | exact ⟨_, res1 rfl rfl, congrArg Value.bool (dec_eq ⟨fun hd => (fit1 c1p).2 ⟨g37p, by omega, g47p, by (have h_ := oT hd; omega)⟩, fun hh => decide_eq_true (by have h_ := (fit1 c1p).1 hh; omega)⟩), Hd.pm (Pm.nil _)⟩
          | exact ⟨_, res1 rfl rfl, congrArg Value.bool (dec_f fun hh => by (have h_ := (fit1 c1p).1 hh; first | omega | exact g37p h_.1 | exact g47p h_.2.2.1)).symm, Hd.pm (Pm.nil _)⟩)
     | (have q_ := c2p
        first
          | exact ⟨_, res1 rfl rfl, congrArg Value.bool (dec_eq ⟨fun hd => (fit2 c2p).2 ⟨g57p, by omega, by (have h_ := oT hd; omega)⟩, fun hh => decide_eq_true (by have h_ := (fit2 c2p).1 hh; omega)⟩), Hd.pm (Pm.nil _)⟩
          | exact ⟨_, res1 rfl rfl, congrArg Value.bool (dec_f fun hh => by (have h_ := (fit2 c2p).1 hh; first | omega | exact g57p h_.1 | exact g57p h_.1)).symm, Hd.pm (Pm.nil _)⟩)
     | exact ⟨_, res1 rfl rfl, congrArg Value.bool (dec_f (fitx c0p c1p c2p c3p)).symm, Hd.pm (Pm.nil _)⟩
     | (have q_ := c6p
        exact ⟨_, res1 rfl rfl, congrArg Value.bool (dec_f fun hh => of_ndec (of_n_t c6) ((fitNs_iff _ _).1 ((fit3_f c3p hp).1 hh).2.2.2 i hin)).symm, Hd.pm (Pm.nil _)⟩)
     | (have q_ := c5p
        exact ⟨_, res1 rfl rfl, congrArg Value.bool (dec_t ((fit3_f c3p hp).2 ⟨g93p, by omega, by omega, (fitNs_iff _ _).2 fun j hj => ha j (by omega)⟩)).symm, Hd.pm (Pm.nil _)⟩)
     | (exact ⟨_, res1 rfl rfl, congrArg Value.bool (dec_f fun hh => by
          obtain ⟨p, hp, h1_, h2_, h3_, _⟩ := (fit3 c3p).1 hh
          first
            | (have h_ := hq4.symm.trans g82p; rw [hp] at h_; cases h_; done)
            | (rw [ofF_get hp] at g93p; exact g93p h1_)
            | omega
            | (have h_ := hq5 p hp; rw [h_] at c4p; omega)).symm, Hd.pm (Pm.nil _)⟩)
  have g98p := of_nd_f g98
  refine ws_v rfl rfl rfl (v_fb (o2 := 1) fa80_1 rfl rfl) ?_
  refine ws_on' rfl rfl g98 ?_
  refine ws_v rfl rfl rfl (v_load one40 rfl (Hd.at (by repeat constructor) rfl)) ?_
  refine ws_on' rfl rfl g98 ?_
  refine ws_v rfl rfl rfl (v_len Try.underlying40 rfl) ?_
  refine ws_on' rfl rfl g98 ?_
  refine ws_v rfl rfl rfl (v_fb (o2 := 3) fa24_3 rfl rfl) ?_
  refine ws_on' rfl rfl g98 ?_
  refine ws_v rfl rfl rfl (v_load one22 rfl (Hd.at (by repeat constructor) rfl)) ?_
  refine ws_on' rfl rfl g98 ?_
  refine ws_v rfl rfl rfl (v_len Try.underlying22 rfl) ?_
  refine ws_on' rfl rfl g98 ?_
  refine ws_v rfl rfl rfl (v_neq rfl rfl) ?_
  refine ws_v rfl rfl rfl (v_pick_f rfl g98 rfl) ?_
  refine ws_nil ?_
  refine wc_cond rfl (fun c4 => ?_) (fun c4 => ?_)
  ·have c4p := of_nd_t c4
   refine wcR ?_
   refine wA ?_
   refine wl_nil ?_
   refine wc_ret ?_
   first
     | (have q_ := c0p
        first
          | exact ⟨_, res1 rfl rfl, congrArg Value.bool (dec_eq ⟨fun hd => (fit0 c0p).2 ⟨g17p, g22p, by omega, by (have h_ := oT hd; omega)⟩, fun hh => decide_eq_true (by have h_ := (fit0 c0p).1 hh; omega)⟩), Hd.pm (Pm.nil _)⟩
          | exact ⟨_, res1 rfl rfl, congrArg Value.bool (dec_f fun hh => by (have h_ := (fit0 c0p).1 hh; first | omega | exact g17p h_.1 | exact g22p h_.2.1)).symm, Hd.pm (Pm.nil _)⟩)
     | (have q_ := c1p
        first
          | exact ⟨_, res1 rfl rfl, congrArg Value.bool (dec_eq ⟨fun hd => (fit1 c1p).2 ⟨g37p, by omega, g47p, by (have h_ := oT hd; omega)⟩, fun hh => decide_eq_true (by have h_ := (fit1 c1p).1 hh; omega)⟩), Hd.pm (Pm.nil _)⟩
          | exact ⟨_, res1 rfl rfl, congrArg Value.bool (dec_f fun hh => by (have h_ := (fit1 c1p).1 hh; first | omega | exact g37p h_.1 | exact g47p h_.2.2.1)).symm, Hd.pm (Pm.nil _)⟩)
     | (have q_ := c2p
        first
          | exact ⟨_, res1 rfl rfl, congrArg Value.bool (dec_eq ⟨fun hd => (fit2 c2p).2 ⟨g57p, by omega, by (have h_ := oT hd; omega)⟩, fun hh => decide_eq_true (by have h_ := (fit2 c2p).1 hh; omega)⟩), Hd.pm (Pm.nil _)⟩
          | exact ⟨_, res1 rfl rfl, congrArg Value.bool (dec_f fun hh => by (have h_ := (fit2 c2p).1 hh; first | omega | exact g57p h_.1 | exact g57p h_.1)).symm, Hd.pm (Pm.nil _)⟩)
     | exact ⟨_, res1 rfl rfl, congrArg Value.bool (dec_f (fitx c0p c1p c2p c3p)).symm, Hd.pm (Pm.nil _)⟩
     | (have q_ := c6p
        exact ⟨_, res1 rfl rfl, congrArg Value.bool (dec_f fun hh => of_ndec (of_n_t c6) ((fitNs_iff _ _).1 ((fit3_f c3p hp).1 hh).2.2.2 i hin)).symm, Hd.pm (Pm.nil _)⟩)
     | (have q_ := c5p
        exact ⟨_, res1 rfl rfl, congrArg Value.bool (dec_t ((fit3_f c3p hp).2 ⟨g93p, by omega, by omega, (fitNs_iff _ _).2 fun j hj => ha j (by omega)⟩)).symm, Hd.pm (Pm.nil _)⟩)
     | (exact ⟨_, res1 rfl rfl, congrArg Value.bool (dec_f fun hh => by
          obtain ⟨p, hp, h1_, h2_, h3_, _⟩ := (fit3 c3p).1 hh
          first
            | (have h_ := hq4.symm.trans g82p; rw [hp] at h_; cases h_; done)
            | (rw [ofF_get hp] at g93p; exact g93p h1_)
            | omega
            | (have h_ := hq5 p hp; rw [h_] at c4p; omega)).symm, Hd.pm (Pm.nil _)⟩)
  have c4p := of_nd_f c4
  have hfs : (fnd P t.x.name).isSome = true := hq4.symm.trans g82p
  obtain ⟨p, hp⟩ := Option.isSome_iff_exists.1 hfs
  obtain rfl := hq5 p hp
  rw [ofF_get hp] at g93p
  refine wc_skip ?_
  refine wc_seq ?_
  refine wcR ?_
  refine wV (v_fb (o2 := 3) fa24_3 rfl rfl) ?_
  refine wV (v_load one22 rfl (Hd.at (by repeat constructor) rfl)) ?_
  refine wV (v_len Try.underlying22 rfl) ?_
  refine wM ?_
  refine wl_nil ?_
  refine wc_block ?_
  refine wc_loop (σ := Nat) (fun s => [(0, .pointer (some ⟨bd, 0, none⟩)), (4, .pointer (some ⟨b4, 0, none⟩)), (7, .pointer (some ⟨b7, 0, none⟩)), (108, .slice B t.kids.length k), (109, .int .i64 t.kids.length), (110, .int .i64 s)]) (fun s W => (s ≤ t.kids.length ∧ ∀ j, j < s → fitN P (t.kids.getD j nd0) (p.2.fields.getD j s0)) ∧ Holds w [Blk b7 80 [.string p.2.name, .slice A9 p.2.fields.length k9], Blk b4 24 [.int .i64 t.x.kind, .string t.x.name, .int .i64 t.x.tok, .slice B t.kids.length k]] W) (fun s => t.kids.length - s) 0 (sc rfl (sc rfl (sc rfl (sc rfl (sc rfl (sc rfl (sn _))))))) ⟨⟨Nat.zero_le _, upto_zero⟩, Hd.pm (by repeat constructor)⟩ ?_
  rintro i W0 ⟨⟨hi, ha⟩, H⟩
  refine wcR ?_
  refine wV (v_lss rfl rfl) ?_
  refine wl_nil ?_
  refine wc_seq ?_
  refine wc_cond rfl (fun c5 => ?_) (fun c5 => ?_)
  rotate_left
  ·have c5p := oF c5
   refine wc_exit ?_
   refine wcR ?_
   refine wA ?_
   refine wl_nil ?_
   refine wc_ret ?_
   first
     | (have q_ := c0p
        first
          | exact ⟨_, res1 rfl rfl, congrArg Value.bool (dec_eq ⟨fun hd => (fit0 c0p).2 ⟨g17p, g22p, by omega, by (have h_ := oT hd; omega)⟩, fun hh => decide_eq_true (by have h_ := (fit0 c0p).1 hh; omega)⟩), H.pm (Pm.nil _)⟩
          | exact ⟨_, res1 rfl rfl, congrArg Value.bool (dec_f fun hh => by (have h_ := (fit0 c0p).1 hh; first | omega | exact g17p h_.1 | exact g22p h_.2.1)).symm, H.pm (Pm.nil _)⟩)
     | (have q_ := c1p
        first
          | exact ⟨_, res1 rfl rfl, congrArg Value.bool (dec_eq ⟨fun hd => (fit1 c1p).2 ⟨g37p, by omega, g47p, by (have h_ := oT hd; omega)⟩, fun hh => decide_eq_true (by have h_ := (fit1 c1p).1 hh; omega)⟩), H.pm (Pm.nil _)⟩
          | exact ⟨_, res1 rfl rfl, congrArg Value.bool (dec_f fun hh => by (have h_ := (fit1 c1p).1 hh; first | omega | exact g37p h_.1 | exact g47p h_.2.2.1)).symm, H.pm (Pm.nil _)⟩)
     | (have q_ := c2p
        first
          | exact ⟨_, res1 rfl rfl, congrArg Value.bool (dec_eq ⟨fun hd => (fit2 c2p).2 ⟨g57p, by omega, by (have h_ := oT hd; omega)⟩, fun hh => decide_eq_true (by have h_ := (fit2 c2p).1 hh; omega)⟩), H.pm (Pm.nil _)⟩
          | exact ⟨_, res1 rfl rfl, congrArg Value.bool (dec_f fun hh => by (have h_ := (fit2 c2p).1 hh; first | omega | exact g57p h_.1 | exact g57p h_.1)).symm, H.pm (Pm.nil _)⟩)
     | exact ⟨_, res1 rfl rfl, congrArg Value.bool (dec_f (fitx c0p c1p c2p c3p)).symm, H.pm (Pm.nil _)⟩
     | (have q_ := c6p
        exact ⟨_, res1 rfl rfl, congrArg Value.bool (dec_f fun hh => of_ndec (of_n_t c6) ((fitNs_iff _ _).1 ((fit3_f c3p hp).1 hh).2.2.2 i hin)).symm, H.pm (Pm.nil _)⟩)
     | (have q_ := c5p
        exact ⟨_, res1 rfl rfl, congrArg Value.bool (dec_t ((fit3_f c3p hp).2 ⟨g93p, by omega, by omega, (fitNs_iff _ _).2 fun j hj => ha j (by omega)⟩)).symm, H.pm (Pm.nil _)⟩)
     | (exact ⟨_, res1 rfl rfl, congrArg Value.bool (dec_f fun hh => by
          obtain ⟨p, hp, h1_, h2_, h3_, _⟩ := (fit3 c3p).1 hh
          first
            | (have h_ := hq4.symm.trans g82p; rw [hp] at h_; cases h_; done)
            | (rw [ofF_get hp] at g93p; exact g93p h1_)
            | omega
            | (have h_ := hq5 p hp; rw [h_] at c4p; omega)).symm, H.pm (Pm.nil _)⟩)
  have c5p := oT c5
  have hin : i < t.kids.length := by omega
  refine wc_skip ?_
  refine wc_seq ?_
  refine wc_block ?_
  refine wcR ?_
  refine wM ?_
  refine wV (v_idx Try.underlying22 sz24 hr.ad rfl rfl (by omega) (by omega)) ?_
  obtain ⟨B114_, k114_, hc114_, hl114_, hr114_⟩ := hr.atTr nd0 (i := i) (by omega)
  refine wV (v_loadN (cs := [.int .i64 (t.kids.getD i nd0).x.kind, .string (t.kids.getD i nd0).x.name, .int .i64 (t.kids.getD i nd0).x.tok, .slice B114_ (t.kids.getD i nd0).kids.length k114_]) agg24 rfl rfl (fun q_ u_ hu_ => H.cell (hc114_ q_ u_ hu_))) ?_
  refine wl_alloc (cs := [.int .i64 0, .string ⟨#[]⟩, .int .i64 0, .slice none 0 0]) H rfl zv24 rfl ?_
  intro b10 w11 hb10 H12
  refine wA ?_
  refine wl_store (vs := [_, _, _, _]) H12 (by repeat constructor) sz24 rfl rfl rfl rfl rfl (by (repeat constructor)) ?_
  intro w13 H14 hw13
  refine wl_nil ?_
  refine wc_seq ?_
  refine wc_tree [0, 1, 2, 3, 4, 5, 6, 8] (fun W => Holds w [Blk b10 24 [.int .i64 (t.kids.getD i nd0).x.kind, .string (t.kids.getD i nd0).x.name, .int .i64 (t.kids.getD i nd0).x.tok, .slice B114_ (t.kids.getD i nd0).kids.length k114_], Blk b7 80 [.string p.2.name, .slice A9 p.2.fields.length k9], Blk b4 24 [.int .i64 t.x.kind, .string t.x.name, .int .i64 t.x.tok, .slice B t.kids.length k]] W) mixed ?_
  have Hd := H14.drew
  have HSd : Holds w [Blk b10 24 [.int .i64 (t.kids.getD i nd0).x.kind, .string (t.kids.getD i nd0).x.name, .int .i64 (t.kids.getD i nd0).x.tok, .slice B114_ (t.kids.getD i nd0).kids.length k114_], Blk b7 80 [.string p.2.name, .slice A9 p.2.fields.length k9], Blk b4 24 [.int .i64 t.x.kind, .string t.x.name, .int .i64 t.x.tok, .slice B t.kids.length k]] _ := Hd.pm (by repeat constructor)
  refine wjV (k := 0) rfl HSd (fun W HW => v_move rfl) ?_
  refine wjV (k := 1) rfl HSd (fun W HW => v_loadN agg24 rfl rfl (HW.ats (by repeat constructor))) ?_
  refine wjV (k := 2) rfl HSd (fun W HW => v_fb (o2 := 1) fa80_1 rfl rfl) ?_
  refine wjV (k := 3) rfl HSd (fun W HW => v_load one40 rfl (HW.at (by repeat constructor) rfl)) ?_
  refine wjV (k := 4) rfl HSd (fun W HW => v_move rfl) ?_
  refine wjV (k := 5) rfl HSd (fun W HW => v_idx Try.underlying40 sz9 hq3.ad rfl rfl (by omega) (by omega)) ?_
  refine wjV (k := 6) rfl HSd (fun W HW => v_load one9 rfl (HW.cell (hq3.at1sN (i := i) (by omega)))) ?_
  refine wj_t (k := 7) rfl (by kernel_rfl) ?_
  refine wl_call en53 rfl rfl (ih _ (getD_mem (z := nd0) hin) _ _ _ bd b0 b1 b2 ns (p.2.fields.getD i s0) fC (hds.below Hd.old) (hr114_.below Hd.old) (Tr.Alls_at nd0 hin hks)) ?_
  rintro _ w15 ⟨rfl, Hc⟩
  have H16 := Hd.call0 Hc
  have HS17 : Holds w [Blk b10 24 [.int .i64 (t.kids.getD i nd0).x.kind, .string (t.kids.getD i nd0).x.name, .int .i64 (t.kids.getD i nd0).x.tok, .slice B114_ (t.kids.getD i nd0).kids.length k114_], Blk b7 80 [.string p.2.name, .slice A9 p.2.fields.length k9], Blk b4 24 [.int .i64 t.x.kind, .string t.x.name, .int .i64 t.x.tok, .slice B t.kids.length k]] _ := H16.pm (by repeat constructor)
  refine wl_nil (tn ⟨fun _ => HS17, ?_⟩)
  refine wjV (k := 8) rfl HS17 (fun W HW => v_not rfl) ?_
  refine wj_done (by kernel_rfl) ?_
  refine wc_cond rfl (fun c6 => ?_) (fun c6 => ?_)
  rotate_left
  ·have c6p := of_n_f c6
   refine wc_skip ?_
   refine wc_region ?_
   refine wV (v_addi rfl rfl (by omega)) ?_
   refine wM ?_
   refine wl_nil ?_
   exact ⟨i + 1, (sc rfl (sc rfl (sc rfl (sc rfl (sc rfl (sc rfl (sn _))))))), ⟨⟨by omega, upto_succ ha (of_dec (of_n_f c6))⟩, H16.pm (by repeat constructor)⟩, by omega⟩
  have c6p := of_n_t c6
  refine wcR ?_
  refine wA ?_
  refine wl_nil ?_
  refine wc_ret ?_
  first
    | (have q_ := c0p
       first
         | exact ⟨_, res1 rfl rfl, congrArg Value.bool (dec_eq ⟨fun hd => (fit0 c0p).2 ⟨g17p, g22p, by omega, by (have h_ := oT hd; omega)⟩, fun hh => decide_eq_true (by have h_ := (fit0 c0p).1 hh; omega)⟩), H16.pm (Pm.nil _)⟩
         | exact ⟨_, res1 rfl rfl, congrArg Value.bool (dec_f fun hh => by (have h_ := (fit0 c0p).1 hh; first | omega | exact g17p h_.1 | exact g22p h_.2.1)).symm, H16.pm (Pm.nil _)⟩)
    | (have q_ := c1p
       first
         | exact ⟨_, res1 rfl rfl, congrArg Value.bool (dec_eq ⟨fun hd => (fit1 c1p).2 ⟨g37p, by omega, g47p, by (have h_ := oT hd; omega)⟩, fun hh => decide_eq_true (by have h_ := (fit1 c1p).1 hh; omega)⟩), H16.pm (Pm.nil _)⟩
         | exact ⟨_, res1 rfl rfl, congrArg Value.bool (dec_f fun hh => by (have h_ := (fit1 c1p).1 hh; first | omega | exact g37p h_.1 | exact g47p h_.2.2.1)).symm, H16.pm (Pm.nil _)⟩)
    | (have q_ := c2p
       first
         | exact ⟨_, res1 rfl rfl, congrArg Value.bool (dec_eq ⟨fun hd => (fit2 c2p).2 ⟨g57p, by omega, by (have h_ := oT hd; omega)⟩, fun hh => decide_eq_true (by have h_ := (fit2 c2p).1 hh; omega)⟩), H16.pm (Pm.nil _)⟩
         | exact ⟨_, res1 rfl rfl, congrArg Value.bool (dec_f fun hh => by (have h_ := (fit2 c2p).1 hh; first | omega | exact g57p h_.1 | exact g57p h_.1)).symm, H16.pm (Pm.nil _)⟩)
    | exact ⟨_, res1 rfl rfl, congrArg Value.bool (dec_f (fitx c0p c1p c2p c3p)).symm, H16.pm (Pm.nil _)⟩
    | (have q_ := c6p
       exact ⟨_, res1 rfl rfl, congrArg Value.bool (dec_f fun hh => of_ndec (of_n_t c6) ((fitNs_iff _ _).1 ((fit3_f c3p hp).1 hh).2.2.2 i hin)).symm, H16.pm (Pm.nil _)⟩)
    | (have q_ := c5p
       exact ⟨_, res1 rfl rfl, congrArg Value.bool (dec_t ((fit3_f c3p hp).2 ⟨g93p, by omega, by omega, (fitNs_iff _ _).2 fun j hj => ha j (by omega)⟩)).symm, H16.pm (Pm.nil _)⟩)
    | (exact ⟨_, res1 rfl rfl, congrArg Value.bool (dec_f fun hh => by
         obtain ⟨p, hp, h1_, h2_, h3_, _⟩ := (fit3 c3p).1 hh
         first
           | (have h_ := hq4.symm.trans g82p; rw [hp] at h_; cases h_; done)
           | (rw [ofF_get hp] at g93p; exact g93p h1_)
           | omega
           | (have h_ := hq5 p hp; rw [h_] at c4p; omega)).symm, H16.pm (Pm.nil _)⟩)

theorem dvalue_calls {P : List (ByteArray × Ct)} : ∀ t : Nd, ValDOk P t := Tr.ind fun x kids ih => fun w B k bd b0 b1 b2 ns name fC hds hr hf => dvalue_step (t := .mk x kids) hds hr hf ih

set_option maxHeartbeats 1600000 in
set_option maxRecDepth 100000 in
theorem ptyped_calls {l : List Dt} {t : Nd} {A B : Option Addr} {cd k : Nat} {name : ByteArray} {w : World} (hl : DOk l) (hd : Rd kDt w A l) (hr : Rd (kTr fNd) w B t.kids) (hf : t.All smallN) :
    Calls Try.prog 21 #[.slice A l.length cd, .agg #[.int .i64 t.x.kind, .string t.x.name, .int .i64 t.x.tok, .slice B t.kids.length k], .string name] w fun e w' => ∃ v, e = .returned v ∧ v = .bool (dec (TypedOk l t name)) ∧ Holds w [] w' := by
  refine calls_of Try.func21 rfl Try.ntmps21 rfl ?_
  have H := Holds.start w
  refine wcR ?_
  refine wl_box (cs := [_, _, _, _]) H rfl rfl rfl ?_
  intro b4 w1 hb4 H2
  refine wA ?_
  refine wl_nil ?_
  refine wcR ?_
  refine wM ?_
  refine wl_call en48 rfl rfl (known_calls hl hd H2) ?_
  rintro _ w3 ⟨bd, b0, b1, b2, fC, rfl, H3, hkf⟩
  refine wM ?_
  refine wV (v_extract rfl rfl) ?_
  refine wV (v_extract rfl rfl) ?_
  refine wA ?_
  refine wA ?_
  refine wl_nil ?_
  refine wcR ?_
  refine wM ?_
  refine wV (v_eql rfl rfl) ?_
  refine wM ?_
  refine wl_guard rfl rfl rfl (fun g16 => ?_) (fun g16 => ?_)
  rotate_left
  ·have g16p := oF g16
   refine wF g16 ?_
   refine wF g16 ?_
   refine wF g16 ?_
   refine wV (v_pick_f rfl g16 rfl) ?_
   refine wA ?_
   refine wl_nil ?_
   refine wc_ret ?_
   first
     | (have q_ := hC
        exact ⟨_, res1 rfl rfl, congrArg Value.bool (dec_iff ⟨fun h => ⟨g16p, h⟩, fun h => h.2⟩), H3.pm (Pm.nil _)⟩)
     | exact ⟨_, res1 rfl rfl, congrArg Value.bool (dec_f fun hh => g16p hh.1).symm, H3.pm (Pm.nil _)⟩
  have g16p := oT g16
  obtain ⟨hC, HF⟩ := hkf g16p
  replace H3 := HF
  refine wM ?_
  refine wO g16 ?_
  refine wV (v_loadN agg24 rfl rfl (H3.ats (by repeat constructor))) ?_
  refine wO g16 ?_
  refine wM ?_
  refine wO g16 ?_
  refine wl_call en53 rfl rfl (dvalue_calls t _ _ _ bd b0 b1 b2 (nms l) name fC (dsr_of hC H3 (by repeat constructor) (by repeat constructor) (by repeat constructor) (by repeat constructor)) (hr.below H3.old) hf) ?_
  rintro _ w4 ⟨rfl, Hc⟩
  have H5 := H3.call0 Hc
  refine wV (v_pick_t rfl g16 rfl) ?_
  refine wA ?_
  refine wl_nil ?_
  refine wc_ret ?_
  first
    | (have q_ := hC
       exact ⟨_, res1 rfl rfl, congrArg Value.bool (dec_iff ⟨fun h => ⟨g16p, h⟩, fun h => h.2⟩), H5.pm (Pm.nil _)⟩)
    | exact ⟨_, res1 rfl rfl, congrArg Value.bool (dec_f fun hh => g16p hh.1).symm, H5.pm (Pm.nil _)⟩
end Go.Proofs.Ytgdemplcpcacaaa.PTyped
