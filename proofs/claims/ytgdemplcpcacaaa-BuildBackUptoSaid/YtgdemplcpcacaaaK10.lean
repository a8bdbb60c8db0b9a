/- The functions answer on the grammar of one production. Whether two nodes are the same. Pieces of texts, as the document finds them. Texts read back: what stands at a place; texts within quotes. Reading nodes: what a text's reading finds; that it is the node's one text, and finds each node. What is read back, plainly. Slices cut. Numbers, seven bits a byte: plain; bit operations and divisions. Numbers of 32 bits, as natural numbers. The number that bytes tell, byte by byte; strings of rows of bytes. -/
import Derived.Test.YtgdemplcpcacaaaProg
import Derived.Test.YtgdemplcpcacaaaK03
import Derived.Test.YtgdemplcpcacaaaK05
import Derived.Test.YtgdemplcpcacaaaK07
import Derived.Test.YtgdemplcpcacaaaK09
import Derived.Test.YtgdemplcpcacaaaK02
import Derived.Laws.BitsLemmas
import Derived.Laws.BitsAllLaws
import Derived.Laws.IdiomStrings
set_option linter.unusedVariables false
set_option linter.unusedSimpArgs false
/-! The functions answer on the grammar of one production. -/
namespace Go.Proofs.Ytgdemplcpcacaaa.AliveB
open Go Go.RowKit Go.Proofs.YtgdemplcpcacaaaFx Go.Proofs.Ytgdemplcpcacaaa.WriteW Go.Proofs.Ytgdemplcpcacaaa.PValue Go.Proofs.Ytgdemplcpcacaaa.PCheck Go.Proofs.Ytgdemplcpcacaaa.PTyped
theorem agg24 : Agg Try.prog 24 4 := agg_of Try.underlying24 (by kernel_rfl)
theorem agg44 : Agg Try.prog 44 5 := agg_of Try.underlying44 (by kernel_rfl)
theorem ba44 : BuildAt Try.prog 44 [.slice none 0 0, .slice none 0 0, .slice none 0 0, .slice none 0 0, .int .i64 0] [(0, 1), (1, 1), (2, 1), (3, 1), (4, 1)] := build_at Try.underlying44 (by kernel_rfl) (by kernel_rfl)
theorem ba50 : BuildAt Try.prog 50 [.int .i64 0, .int .i64 0, .slice none 0 0] [(0, 1), (1, 1), (2, 1)] := build_at Try.underlying50 (by kernel_rfl) (by kernel_rfl)
theorem ba69 : BuildAt Try.prog 69 [.int .i64 0, .int .i64 0, .string ⟨#[]⟩, .slice none 0 0] [(0, 1), (1, 1), (2, 1), (3, 1)] := build_at Try.underlying69 (by kernel_rfl) (by kernel_rfl)
theorem ba73 : BuildAt Try.prog 73 [.int .i64 0, .slice none 0 0, .int .i64 0, .int .i64 0, .int .i64 0, .string ⟨#[]⟩, .slice none 0 0] [(0, 1), (1, 1), (2, 1), (3, 4)] := build_at Try.underlying73 (by kernel_rfl) (by kernel_rfl)
theorem ba80 : BuildAt Try.prog 80 [.string ⟨#[]⟩, .slice none 0 0] [(0, 1), (1, 1)] := build_at Try.underlying80 (by kernel_rfl) (by kernel_rfl)
theorem ba83 : BuildAt Try.prog 83 [.string ⟨#[]⟩, .slice none 0 0] [(0, 1), (1, 1)] := build_at Try.underlying83 (by kernel_rfl) (by kernel_rfl)
theorem ba85 : BuildAt Try.prog 85 [.int .i64 0, .int .i64 0, .int .i64 0] [(0, 1), (1, 1), (2, 1)] := build_at Try.underlying85 (by kernel_rfl) (by kernel_rfl)
theorem en11 : Enters Try.prog 11 := enters Try.func11 (by kernel_rfl) rfl
theorem en16 : Enters Try.prog 16 := enters Try.func16 (by kernel_rfl) rfl
theorem en19 : Enters Try.prog 19 := enters Try.func19 (by kernel_rfl) rfl
theorem en21 : Enters Try.prog 21 := enters Try.func21 (by kernel_rfl) rfl
theorem info145 : (Try.prog.info? 145).map (fun i => (i.zero, i.size, i.bytes)) = some (some (.agg #[.int .i64 0, .int .i64 0]), 2, 16) := by kernel_rfl
theorem sz24 : ∀ W, (sizeOf 24).run Try.prog W = .ok 4 W := size_of (by kernel_rfl)
theorem sz3 : ∀ W, (sizeOf 3).run Try.prog W = .ok 1 W := size_of (by kernel_rfl)
theorem sz44 : ∀ W, (sizeOf 44).run Try.prog W = .ok 5 W := size_of (by kernel_rfl)
theorem sz50 : ∀ W, (sizeOf 50).run Try.prog W = .ok 3 W := size_of (by kernel_rfl)
theorem sz69 : ∀ W, (sizeOf 69).run Try.prog W = .ok 4 W := size_of (by kernel_rfl)
theorem sz73 : ∀ W, (sizeOf 73).run Try.prog W = .ok 7 W := size_of (by kernel_rfl)
theorem sz80 : ∀ W, (sizeOf 80).run Try.prog W = .ok 2 W := size_of (by kernel_rfl)
theorem sz83 : ∀ W, (sizeOf 83).run Try.prog W = .ok 2 W := size_of (by kernel_rfl)
theorem sz85 : ∀ W, (sizeOf 85).run Try.prog W = .ok 3 W := size_of (by kernel_rfl)
theorem sz9 : ∀ W, (sizeOf 9).run Try.prog W = .ok 1 W := size_of (by kernel_rfl)
theorem zv24 : ∀ W, (zeroValue 24).run Try.prog W = .ok (.agg #[.int .i64 0, .string ⟨#[]⟩, .int .i64 0, .slice none 0 0]) W := zero_of (by kernel_rfl)
theorem zv3 : ∀ W, (zeroValue 3).run Try.prog W = .ok (.int .i64 0) W := zero_of (by kernel_rfl)
theorem zv44 : ∀ W, (zeroValue 44).run Try.prog W = .ok (.agg #[.slice none 0 0, .slice none 0 0, .slice none 0 0, .slice none 0 0, .int .i64 0]) W := zero_of (by kernel_rfl)
theorem zv50 : ∀ W, (zeroValue 50).run Try.prog W = .ok (.agg #[.int .i64 0, .int .i64 0, .slice none 0 0]) W := zero_of (by kernel_rfl)
theorem zv69 : ∀ W, (zeroValue 69).run Try.prog W = .ok (.agg #[.int .i64 0, .int .i64 0, .string ⟨#[]⟩, .slice none 0 0]) W := zero_of (by kernel_rfl)
theorem zv73 : ∀ W, (zeroValue 73).run Try.prog W = .ok (.agg #[.int .i64 0, .slice none 0 0, .int .i64 0, .int .i64 0, .int .i64 0, .string ⟨#[]⟩, .slice none 0 0]) W := zero_of (by kernel_rfl)
theorem zv80 : ∀ W, (zeroValue 80).run Try.prog W = .ok (.agg #[.string ⟨#[]⟩, .slice none 0 0]) W := zero_of (by kernel_rfl)
theorem zv83 : ∀ W, (zeroValue 83).run Try.prog W = .ok (.agg #[.string ⟨#[]⟩, .slice none 0 0]) W := zero_of (by kernel_rfl)
theorem zv85 : ∀ W, (zeroValue 85).run Try.prog W = .ok (.agg #[.int .i64 0, .int .i64 0, .int .i64 0]) W := zero_of (by kernel_rfl)
theorem zv9 : ∀ W, (zeroValue 9).run Try.prog W = .ok (.string ⟨#[]⟩) W := zero_of (by kernel_rfl)

theorem g_check {w : World} {b9 b11 b17 : Nat} {A10 : Option Addr} {b23 b27 : Nat} (h : gG.rd w ⟨some ⟨b9, 0, none⟩, 3, A10, 3, some ⟨b11, 0, none⟩, 1, some ⟨b17, 0, none⟩, 1⟩) (hl : Rd kDt w (some ⟨b23, 0, none⟩) gL) (ht : Rd kStr w (some ⟨b27, 0, none⟩) gTy) : Calls Try.prog 19 #[.agg #[.slice (some ⟨b9, 0, none⟩) 3 3, .slice A10 3 3, .slice (some ⟨b11, 0, none⟩) 1 1, .slice (some ⟨b17, 0, none⟩) 1 1, .int .i64 0], .slice (some ⟨b23, 0, none⟩) 1 1, .slice (some ⟨b27, 0, none⟩) 1 1] w fun e w' => ∃ v, e = .returned v ∧ v = .tuple #[.int .i64 0, .int .i64 0] ∧ Holds w [] w' := by
  refine (pcheck_calls (cd := 1) (kt := 1) gG_okk h gL_ok hl ht (by decide) (by decide)).mono ?_
  rintro e w' ⟨v, he, p, q, rfl, h1, h2, H⟩
  obtain rfl := h1.2 gC
  obtain rfl := h2 rfl
  exact ⟨_, he, rfl, H⟩

theorem g_value {w : World} {b9 b11 b17 : Nat} {A10 : Option Addr} {b34 b36 : Nat} (h : gG.rd w ⟨some ⟨b9, 0, none⟩, 3, A10, 3, some ⟨b11, 0, none⟩, 1, some ⟨b17, 0, none⟩, 1⟩) (hd : Rd (kTr fDv) w (some ⟨b34, 0, none⟩) gD.kids) (hr : Rd (kInt .i64) w (some ⟨b36, 0, none⟩) [2]) : Calls Try.prog 16 #[.agg #[.slice (some ⟨b9, 0, none⟩) 3 3, .slice A10 3 3, .slice (some ⟨b11, 0, none⟩) 1 1, .slice (some ⟨b17, 0, none⟩) 1 1, .int .i64 0], .agg #[.int .i64 0, .int .i64 0, .slice (some ⟨b34, 0, none⟩) 1 1], .slice (some ⟨b36, 0, none⟩) 1 1] w fun e w' => ∃ v, e = .returned v ∧ ∃ A c, v = .tuple #[.agg #[.int .i64 3, .string ⟨#[78]⟩, .int .i64 0, .slice A 1 c], .int .i64 0] ∧ Holds w [ORow fNd 24 (.slice A 1 c) gN.kids] w' := by
  have h1 := pvalue_calls (k := 1) (cr := 1) (d := gD) (row := [2]) gG_okk h hd hr (by decide) (by decide)
  rw [gE.1, gE.2] at h1
  exact h1

theorem g_text {w : World} {b43 c : Nat} {A : Option Addr} (h : Rd fTk.kn w (some ⟨b43, 0, none⟩) gTk) (hr : Rd (kTr fNd) w A gN.kids) : Calls Try.prog 11 #[.agg #[.int .i64 3, .string ⟨#[78]⟩, .int .i64 0, .slice A 1 c], .string gSrc, .slice (some ⟨b43, 0, none⟩) 1 1] w fun e w' => ∃ v, e = .returned v ∧ v = .tuple #[.string ⟨#[78, 40, 34, 55, 34, 41]⟩, .int .i64 0] ∧ Holds w [] w' := by
  have h1 := ptext_calls (src := gSrc) (t := gN) (k := c) (kt := 1) (by decide) (by decide) h hr gN_small (by decide)
  rw [gX.1, gX.2] at h1
  exact h1

theorem g_typed {w : World} {b23 c : Nat} {A : Option Addr} (hl : Rd kDt w (some ⟨b23, 0, none⟩) gL) (hr : Rd (kTr fNd) w A gN.kids) : Calls Try.prog 21 #[.slice (some ⟨b23, 0, none⟩) 1 1, .agg #[.int .i64 3, .string ⟨#[78]⟩, .int .i64 0, .slice A 1 c], .string ⟨#[69]⟩] w fun e w' => ∃ v, e = .returned v ∧ v = .bool true ∧ Holds w [] w' := by
  have h1 := ptyped_calls (cd := 1) (k := c) (t := gN) (name := ⟨#[69]⟩) gL_ok hl hr gN_small
  rw [dec_t (show TypedOk gL gN ⟨#[69]⟩ from ⟨gL_e, gF⟩)] at h1
  exact h1

set_option maxHeartbeats 6400000 in
set_option maxRecDepth 100000 in
theorem alive_calls {w : World} : Calls Try.prog 10 #[] w fun e w' => ∃ v, e = .returned v ∧ v = .bool true ∧ Holds w [] w' := by
  refine calls_of Try.func10 rfl Try.ntmps10 rfl ?_
  have H := Holds.start w
  refine wcR ?_
  refine wA ?_
  refine wl_nil ?_
  refine wcR ?_
  refine wl_slit (v := .string ⟨#[]⟩) (z := [.string ⟨#[]⟩, .string ⟨#[]⟩, .string ⟨#[]⟩]) (cs := [.string ⟨#[101, 110, 100]⟩, .string ⟨#[101, 114, 114, 111, 114]⟩, .string ⟨#[110]⟩]) (sz := 1) H rfl Try.underlying40 sz9 zv9 (by decide) (by decide) (by kernel_rfl) rfl (by repeat constructor) ?_
  intro b9 w1 hb9 H1 hs1
  refine wl_make (f := fMv) (z' := mv0) (e := 145) (q := 3) H1 rfl Try.underlying41 info145 rfl (by decide) rfl rfl (by decide) (by decide) (by decide) ?_
  intro A10 w2 H2 hs2
  refine wl_slit (v := .string ⟨#[]⟩) (z := [.string ⟨#[]⟩]) (cs := [.string ⟨#[101]⟩]) (sz := 1) H2 rfl Try.underlying40 sz9 zv9 (by decide) (by decide) (by kernel_rfl) rfl (by repeat constructor) ?_
  intro b11 w3 hb11 H3 hs3
  refine wl_slit (v := .int .i64 0) (z := [.int .i64 0]) (cs := [.int .i64 2]) (sz := 1) H3 rfl Try.underlying51 sz3 zv3 (by decide) (by decide) (by kernel_rfl) rfl (by repeat constructor) ?_
  intro b12 w4 hb12 H4 hs4
  refine wV (v_bld ba69 rfl (by repeat constructor)) ?_
  refine wl_slit (v := .agg #[.int .i64 0, .int .i64 0, .string ⟨#[]⟩, .slice none 0 0]) (z := [.int .i64 0, .int .i64 0, .string ⟨#[]⟩, .slice none 0 0]) (cs := [.int .i64 1, .int .i64 0, .string ⟨#[]⟩, .slice none 0 0]) (sz := 4) H4 rfl Try.underlying67 sz69 zv69 (by decide) (by decide) (by kernel_rfl) rfl (by repeat constructor) ?_
  intro b14 w5 hb14 H5 hs5
  refine wV (v_bld ba69 rfl (by repeat constructor)) ?_
  refine wV (v_bld ba73 rfl (by repeat constructor)) ?_
  refine wl_slit (v := .agg #[.int .i64 0, .slice none 0 0, .int .i64 0, .int .i64 0, .int .i64 0, .string ⟨#[]⟩, .slice none 0 0]) (z := [.int .i64 0, .slice none 0 0, .int .i64 0, .int .i64 0, .int .i64 0, .string ⟨#[]⟩, .slice none 0 0]) (cs := [.int .i64 0, .slice (some ⟨b12, 0, none⟩) 1 1, .int .i64 0, .int .i64 2, .int .i64 0, .string ⟨#[78]⟩, .slice (some ⟨b14, 0, none⟩) 1 1]) (sz := 7) H5 rfl Try.underlying42 sz73 zv73 (by decide) (by decide) (by kernel_rfl) rfl (by repeat constructor) ?_
  intro b17 w6 hb17 H6 hs6
  refine wV (v_bld ba44 rfl (by repeat constructor)) ?_
  refine wl_alloc (cs := [.slice none 0 0, .slice none 0 0, .slice none 0 0, .slice none 0 0, .int .i64 0]) H6 rfl zv44 rfl ?_
  intro b1 w7 hb1 H8
  refine wl_store (vs := [_, _, _, _, _]) H8 (by repeat constructor) sz44 rfl rfl rfl rfl rfl (by (repeat constructor)) ?_
  intro w9 H10 hw9
  refine wl_nil ?_
  refine wcR ?_
  refine wl_slit (v := .string ⟨#[]⟩) (z := [.string ⟨#[]⟩]) (cs := [.string tx]) (sz := 1) H10 rfl Try.underlying40 sz9 zv9 (by decide) (by decide) (by kernel_rfl) rfl (by repeat constructor) ?_
  intro b19 w11 hb19 H11 hs11
  refine wV (v_bld ba80 rfl (by repeat constructor)) ?_
  refine wl_slit (v := .agg #[.string ⟨#[]⟩, .slice none 0 0]) (z := [.string ⟨#[]⟩, .slice none 0 0]) (cs := [.string ⟨#[78]⟩, .slice (some ⟨b19, 0, none⟩) 1 1]) (sz := 2) H11 rfl Try.underlying81 sz80 zv80 (by decide) (by decide) (by kernel_rfl) rfl (by repeat constructor) ?_
  intro b21 w12 hb21 H12 hs12
  refine wV (v_bld ba83 rfl (by repeat constructor)) ?_
  refine wl_slit (v := .agg #[.string ⟨#[]⟩, .slice none 0 0]) (z := [.string ⟨#[]⟩, .slice none 0 0]) (cs := [.string ⟨#[69]⟩, .slice (some ⟨b21, 0, none⟩) 1 1]) (sz := 2) H12 rfl Try.underlying45 sz83 zv83 (by decide) (by decide) (by kernel_rfl) rfl (by repeat constructor) ?_
  intro b23 w13 hb23 H13 hs13
  refine wA ?_
  refine wl_nil ?_
  refine wcR ?_
  refine wV (v_loadN agg44 rfl rfl (H13.ats (by repeat constructor))) ?_
  refine wM ?_
  refine wl_slit (v := .string ⟨#[]⟩) (z := [.string ⟨#[]⟩]) (cs := [.string ⟨#[69]⟩]) (sz := 1) H13 rfl Try.underlying40 sz9 zv9 (by decide) (by decide) (by kernel_rfl) rfl (by repeat constructor) ?_
  intro b27 w14 hb27 H14 hs14
  refine wl_call en19 rfl rfl (g_check (gG_rd (b12 := b12) (b14 := b14) H14 (by repeat constructor) (by repeat constructor) (by repeat constructor) (by repeat constructor) (by repeat constructor) (by repeat constructor)) (gL_rd H14 (by repeat constructor) (by repeat constructor) (by repeat constructor)) (gTy_rd H14 (by repeat constructor))) ?_
  rintro _ w15 ⟨rfl, Hc⟩
  have H16 := H14.call0 Hc
  refine wM ?_
  refine wV (v_extract rfl rfl) ?_
  refine wV (v_extract rfl rfl) ?_
  refine wA ?_
  refine wA ?_
  refine wl_nil ?_
  refine wcR ?_
  refine wV (v_loadN agg44 rfl rfl (H16.ats (by repeat constructor))) ?_
  refine wV (v_bld ba50 rfl (by repeat constructor)) ?_
  refine wl_slit (v := .agg #[.int .i64 0, .int .i64 0, .slice none 0 0]) (z := [.int .i64 0, .int .i64 0, .slice none 0 0]) (cs := [.int .i64 (-1), .int .i64 0, .slice none 0 0]) (sz := 3) H16 rfl Try.underlying48 sz50 zv50 (by decide) (by decide) (by kernel_rfl) rfl (by repeat constructor) ?_
  intro b34 w17 hb34 H17 hs17
  refine wV (v_bld ba50 rfl (by repeat constructor)) ?_
  refine wl_slit (v := .int .i64 0) (z := [.int .i64 0]) (cs := [.int .i64 2]) (sz := 1) H17 rfl Try.underlying51 sz3 zv3 (by decide) (by decide) (by kernel_rfl) rfl (by repeat constructor) ?_
  intro b36 w18 hb36 H18 hs18
  refine wl_call en16 rfl rfl (g_value (gG_rd (b12 := b12) (b14 := b14) H18 (by repeat constructor) (by repeat constructor) (by repeat constructor) (by repeat constructor) (by repeat constructor) (by repeat constructor)) (gD_rd H18 (by repeat constructor)) (gRow_rd (b := b36) H18 (by repeat constructor))) ?_
  rintro _ w19 ⟨A5, c5, rfl, Hc⟩
  have H20 := H18.call Hc
  refine wM ?_
  refine wV (v_extract rfl rfl) ?_
  refine wV (v_extract rfl rfl) ?_
  refine wl_alloc (cs := [.int .i64 0, .string ⟨#[]⟩, .int .i64 0, .slice none 0 0]) H20 rfl zv24 rfl ?_
  intro b5 w21 hb5 H22
  refine wl_store (vs := [_, _, _, _]) H22 (by repeat constructor) sz24 rfl rfl rfl rfl rfl (by (repeat constructor)) ?_
  intro w23 H24 hw23
  refine wA ?_
  refine wl_nil ?_
  refine wcR ?_
  refine wV (v_loadN agg24 rfl rfl (H24.ats (by repeat constructor))) ?_
  refine wV (v_bld ba85 rfl (by repeat constructor)) ?_
  refine wl_slit (v := .agg #[.int .i64 0, .int .i64 0, .int .i64 0]) (z := [.int .i64 0, .int .i64 0, .int .i64 0]) (cs := [.int .i64 2, .int .i64 0, .int .i64 1]) (sz := 3) H24 rfl Try.underlying25 sz85 zv85 (by decide) (by decide) (by kernel_rfl) rfl (by repeat constructor) ?_
  intro b43 w25 hb43 H25 hs25
  refine wl_call en11 rfl rfl (g_text (gTk_rd H25 (by repeat constructor)) (H25.oRd (f := fNd) (e := 24) (x := ⟨0, ⟨#[]⟩, 0⟩) (by repeat constructor))) ?_
  rintro _ w26 ⟨rfl, Hc⟩
  have H27 := H25.call0 Hc
  refine wM ?_
  refine wV (v_extract rfl rfl) ?_
  refine wV (v_extract rfl rfl) ?_
  refine wA ?_
  refine wA ?_
  refine wl_nil ?_
  refine wcR ?_
  refine wM ?_
  refine wV (v_eql rfl rfl) ?_
  refine wM ?_
  refine wl_guard rfl rfl rfl (fun g49 => ?_) (fun g49 => ?_)
  rotate_left
  ·have g49p := oF g49
   exact absurd g49 (by decide)
  have g49p := oT g49
  refine wM ?_
  refine wO g49 ?_
  refine wV (v_eql rfl rfl) ?_
  refine wV (v_pick_t rfl g49 rfl) ?_
  refine wM ?_
  refine wl_guard rfl rfl rfl (fun g53 => ?_) (fun g53 => ?_)
  rotate_left
  ·have g53p := oF g53
   exact absurd g53 (by decide)
  have g53p := oT g53
  refine wM ?_
  refine wO g53 ?_
  refine wV (v_eql rfl rfl) ?_
  refine wV (v_pick_t rfl g53 rfl) ?_
  refine wM ?_
  refine wl_guard rfl rfl rfl (fun g57 => ?_) (fun g57 => ?_)
  rotate_left
  ·have g57p := oF g57
   exact absurd g57 (by decide)
  have g57p := oT g57
  refine wM ?_
  refine wO g57 ?_
  refine wV (v_eqls rfl rfl) ?_
  refine wV (v_pick_t rfl g57 rfl) ?_
  refine wM ?_
  refine wl_guard rfl rfl rfl (fun g61 => ?_) (fun g61 => ?_)
  rotate_left
  ·have g61p := oF g61
   exact absurd g61 (by decide)
  have g61p := oT g61
  refine wM ?_
  refine wO g61 ?_
  refine wV (v_eql rfl rfl) ?_
  refine wV (v_pick_t rfl g61 rfl) ?_
  refine wM ?_
  refine wl_guard rfl rfl rfl (fun g65 => ?_) (fun g65 => ?_)
  rotate_left
  ·have g65p := oF g65
   exact absurd g65 (by decide)
  have g65p := oT g65
  refine wM ?_
  refine wO g65 ?_
  refine wV (v_loadN agg24 rfl rfl (H27.ats (by repeat constructor))) ?_
  refine wO g65 ?_
  refine wl_call en21 rfl rfl (g_typed (gL_rd H27 (by repeat constructor) (by repeat constructor) (by repeat constructor)) (H27.oRd (f := fNd) (e := 24) (x := ⟨0, ⟨#[]⟩, 0⟩) (by repeat constructor))) ?_
  rintro _ w28 ⟨rfl, Hc⟩
  have H29 := H27.call0 Hc
  refine wV (v_pick_t rfl g65 rfl) ?_
  refine wA ?_
  refine wl_nil ?_
  refine wc_ret ?_
  exact ⟨_, res1 rfl rfl, rfl, H29.pm (by repeat (first | exact pm_refl _ | constructor | refine pm_skip ?_))⟩
end Go.Proofs.Ytgdemplcpcacaaa.AliveB

/-! Whether two nodes are the same. -/
namespace Go.Proofs.Ytgdemplcpcacaaa.SameN
open Go Go.RowKit Go.Proofs.YtgdemplcpcacaaaFx 
theorem agg24 : Agg Try.prog 24 4 := agg_of Try.underlying24 (by kernel_rfl)
theorem en14 : Enters Try.prog 14 := enters Try.func14 (by kernel_rfl) rfl
theorem fa24_0 : FieldAt Try.prog 24 0 0 := field_at (sz := 0) Try.underlying24 rfl (by kernel_rfl) rfl
theorem fa24_1 : FieldAt Try.prog 24 1 1 := field_at (sz := 0) Try.underlying24 rfl (by kernel_rfl) rfl
theorem fa24_2 : FieldAt Try.prog 24 2 2 := field_at (sz := 0) Try.underlying24 rfl (by kernel_rfl) rfl
theorem fa24_3 : FieldAt Try.prog 24 3 3 := field_at (sz := 0) Try.underlying24 rfl (by kernel_rfl) rfl
theorem mixed : Try.prog.follows .mixedOrders = true := by kernel_rfl
theorem one22 : One Try.prog 22 := one_of Try.underlying22 rfl (by kernel_rfl)
theorem one3 : One Try.prog 3 := one_of Try.underlying3 rfl (by kernel_rfl)
theorem one9 : One Try.prog 9 := one_of Try.underlying9 rfl (by kernel_rfl)
theorem sz24 : ∀ W, (sizeOf 24).run Try.prog W = .ok 4 W := size_of (by kernel_rfl)

theorem ndp_eq {a b : NdP} (h1 : a.kind = b.kind) (h2 : a.name = b.name) (h3 : a.tok = b.tok) : a = b := by
  cases a
  cases b
  cases h1
  cases h2
  cases h3
  rfl
theorem nd_ext {t u : Nd} (hx : t.x = u.x) (hl : t.kids.length = u.kids.length) (h : ∀ j, j < t.kids.length → t.kids.getD j nd0 = u.kids.getD j nd0) : t = u := by
  have hk : t.kids = u.kids := List.ext_getElem hl fun j h1 h2 => by
    have := h j h1
    rwa [List.getD_eq_getElem?_getD, List.getD_eq_getElem?_getD, List.getElem?_eq_getElem h1, List.getElem?_eq_getElem h2] at this
  cases t
  cases u
  cases hx
  cases hk
  rfl

def rsameOk (t : Nd) : Prop := ∀ (u : Nd) (w : World) (A B : Option Addr) (k k2 : Nat) (ht : Rd (kTr fNd) w A t.kids) (hu : Rd (kTr fNd) w B u.kids) (hf : t.All few), Calls Try.prog 14 #[.agg #[.int .i64 t.x.kind, .string t.x.name, .int .i64 t.x.tok, .slice A t.kids.length k], .agg #[.int .i64 u.x.kind, .string u.x.name, .int .i64 u.x.tok, .slice B u.kids.length k2]] w fun e w' => ∃ v, e = .returned v ∧ v = .bool (dec (t = u)) ∧ Holds w [] w'

set_option maxHeartbeats 3200000 in
set_option maxRecDepth 100000 in
theorem rsame_step {t u : Nd} {w : World} {A B : Option Addr} {k k2 : Nat} (ht : Rd (kTr fNd) w A t.kids) (hu : Rd (kTr fNd) w B u.kids) (hf : t.All few) (ih : ∀ t' ∈ t.kids, rsameOk t') : Calls Try.prog 14 #[.agg #[.int .i64 t.x.kind, .string t.x.name, .int .i64 t.x.tok, .slice A t.kids.length k], .agg #[.int .i64 u.x.kind, .string u.x.name, .int .i64 u.x.tok, .slice B u.kids.length k2]] w fun e w' => ∃ v, e = .returned v ∧ v = .bool (dec (t = u)) ∧ Holds w [] w' := by
  obtain ⟨hkk, hks⟩ := (Tr.All_eq t).1 hf
  unfold few at hkk
  refine calls_of Try.func14 rfl Try.ntmps14 rfl ?_
  have H := Holds.start w
  refine wcR ?_
  refine wl_box (cs := [_, _, _, _]) H rfl rfl rfl ?_
  intro b2 w1 hb2 H2
  refine wl_box (cs := [_, _, _, _]) H2 rfl rfl rfl ?_
  intro b3 w3 hb3 H4
  refine wA ?_
  refine wl_nil ?_
  refine wc_seq ?_
  refine wc_cut (σ := Bool) (fun q => [(2, .pointer (some ⟨b2, 0, none⟩)), (3, .pointer (some ⟨b3, 0, none⟩)), (33, .bool q)]) (fun q W => q = dec (¬ (t.x = u.x ∧ t.kids.length = u.kids.length)) ∧ Holds w [Blk b3 24 [.int .i64 u.x.kind, .string u.x.name, .int .i64 u.x.tok, .slice B u.kids.length k2], Blk b2 24 [.int .i64 t.x.kind, .string t.x.name, .int .i64 t.x.tok, .slice A t.kids.length k]] W) ?_ ?_
  ·refine wc_region ?_
   refine wV (v_fb (o2 := 0) fa24_0 rfl rfl) ?_
   refine wV (v_load one3 rfl (H4.at (by repeat constructor) rfl)) ?_
   refine wV (v_fb (o2 := 0) fa24_0 rfl rfl) ?_
   refine wV (v_load one3 rfl (H4.at (by repeat constructor) rfl)) ?_
   refine wV (v_neq rfl rfl) ?_
   refine wM ?_
   refine wl_guard rfl rfl rfl (fun g11 => ?_) (fun g11 => ?_)
   rotate_left
   ·have g11p := of_nd_t g11
    refine wF g11 ?_
    refine wF g11 ?_
    refine wF g11 ?_
    refine wF g11 ?_
    refine wV (v_pick_t rfl g11 rfl) ?_
    refine wM ?_
    refine wF rfl ?_
    refine wF rfl ?_
    refine wF rfl ?_
    refine wF rfl ?_
    refine wF rfl ?_
    refine wV (v_pick_t rfl rfl rfl) ?_
    refine wM ?_
    refine wF rfl ?_
    refine wF rfl ?_
    refine wF rfl ?_
    refine wF rfl ?_
    refine wF rfl ?_
    refine wF rfl ?_
    refine wF rfl ?_
    refine wV (v_pick_t rfl rfl rfl) ?_
    refine wl_nil ?_
    first
      | exact ⟨_, (sc rfl (sc rfl (sc rfl (sn _)))), ⟨dec_eq ⟨fun hd hh => (by have h_ := of_nd_t hd; have h2_ := hh.2; omega), fun hh => (by
          cases h_ : decide ((t.kids.length : Int) = u.kids.length)
          · rfl
          · exact absurd ⟨ndp_eq g11p g18p g25p, by have h2_ := oT h_; omega⟩ hh)⟩, H4⟩⟩
      | exact ⟨_, (sc rfl (sc rfl (sc rfl (sn _)))), ⟨(dec_t fun hh => g11p (congrArg NdP.kind hh.1)).symm, H4⟩⟩
      | exact ⟨_, (sc rfl (sc rfl (sc rfl (sn _)))), ⟨(dec_t fun hh => g18p (congrArg NdP.name hh.1)).symm, H4⟩⟩
      | exact ⟨_, (sc rfl (sc rfl (sc rfl (sn _)))), ⟨(dec_t fun hh => g25p (congrArg NdP.tok hh.1)).symm, H4⟩⟩
   have g11p := of_nd_f g11
   refine wV (v_fb (o2 := 1) fa24_1 rfl rfl) ?_
   refine wO g11 ?_
   refine wV (v_load one9 rfl (H4.at (by repeat constructor) rfl)) ?_
   refine wO g11 ?_
   refine wV (v_fb (o2 := 1) fa24_1 rfl rfl) ?_
   refine wO g11 ?_
   refine wV (v_load one9 rfl (H4.at (by repeat constructor) rfl)) ?_
   refine wO g11 ?_
   refine wV (v_neqs rfl rfl) ?_
   refine wV (v_pick_f rfl g11 rfl) ?_
   refine wM ?_
   refine wl_guard rfl rfl rfl (fun g18 => ?_) (fun g18 => ?_)
   rotate_left
   ·have g18p := of_nd_t g18
    refine wF g18 ?_
    refine wF g18 ?_
    refine wF g18 ?_
    refine wF g18 ?_
    refine wV (v_pick_t rfl g18 rfl) ?_
    refine wM ?_
    refine wF rfl ?_
    refine wF rfl ?_
    refine wF rfl ?_
    refine wF rfl ?_
    refine wF rfl ?_
    refine wF rfl ?_
    refine wF rfl ?_
    refine wV (v_pick_t rfl rfl rfl) ?_
    refine wl_nil ?_
    first
      | exact ⟨_, (sc rfl (sc rfl (sc rfl (sn _)))), ⟨dec_eq ⟨fun hd hh => (by have h_ := of_nd_t hd; have h2_ := hh.2; omega), fun hh => (by
          cases h_ : decide ((t.kids.length : Int) = u.kids.length)
          · rfl
          · exact absurd ⟨ndp_eq g11p g18p g25p, by have h2_ := oT h_; omega⟩ hh)⟩, H4⟩⟩
      | exact ⟨_, (sc rfl (sc rfl (sc rfl (sn _)))), ⟨(dec_t fun hh => g11p (congrArg NdP.kind hh.1)).symm, H4⟩⟩
      | exact ⟨_, (sc rfl (sc rfl (sc rfl (sn _)))), ⟨(dec_t fun hh => g18p (congrArg NdP.name hh.1)).symm, H4⟩⟩
      | exact ⟨_, (sc rfl (sc rfl (sc rfl (sn _)))), ⟨(dec_t fun hh => g25p (congrArg NdP.tok hh.1)).symm, H4⟩⟩
   have g18p := of_nd_f g18
   refine wV (v_fb (o2 := 2) fa24_2 rfl rfl) ?_
   refine wO g18 ?_
   refine wV (v_load one3 rfl (H4.at (by repeat constructor) rfl)) ?_
   refine wO g18 ?_
   refine wV (v_fb (o2 := 2) fa24_2 rfl rfl) ?_
   refine wO g18 ?_
   refine wV (v_load one3 rfl (H4.at (by repeat constructor) rfl)) ?_
   refine wO g18 ?_
   refine wV (v_neq rfl rfl) ?_
   refine wV (v_pick_f rfl g18 rfl) ?_
   refine wM ?_
   refine wl_guard rfl rfl rfl (fun g25 => ?_) (fun g25 => ?_)
   rotate_left
   ·have g25p := of_nd_t g25
    refine wF g25 ?_
    refine wF g25 ?_
    refine wF g25 ?_
    refine wF g25 ?_
    refine wF g25 ?_
    refine wF g25 ?_
    refine wV (v_pick_t rfl g25 rfl) ?_
    refine wl_nil ?_
    first
      | exact ⟨_, (sc rfl (sc rfl (sc rfl (sn _)))), ⟨dec_eq ⟨fun hd hh => (by have h_ := of_nd_t hd; have h2_ := hh.2; omega), fun hh => (by
          cases h_ : decide ((t.kids.length : Int) = u.kids.length)
          · rfl
          · exact absurd ⟨ndp_eq g11p g18p g25p, by have h2_ := oT h_; omega⟩ hh)⟩, H4⟩⟩
      | exact ⟨_, (sc rfl (sc rfl (sc rfl (sn _)))), ⟨(dec_t fun hh => g11p (congrArg NdP.kind hh.1)).symm, H4⟩⟩
      | exact ⟨_, (sc rfl (sc rfl (sc rfl (sn _)))), ⟨(dec_t fun hh => g18p (congrArg NdP.name hh.1)).symm, H4⟩⟩
      | exact ⟨_, (sc rfl (sc rfl (sc rfl (sn _)))), ⟨(dec_t fun hh => g25p (congrArg NdP.tok hh.1)).symm, H4⟩⟩
   have g25p := of_nd_f g25
   refine wV (v_fb (o2 := 3) fa24_3 rfl rfl) ?_
   refine wO g25 ?_
   refine wV (v_load one22 rfl (H4.at (by repeat constructor) rfl)) ?_
   refine wO g25 ?_
   refine wV (v_len Try.underlying22 rfl) ?_
   refine wO g25 ?_
   refine wV (v_fb (o2 := 3) fa24_3 rfl rfl) ?_
   refine wO g25 ?_
   refine wV (v_load one22 rfl (H4.at (by repeat constructor) rfl)) ?_
   refine wO g25 ?_
   refine wV (v_len Try.underlying22 rfl) ?_
   refine wO g25 ?_
   refine wV (v_neq rfl rfl) ?_
   refine wV (v_pick_f rfl g25 rfl) ?_
   refine wl_nil ?_
   first
     | exact ⟨_, (sc rfl (sc rfl (sc rfl (sn _)))), ⟨dec_eq ⟨fun hd hh => (by have h_ := of_nd_t hd; have h2_ := hh.2; omega), fun hh => (by
         cases h_ : decide ((t.kids.length : Int) = u.kids.length)
         · rfl
         · exact absurd ⟨ndp_eq g11p g18p g25p, by have h2_ := oT h_; omega⟩ hh)⟩, H4⟩⟩
     | exact ⟨_, (sc rfl (sc rfl (sc rfl (sn _)))), ⟨(dec_t fun hh => g11p (congrArg NdP.kind hh.1)).symm, H4⟩⟩
     | exact ⟨_, (sc rfl (sc rfl (sc rfl (sn _)))), ⟨(dec_t fun hh => g18p (congrArg NdP.name hh.1)).symm, H4⟩⟩
     | exact ⟨_, (sc rfl (sc rfl (sc rfl (sn _)))), ⟨(dec_t fun hh => g25p (congrArg NdP.tok hh.1)).symm, H4⟩⟩
  rintro q Wm ⟨hq, H⟩
  refine wc_cond rfl (fun c0 => ?_) (fun c0 => ?_)
  ·refine wcR ?_
   refine wA ?_
   refine wl_nil ?_
   refine wc_ret ?_
   first
     | (have q_ := c2
        exact ⟨_, res1 rfl rfl, congrArg Value.bool (dec_f fun hh => of_ndec (of_n_t c2) (by rw [hh])).symm, H.pm (by repeat (first | exact Pm.nil _ | constructor))⟩)
     | (have q_ := c1p
        exact ⟨_, res1 rfl rfl, congrArg Value.bool (dec_t (nd_ext hx hlen fun j hj => ha j (by omega))).symm, H.pm (by repeat (first | exact Pm.nil _ | constructor))⟩)
     | exact ⟨_, res1 rfl rfl, congrArg Value.bool (dec_f fun hh => of_dec (hq.symm.trans c0) (by rw [hh]; exact ⟨rfl, rfl⟩)).symm, H.pm (by repeat (first | exact Pm.nil _ | constructor))⟩
  obtain ⟨hx, hlen⟩ := Classical.byContradiction (of_ndec (hq.symm.trans c0))
  refine wc_skip ?_
  refine wc_seq ?_
  refine wcR ?_
  refine wA ?_
  refine wl_nil ?_
  refine wc_block ?_
  refine wc_loop (σ := Nat) (fun s => [(2, .pointer (some ⟨b2, 0, none⟩)), (3, .pointer (some ⟨b3, 0, none⟩)), (5, .int .i64 s)]) (fun s W => (s ≤ t.kids.length ∧ ∀ j, j < s → t.kids.getD j nd0 = u.kids.getD j nd0) ∧ Holds w [Blk b3 24 [.int .i64 u.x.kind, .string u.x.name, .int .i64 u.x.tok, .slice B u.kids.length k2], Blk b2 24 [.int .i64 t.x.kind, .string t.x.name, .int .i64 t.x.tok, .slice A t.kids.length k]] W) (fun s => t.kids.length - s) 0 (sc rfl (sc rfl (sc rfl (sn _)))) ⟨⟨Nat.zero_le _, upto_zero⟩, H⟩ ?_
  rintro i W0 ⟨⟨hi, ha⟩, H⟩
  refine wc_seq ?_
  refine wcR ?_
  refine wM ?_
  refine wV (v_fb (o2 := 3) fa24_3 rfl rfl) ?_
  refine wV (v_load one22 rfl (H.at (by repeat constructor) rfl)) ?_
  refine wV (v_len Try.underlying22 rfl) ?_
  refine wV (v_lss rfl rfl) ?_
  refine wl_nil ?_
  refine wc_cond rfl (fun c1 => ?_) (fun c1 => ?_)
  rotate_left
  ·have c1p := oF c1
   refine wc_exit ?_
   refine wcR ?_
   refine wA ?_
   refine wl_nil ?_
   refine wc_ret ?_
   first
     | (have q_ := c2
        exact ⟨_, res1 rfl rfl, congrArg Value.bool (dec_f fun hh => of_ndec (of_n_t c2) (by rw [hh])).symm, H.pm (by repeat (first | exact Pm.nil _ | constructor))⟩)
     | (have q_ := c1p
        exact ⟨_, res1 rfl rfl, congrArg Value.bool (dec_t (nd_ext hx hlen fun j hj => ha j (by omega))).symm, H.pm (by repeat (first | exact Pm.nil _ | constructor))⟩)
     | exact ⟨_, res1 rfl rfl, congrArg Value.bool (dec_f fun hh => of_dec (hq.symm.trans c0) (by rw [hh]; exact ⟨rfl, rfl⟩)).symm, H.pm (by repeat (first | exact Pm.nil _ | constructor))⟩
  have c1p := oT c1
  have hin : i < t.kids.length := by omega
  refine wc_skip ?_
  refine wc_seq ?_
  refine wc_block ?_
  refine wc_seq ?_
  refine wc_tree [0, 1, 2, 3, 4, 5, 6, 7, 8, 9] (fun W => Holds w [Blk b3 24 [.int .i64 u.x.kind, .string u.x.name, .int .i64 u.x.tok, .slice B u.kids.length k2], Blk b2 24 [.int .i64 t.x.kind, .string t.x.name, .int .i64 t.x.tok, .slice A t.kids.length k]] W) mixed ?_
  have Hd := H.drew
  have HSd : Holds w [Blk b3 24 [.int .i64 u.x.kind, .string u.x.name, .int .i64 u.x.tok, .slice B u.kids.length k2], Blk b2 24 [.int .i64 t.x.kind, .string t.x.name, .int .i64 t.x.tok, .slice A t.kids.length k]] _ := Hd.pm (by repeat constructor)
  refine wjV (k := 0) rfl HSd (fun W HW => v_fb (o2 := 3) fa24_3 rfl rfl) ?_
  refine wjV (k := 1) rfl HSd (fun W HW => v_load one22 rfl (HW.at (by repeat constructor) rfl)) ?_
  refine wjV (k := 2) rfl HSd (fun W HW => v_move rfl) ?_
  refine wjV (k := 3) rfl HSd (fun W HW => v_idx Try.underlying22 sz24 ht.ad rfl rfl (by omega) (by omega)) ?_
  obtain ⟨B45_, k45_, hc45_, hl45_, hr45_⟩ := ht.atTr nd0 (i := i) (by omega)
  refine wjV (k := 4) rfl HSd (fun W HW => v_loadN (cs := [.int .i64 (t.kids.getD i nd0).x.kind, .string (t.kids.getD i nd0).x.name, .int .i64 (t.kids.getD i nd0).x.tok, .slice B45_ (t.kids.getD i nd0).kids.length k45_]) agg24 rfl rfl (fun q_ u_ hu_ => HW.cell (hc45_ q_ u_ hu_))) ?_
  refine wjV (k := 5) rfl HSd (fun W HW => v_fb (o2 := 3) fa24_3 rfl rfl) ?_
  refine wjV (k := 6) rfl HSd (fun W HW => v_load one22 rfl (HW.at (by repeat constructor) rfl)) ?_
  refine wjV (k := 7) rfl HSd (fun W HW => v_move rfl) ?_
  refine wjV (k := 8) rfl HSd (fun W HW => v_idx Try.underlying22 sz24 hu.ad rfl rfl (by omega) (by omega)) ?_
  obtain ⟨B50_, k50_, hc50_, hl50_, hr50_⟩ := hu.atTr nd0 (i := i) (by omega)
  refine wjV (k := 9) rfl HSd (fun W HW => v_loadN (cs := [.int .i64 (u.kids.getD i nd0).x.kind, .string (u.kids.getD i nd0).x.name, .int .i64 (u.kids.getD i nd0).x.tok, .slice B50_ (u.kids.getD i nd0).kids.length k50_]) agg24 rfl rfl (fun q_ u_ hu_ => HW.cell (hc50_ q_ u_ hu_))) ?_
  refine wj_t (k := 10) rfl (by kernel_rfl) ?_
  refine wl_call en14 rfl rfl (ih _ (getD_mem (z := nd0) hin) _ _ _ _ _ _ (hr45_.below Hd.old) (hr50_.below Hd.old) (Tr.Alls_at nd0 hin hks)) ?_
  rintro _ w5 ⟨rfl, Hc⟩
  have H6 := Hd.call0 Hc
  refine wl_nil (tn ⟨fun hlt => absurd hlt (by rw [show allH _ _ _ = true by kernel_rfl]; simp), ?_⟩)
  refine wj_t (k := 11) rfl (by kernel_rfl) ?_
  refine wV (v_not rfl) ?_
  refine wl_nil (tn ⟨fun hlt => absurd hlt (by rw [show allH _ _ _ = true by kernel_rfl]; simp), ?_⟩)
  refine wj_done (by kernel_rfl) ?_
  refine wc_cond rfl (fun c2 => ?_) (fun c2 => ?_)
  rotate_left
  ·have c2p := of_n_f c2
   refine wc_skip ?_
   refine wc_region ?_
   refine wM ?_
   refine wV (v_addi rfl rfl (by omega)) ?_
   refine wA ?_
   refine wl_nil ?_
   exact ⟨i + 1, (sc rfl (sc rfl (sc rfl (sn _)))), ⟨⟨by omega, upto_succ ha (of_dec (of_n_f c2))⟩, H6⟩, by omega⟩
  have c2p := of_n_t c2
  refine wcR ?_
  refine wA ?_
  refine wl_nil ?_
  refine wc_ret ?_
  first
    | (have q_ := c2
       exact ⟨_, res1 rfl rfl, congrArg Value.bool (dec_f fun hh => of_ndec (of_n_t c2) (by rw [hh])).symm, H6.pm (by repeat (first | exact Pm.nil _ | constructor))⟩)
    | (have q_ := c1p
       exact ⟨_, res1 rfl rfl, congrArg Value.bool (dec_t (nd_ext hx hlen fun j hj => ha j (by omega))).symm, H6.pm (by repeat (first | exact Pm.nil _ | constructor))⟩)
    | exact ⟨_, res1 rfl rfl, congrArg Value.bool (dec_f fun hh => of_dec (hq.symm.trans c0) (by rw [hh]; exact ⟨rfl, rfl⟩)).symm, H6.pm (by repeat (first | exact Pm.nil _ | constructor))⟩

theorem rsame_calls : ∀ t : Nd, rsameOk t := Tr.ind fun x kids ih => fun u w A B k k2 ht hu hf => rsame_step (t := .mk x kids) ht hu hf ih
end Go.Proofs.Ytgdemplcpcacaaa.SameN

/-! Pieces of texts, as the document finds them. -/
namespace Go.Proofs.YtgdemplcpcacaaaFx
open Go Go.RowKit
/-- The byte at a place. -/
def bt (s : ByteArray) (i k : Nat) : Nat := byA s (i + k)
/-- The number that n bytes at a place tell. -/
def cnd (s : ByteArray) (i n : Nat) : Nat :=
  if n = 1 then bt s i 0 else if n = 2 then bt s i 0 % 32 * 64 + bt s i 1 % 64 else if n = 3 then bt s i 0 % 16 * 4096 + bt s i 1 % 64 * 64 + bt s i 2 % 64 else bt s i 0 % 8 * 262144 + bt s i 1 % 64 * 4096 + bt s i 2 % 64 * 64 + bt s i 3 % 64
/-- These n bytes are a rune's. -/
def isR (s : ByteArray) (i n : Nat) : Prop := i + n ≤ s.size ∧ Utf8.valid (cnd s i n) = true ∧ Utf8.encode (cnd s i n) = s.extract i (i + n)
theorem ext_at {s : ByteArray} {i n k : Nat} (hn : i + n ≤ s.size) (hk : k < n) : (s.extract i (i + n)).data.getD k 0 = s.data.getD (i + k) 0 := by
  rw [Array.getD_eq_getD_getElem?, Array.getD_eq_getD_getElem?]
  congr 1
  have e : (s.extract i (i + n)).data = s.data.extract i (i + n) := by simp
  rw [e, Array.getElem?_extract]
  rw [if_pos (by have h : s.data.size = s.size := rfl; omega)]
theorem ext_list {s : ByteArray} {i n : Nat} (hn : i + n ≤ s.size) (l : List UInt8) (hl : l.length = n) : (⟨l.toArray⟩ : ByteArray) = s.extract i (i + n) ↔ ∀ k, k < n → (l.getD k 0).toNat = bt s i k := by
  constructor
  · intro h k hk
    have h2 := ext_at hn hk
    rw [← h] at h2
    unfold bt byA
    rw [← h2]
    simp [Array.getD_eq_getD_getElem?, List.getD_eq_getElem?_getD]
  · intro h
    have hs : (s.extract i (i + n)).size = n := by rw [ByteArray.size_extract]; omega
    apply ByteArray.ext
    apply Array.ext
    · show l.toArray.size = (s.extract i (i + n)).size
      rw [hs]
      simpa using hl
    · intro k h1 h2
      have hk : k < n := by rw [← hl]; simpa using h1
      have h3 := ext_at hn hk
      have h4 := h k hk
      unfold bt byA at h4
      rw [← h3] at h4
      have h5 := UInt8.toNat_inj.1 h4
      rw [Array.getD_eq_getD_getElem?, Array.getElem?_eq_getElem h2, List.getD_eq_getElem?_getD, List.getElem?_eq_getElem (by omega)] at h5
      simpa using h5
theorem of_toNat {n : Nat} (h : n < 256) : (UInt8.ofNat n).toNat = n := by
  rw [UInt8.toNat_ofNat']
  omega
theorem enc_is {c : Nat} (hv : Utf8.valid (c : Int) = true) : Utf8.encode (c : Int) = ⟨(if c < 128 then [UInt8.ofNat c] else if c < 2048 then [UInt8.ofNat (192 + c / 64), UInt8.ofNat (128 + c % 64)] else if c < 65536 then [UInt8.ofNat (224 + c / 4096), UInt8.ofNat (128 + c / 64 % 64), UInt8.ofNat (128 + c % 64)] else [UInt8.ofNat (240 + c / 262144), UInt8.ofNat (128 + c / 4096 % 64), UInt8.ofNat (128 + c / 64 % 64), UInt8.ofNat (128 + c % 64)]).toArray⟩ := by
  unfold Utf8.encode
  simp only [hv, if_true, Int.toNat_natCast]
  split
  · rfl
  · split
    · rfl
    · split <;> rfl
theorem bt_lt (s : ByteArray) (i k : Nat) : bt s i k < 256 := byA_lt s (i + k)
/-- What decode reads. -/
theorem dec_at {s : ByteArray} {i k : Nat} (h : i + k < s.size) : ((s.extract i s.size).get! (0 + k)).toNat = bt s i k := by
  have h1 : i + (s.size - i) ≤ s.size := by omega
  have h2 := ext_at (s := s) (i := i) (n := s.size - i) (k := k) h1 (by omega)
  rw [show i + (s.size - i) = s.size by omega] at h2
  unfold bt byA
  rw [← h2, Nat.zero_add]
  have hk : k < (s.extract i s.size).data.size := by
    have : (s.extract i s.size).size = s.size - i := by rw [ByteArray.size_extract]; omega
    have h3 : (s.extract i s.size).data.size = (s.extract i s.size).size := rfl
    omega
  show ((s.extract i s.size).data[k]!).toNat = _
  rw [getElem!_pos (s.extract i s.size).data k hk, Array.getD_eq_getD_getElem?, Array.getElem?_eq_getElem hk]
  rfl
theorem dec_any {s : ByteArray} {i : Nat} (k : Nat) (hi : i ≤ s.size) : ((s.extract i s.size).get! (0 + k)).toNat = bt s i k := by
  rcases Nat.lt_or_ge (i + k) s.size with h | h
  · exact dec_at h
  · have h1 : (s.extract i s.size).data.size = s.size - i := by
      have : (s.extract i s.size).size = s.size - i := by rw [ByteArray.size_extract]; omega
      exact this
    have h2 : s.data.size = s.size := rfl
    rw [Nat.zero_add]
    show ((s.extract i s.size).data[k]!).toNat = _
    rw [getElem!_neg (s.extract i s.size).data k (by omega)]
    unfold bt byA
    rw [Array.getD_eq_getD_getElem?, Array.getElem?_eq_none (by omega)]
    rfl
section
variable {s : ByteArray} {i : Nat}
theorem isR_size {n : Nat} (h : isR s i n) : n = (if (cnd s i n : Int) < 128 then 1 else if (cnd s i n : Int) < 2048 then 2 else if (cnd s i n : Int) < 65536 then 3 else 4) := by
  obtain ⟨hn, hv, he⟩ := h
  have := congrArg ByteArray.size he
  rw [enc_size hv, ByteArray.size_extract] at this
  omega
theorem isR1 (hn : i + 1 ≤ s.size) : isR s i 1 ↔ bt s i 0 < 128 := by
  have hb := bt_lt s i 0
  have hc : cnd s i 1 = bt s i 0 := rfl
  constructor
  · intro h
    have := isR_size h
    rw [hc] at this
    split at this
    · omega
    · split at this
      · omega
      · split at this <;> omega
  · intro h
    have hv : Utf8.valid (cnd s i 1 : Int) = true := (valid_iff _).2 (.inl (by omega))
    refine ⟨hn, hv, ?_⟩
    rw [enc_is hv, if_pos (by omega)]
    refine (ext_list hn _ rfl).2 fun k hk => ?_
    obtain rfl : k = 0 := by omega
    show (UInt8.ofNat (cnd s i 1)).toNat = _
    rw [of_toNat (by omega), hc]
theorem isR2 (hn : i + 2 ≤ s.size) : isR s i 2 ↔ (bt s i 0 / 32 = 6 ∧ bt s i 1 / 64 = 2) ∧ 128 ≤ cnd s i 2 := by
  have hb0 := bt_lt s i 0
  have hb1 := bt_lt s i 1
  have hc : cnd s i 2 = bt s i 0 % 32 * 64 + bt s i 1 % 64 := rfl
  constructor
  · intro h
    have h2 := isR_size h
    obtain ⟨_, hv, he⟩ := h
    have h3 : 128 ≤ cnd s i 2 ∧ cnd s i 2 < 2048 := by
      split at h2
      · omega
      · split at h2
        · omega
        · split at h2 <;> omega
    rw [enc_is hv, if_neg (by omega), if_pos (by omega)] at he
    have h4 := (ext_list hn _ rfl).1 he
    have k0 : (UInt8.ofNat (192 + cnd s i 2 / 64)).toNat = bt s i 0 := h4 0 (by omega)
    have k1 : (UInt8.ofNat (128 + cnd s i 2 % 64)).toNat = bt s i 1 := h4 1 (by omega)
    rw [of_toNat (by omega)] at k0 k1
    omega
  · rintro ⟨⟨h0, h1⟩, h2⟩
    have hv : Utf8.valid (cnd s i 2 : Int) = true := (valid_iff _).2 (.inl (by omega))
    refine ⟨hn, hv, ?_⟩
    rw [enc_is hv, if_neg (by omega), if_pos (by omega)]
    refine (ext_list hn _ rfl).2 fun k hk => ?_
    rcases (by omega : k = 0 ∨ k = 1) with rfl | rfl
    · show (UInt8.ofNat (192 + cnd s i 2 / 64)).toNat = _
      rw [of_toNat (by omega)]; omega
    · show (UInt8.ofNat (128 + cnd s i 2 % 64)).toNat = _
      rw [of_toNat (by omega)]; omega
theorem isR3 (hn : i + 3 ≤ s.size) : isR s i 3 ↔ ((bt s i 0 / 16 = 14 ∧ bt s i 1 / 64 = 2) ∧ bt s i 2 / 64 = 2) ∧ 2048 ≤ cnd s i 3 ∧ Utf8.valid (cnd s i 3 : Int) = true := by
  have hb0 := bt_lt s i 0
  have hb1 := bt_lt s i 1
  have hb2 := bt_lt s i 2
  have hc : cnd s i 3 = bt s i 0 % 16 * 4096 + bt s i 1 % 64 * 64 + bt s i 2 % 64 := rfl
  constructor
  · intro h
    have h2 := isR_size h
    obtain ⟨_, hv, he⟩ := h
    have h3 : 2048 ≤ cnd s i 3 ∧ cnd s i 3 < 65536 := by
      split at h2
      · omega
      · split at h2
        · omega
        · split at h2 <;> omega
    rw [enc_is hv, if_neg (by omega), if_neg (by omega), if_pos (by omega)] at he
    have h4 := (ext_list hn _ rfl).1 he
    have k0 : (UInt8.ofNat (224 + cnd s i 3 / 4096)).toNat = bt s i 0 := h4 0 (by omega)
    have k1 : (UInt8.ofNat (128 + cnd s i 3 / 64 % 64)).toNat = bt s i 1 := h4 1 (by omega)
    have k2 : (UInt8.ofNat (128 + cnd s i 3 % 64)).toNat = bt s i 2 := h4 2 (by omega)
    rw [of_toNat (by omega)] at k0 k1 k2
    exact ⟨by omega, by omega, hv⟩
  · rintro ⟨⟨⟨h0, h1⟩, h2⟩, h3, hv⟩
    refine ⟨hn, hv, ?_⟩
    rw [enc_is hv, if_neg (by omega), if_neg (by omega), if_pos (by omega)]
    refine (ext_list hn _ rfl).2 fun k hk => ?_
    rcases (by omega : k = 0 ∨ k = 1 ∨ k = 2) with rfl | rfl | rfl
    · show (UInt8.ofNat (224 + cnd s i 3 / 4096)).toNat = _
      rw [of_toNat (by omega)]; omega
    · show (UInt8.ofNat (128 + cnd s i 3 / 64 % 64)).toNat = _
      rw [of_toNat (by omega)]; omega
    · show (UInt8.ofNat (128 + cnd s i 3 % 64)).toNat = _
      rw [of_toNat (by omega)]; omega
theorem isR4 (hn : i + 4 ≤ s.size) : isR s i 4 ↔ (((bt s i 0 / 8 = 30 ∧ bt s i 1 / 64 = 2) ∧ bt s i 2 / 64 = 2) ∧ bt s i 3 / 64 = 2) ∧ 65536 ≤ cnd s i 4 ∧ Utf8.valid (cnd s i 4 : Int) = true := by
  have hb0 := bt_lt s i 0
  have hb1 := bt_lt s i 1
  have hb2 := bt_lt s i 2
  have hb3 := bt_lt s i 3
  have hc : cnd s i 4 = bt s i 0 % 8 * 262144 + bt s i 1 % 64 * 4096 + bt s i 2 % 64 * 64 + bt s i 3 % 64 := rfl
  constructor
  · intro h
    have h2 := isR_size h
    obtain ⟨_, hv, he⟩ := h
    have h3 : 65536 ≤ cnd s i 4 := by
      split at h2
      · omega
      · split at h2
        · omega
        · split at h2 <;> omega
    rw [enc_is hv, if_neg (by omega), if_neg (by omega), if_neg (by omega)] at he
    have h4 := (ext_list hn _ rfl).1 he
    have hm := (valid_iff _).1 hv
    have k0 : (UInt8.ofNat (240 + cnd s i 4 / 262144)).toNat = bt s i 0 := h4 0 (by omega)
    have k1 : (UInt8.ofNat (128 + cnd s i 4 / 4096 % 64)).toNat = bt s i 1 := h4 1 (by omega)
    have k2 : (UInt8.ofNat (128 + cnd s i 4 / 64 % 64)).toNat = bt s i 2 := h4 2 (by omega)
    have k3 : (UInt8.ofNat (128 + cnd s i 4 % 64)).toNat = bt s i 3 := h4 3 (by omega)
    rw [of_toNat (by omega)] at k0 k1 k2 k3
    exact ⟨by omega, by omega, hv⟩
  · rintro ⟨⟨⟨⟨h0, h1⟩, h2⟩, h3⟩, h4, hv⟩
    refine ⟨hn, hv, ?_⟩
    rw [enc_is hv, if_neg (by omega), if_neg (by omega), if_neg (by omega)]
    refine (ext_list hn _ rfl).2 fun k hk => ?_
    rcases (by omega : k = 0 ∨ k = 1 ∨ k = 2 ∨ k = 3) with rfl | rfl | rfl | rfl
    · show (UInt8.ofNat (240 + cnd s i 4 / 262144)).toNat = _
      rw [of_toNat (by omega)]; omega
    · show (UInt8.ofNat (128 + cnd s i 4 / 4096 % 64)).toNat = _
      rw [of_toNat (by omega)]; omega
    · show (UInt8.ofNat (128 + cnd s i 4 / 64 % 64)).toNat = _
      rw [of_toNat (by omega)]; omega
    · show (UInt8.ofNat (128 + cnd s i 4 % 64)).toNat = _
      rw [of_toNat (by omega)]; omega
/-- decode, by the bytes. -/
theorem decode_is (hi : i < s.size) : Utf8.decode (s.extract i s.size) 0 = if bt s i 0 < 128 then (bt s i 0, 1)
    else if bt s i 0 / 32 = 6 ∧ i + 2 ≤ s.size ∧ bt s i 1 / 64 = 2 then (if 128 ≤ cnd s i 2 then (cnd s i 2, 2) else (65533, 1))
    else if (bt s i 0 / 16 = 14 ∧ i + 2 ≤ s.size ∧ bt s i 1 / 64 = 2) ∧ i + 3 ≤ s.size ∧ bt s i 2 / 64 = 2 then (if 2048 ≤ cnd s i 3 ∧ Utf8.valid (cnd s i 3 : Int) = true then (cnd s i 3, 3) else (65533, 1))
    else if ((bt s i 0 / 8 = 30 ∧ i + 2 ≤ s.size ∧ bt s i 1 / 64 = 2) ∧ i + 3 ≤ s.size ∧ bt s i 2 / 64 = 2) ∧ i + 4 ≤ s.size ∧ bt s i 3 / 64 = 2 then (if 65536 ≤ cnd s i 4 ∧ Utf8.valid (cnd s i 4 : Int) = true then (cnd s i 4, 4) else (65533, 1)) else (65533, 1) := by
  have hsz : (s.extract i s.size).size = s.size - i := by rw [ByteArray.size_extract]; omega
  have e1 : (0 + 1 < s.size - i) = (i + 2 ≤ s.size) := by apply propext; omega
  have e2 : (0 + 2 < s.size - i) = (i + 3 ≤ s.size) := by apply propext; omega
  have e3 : (0 + 3 < s.size - i) = (i + 4 ≤ s.size) := by apply propext; omega
  unfold Utf8.decode
  simp only [Utf8.runeError, hsz, dec_any _ (Nat.le_of_lt hi), e1, e2, e3, Bool.and_eq_true, beq_iff_eq, decide_eq_true_eq, ge_iff_le]
  rfl
theorem ext_ext {m : Nat} (h : i + m ≤ s.size) : (s.extract i s.size).extract 0 m = s.extract i (i + m) := by
  apply ByteArray.ext
  have e : ∀ (b : ByteArray) (x y : Nat), (b.extract x y).data = b.data.extract x y := fun b x y => by simp
  rw [e, e, e, Array.extract_extract]
  have h2 : s.data.size = s.size := rfl
  congr 1
  omega
theorem pre_at {p : ByteArray} (hi : i ≤ s.size) (h : i + p.size ≤ s.size) (he : s.extract i (i + p.size) = p) : pre (s.extract i s.size) p = true := dec_t ⟨by rw [ByteArray.size_extract]; omega, by rw [ext_ext h]; exact he⟩
theorem nxt_of {n : Nat} (hi : i < s.size) (h : isR s i n) (hd : Utf8.decode (s.extract i s.size) 0 = (cnd s i n, n)) : nxt s i = ((cnd s i n : Int), n, true) := by
  obtain ⟨hn, hv, he⟩ := h
  have hs := congrArg ByteArray.size he
  rw [ByteArray.size_extract] at hs
  unfold nxt
  rw [hd]
  dsimp only
  rw [if_neg]
  · rw [hs, show min (i + n) s.size - i = n by omega]
  · rintro ⟨h1, h2⟩
    rw [h1] at he
    have h3 : Utf8.encode ((65533 : Nat) : Int) = fffd := rfl
    rw [h3] at he
    have h4 : fffd.size = 3 := rfl
    rw [h1] at hs
    have h5 : (Utf8.encode ((65533 : Nat) : Int)).size = 3 := rfl
    rw [h5] at hs
    have h6 : n = 3 := by omega
    subst h6
    rw [pre_at (p := fffd) (Nat.le_of_lt hi) (by rw [h4]; exact hn) (by rw [h4]; exact he.symm)] at h2
    cases h2
theorem nxt_yes {n : Nat} (hi : i < s.size) (h1 : 1 ≤ n) (h4 : n ≤ 4) (h : isR s i n) : nxt s i = ((cnd s i n : Int), n, true) := by
  have hn := h.1
  refine nxt_of hi h ?_
  rw [decode_is hi]
  rcases (by omega : n = 1 ∨ n = 2 ∨ n = 3 ∨ n = 4) with rfl | rfl | rfl | rfl
  · rw [if_pos ((isR1 hn).1 h)]; rfl
  · obtain ⟨⟨a, b⟩, c⟩ := (isR2 hn).1 h
    rw [if_neg (by omega), if_pos ⟨a, hn, b⟩, if_pos c]
  · obtain ⟨⟨⟨a, b⟩, b2⟩, c⟩ := (isR3 hn).1 h
    rw [if_neg (by omega), if_neg (by omega), if_pos ⟨⟨a, by omega, b⟩, hn, b2⟩, if_pos c]
  · obtain ⟨⟨⟨⟨a, b⟩, b2⟩, b3⟩, c⟩ := (isR4 hn).1 h
    rw [if_neg (by omega), if_neg (by omega), if_neg (by omega), if_pos ⟨⟨⟨a, by omega, b⟩, by omega, b2⟩, hn, b3⟩, if_pos c]
theorem nxt_no (hi : i < s.size) (h : ∀ n, 1 ≤ n → n ≤ 4 → ¬ isR s i n) : nxt s i = (0, 1, false) := by
  have hd : Utf8.decode (s.extract i s.size) 0 = (65533, 1) := by
    rw [decode_is hi]
    rw [if_neg (fun h1 => h 1 (by omega) (by omega) ((isR1 hi).2 h1))]
    split
    · rename_i h2
      rw [if_neg (fun h3 => h 2 (by omega) (by omega) ((isR2 h2.2.1).2 ⟨⟨h2.1, h2.2.2⟩, h3⟩))]
    · split
      · rename_i h2
        rw [if_neg (fun h3 => h 3 (by omega) (by omega) ((isR3 h2.2.1).2 ⟨⟨⟨h2.1.1, h2.1.2.2⟩, h2.2.2⟩, h3⟩))]
      · split
        · rename_i h2
          rw [if_neg (fun h3 => h 4 (by omega) (by omega) ((isR4 h2.2.1).2 ⟨⟨⟨⟨h2.1.1.1, h2.1.1.2.2⟩, h2.1.2.2⟩, h2.2.2⟩, h3⟩))]
        · rfl
  unfold nxt
  rw [hd]
  refine if_pos ⟨rfl, ?_⟩
  cases hp : pre (s.extract i s.size) fffd
  · rfl
  · obtain ⟨h1, h2⟩ := of_dec hp
    have h4 : fffd.size = 3 := rfl
    rw [h4, ByteArray.size_extract] at h1
    have hn : i + 3 ≤ s.size := by omega
    rw [h4, ext_ext hn] at h2
    have h5 := (ext_list hn [239, 191, 189] rfl).1 h2.symm
    have k0 : 239 = bt s i 0 := h5 0 (by omega)
    have k1 : 191 = bt s i 1 := h5 1 (by omega)
    have k2 : 189 = bt s i 2 := h5 2 (by omega)
    have hc : cnd s i 3 = bt s i 0 % 16 * 4096 + bt s i 1 % 64 * 64 + bt s i 2 % 64 := rfl
    rw [← k0, ← k1, ← k2] at hc
    exact absurd ((isR3 hn).2 ⟨⟨⟨by omega, by omega⟩, by omega⟩, by omega, by rw [hc]; rfl⟩) (h 3 (by omega) (by omega))
end
end Go.Proofs.YtgdemplcpcacaaaFx

/-! Texts read back: what stands at a place; texts within quotes. -/
namespace Go.Proofs.YtgdemplcpcacaaaFx
open Go Go.RowKit
theorem ext_tl (s : ByteArray) (i j : Nat) : (s.extract i j).data.toList = (s.data.toList.drop i).take (j - i) := by
  have e : (s.extract i j).data = s.data.extract i j := by simp
  rw [e, Array.toList_extract, List.extract_eq_take_drop]
theorem tl_len (s : ByteArray) : s.data.toList.length = s.size := rfl
theorem ba_mk (s : ByteArray) : (⟨s.data.toList.toArray⟩ : ByteArray) = s := rfl
theorem ba_eq {s t : ByteArray} (h : s.data.toList = t.data.toList) : s = t := by rw [← ba_mk s, ← ba_mk t, h]
/-- These bytes stand at a place. -/
def AtL (s : ByteArray) (i : Nat) (l : List UInt8) : Prop := ∃ r, s.data.toList.drop i = l ++ r
section
variable {s v : ByteArray} {i j : Nat} {l a b : List UInt8}
theorem AtL.nil : AtL s i [] := ⟨_, rfl⟩
theorem atL_app : AtL s i (a ++ b) ↔ AtL s i a ∧ AtL s (i + a.length) b := by
  constructor
  · rintro ⟨r, h⟩
    refine ⟨⟨b ++ r, by rw [h, List.append_assoc]⟩, r, ?_⟩
    rw [← List.drop_drop, h, List.append_assoc, List.drop_left' rfl]
  · rintro ⟨⟨r, h⟩, r2, h2⟩
    refine ⟨r2, ?_⟩
    rw [← List.drop_drop, h, List.drop_left' rfl] at h2
    rw [h, h2, List.append_assoc]
theorem AtL.fst (h : AtL s i (a ++ b)) : AtL s i a := (atL_app.1 h).1
theorem AtL.snd (h : AtL s i (a ++ b)) : AtL s (i + a.length) b := (atL_app.1 h).2
theorem AtL.get (h : AtL s i l) {k : Nat} (hk : k < l.length) : i + k < s.size ∧ s.data.getD (i + k) 0 = l.getD k 0 := by
  obtain ⟨r, h⟩ := h
  have h1 : (s.data.toList.drop i)[k]? = (l ++ r)[k]? := by rw [h]
  rw [List.getElem?_drop, List.getElem?_append_left hk, List.getElem?_eq_getElem hk] at h1
  have h2 := (List.getElem?_eq_some_iff.1 h1).1
  refine ⟨h2, ?_⟩
  rw [Array.getD_eq_getD_getElem?, List.getD_eq_getElem?_getD, List.getElem?_eq_getElem hk, ← Array.getElem?_toList, h1]
theorem AtL.bya (h : AtL s i l) {k : Nat} (hk : k < l.length) : i + k < s.size ∧ byA s (i + k) = (l.getD k 0).toNat := by
  obtain ⟨h1, h2⟩ := h.get hk
  exact ⟨h1, by unfold byA; rw [h2]⟩
theorem AtL.le (h : AtL s i l) (hi : i ≤ s.size) : i + l.length ≤ s.size := by
  obtain ⟨r, h⟩ := h
  have := congrArg List.length h
  rw [List.length_drop, List.length_append, tl_len] at this
  omega
theorem AtL.lt (h : AtL s i l) (hl : 0 < l.length) : i < s.size := (h.get hl).1
theorem AtL.ext (h : AtL s i l) : (s.extract i (i + l.length)).data.toList = l := by
  obtain ⟨r, h⟩ := h
  rw [ext_tl, h, Nat.add_sub_cancel_left, List.take_left' rfl]
theorem atL_ext (s : ByteArray) (i j : Nat) : AtL s i (s.extract i j).data.toList := ⟨(s.data.toList.drop i).drop (j - i), by rw [ext_tl, List.take_append_drop]⟩
theorem AtL.hd {c : UInt8} (h : AtL s i (c :: l)) : i < s.size ∧ byA s i = c.toNat ∧ AtL s (i + 1) l := by
  obtain ⟨h1, h2⟩ := h.bya (k := 0) (by simp)
  have h3 : AtL s i ([c] ++ l) := h
  exact ⟨h1, h2, h3.snd⟩
theorem atL_one {c : UInt8} (hi : i < s.size) (hc : byA s i = c.toNat) : AtL s i [c] := by
  refine ⟨(s.data.toList.drop i).drop 1, ?_⟩
  have h1 : i < s.data.toList.length := hi
  rw [List.drop_drop, List.drop_eq_getElem_cons h1]
  have h2 : s.data.toList[i] = c := by
    apply UInt8.toNat_inj.1
    rw [← hc]
    unfold byA
    rw [Array.getD_eq_getD_getElem?, ← Array.getElem?_toList, List.getElem?_eq_getElem h1]
    rfl
  rw [h2]
  rfl
/-! ### pieces -/
theorem nxt_ok (hj : j < v.size) (h : (nxt v j).2.2 = true) : ∃ n, 1 ≤ n ∧ n ≤ 4 ∧ isR v j n ∧ nxt v j = ((cnd v j n : Int), n, true) := by
  rcases Classical.em (∃ n, 1 ≤ n ∧ n ≤ 4 ∧ isR v j n) with ⟨n, h1, h4, hR⟩ | hno
  · exact ⟨n, h1, h4, hR, nxt_yes hj h1 h4 hR⟩
  · rw [nxt_no hj fun n h1 h4 hR => hno ⟨n, h1, h4, hR⟩] at h
    cases h
theorem nxt_bad (hj : j < v.size) (h : (nxt v j).2.2 = false) : nxt v j = (0, 1, false) := by
  rcases Classical.em (∃ n, 1 ≤ n ∧ n ≤ 4 ∧ isR v j n) with ⟨n, h1, h4, hR⟩ | hno
  · rw [nxt_yes hj h1 h4 hR] at h
    cases h
  · exact nxt_no hj fun n h1 h4 hR => hno ⟨n, h1, h4, hR⟩
theorem nxt_asc (hi : i < s.size) (h : byA s i < 128) : nxt s i = (((byA s i : Nat) : Int), 1, true) := nxt_yes hi (by omega) (by omega) ((isR1 hi).2 h)
theorem nxt_low (hj : j < v.size) (h : (nxt v j).2.2 = true) (hl : (nxt v j).1 < 128) : (nxt v j).2.1 = 1 ∧ ((byA v j : Nat) : Int) = (nxt v j).1 := by
  obtain ⟨n, h1, h4, hR, e⟩ := nxt_ok hj h
  rw [e] at hl ⊢
  have hs := isR_size hR
  rw [if_pos hl] at hs
  subst hs
  exact ⟨rfl, rfl⟩
/-- A piece's bytes. -/
noncomputable def piece (v : ByteArray) (j : Nat) : List UInt8 := (v.extract j (j + (nxt v j).2.1)).data.toList
theorem piece_len (hj : j < v.size) : (piece v j).length = (nxt v j).2.1 := by
  have := nxt_fit hj
  unfold piece
  rw [tl_len, ByteArray.size_extract]
  omega
theorem piece_one (hj : j < v.size) (h : (nxt v j).2.1 = 1) : piece v j = [v.data.getD j 0] := by
  have h1 : j < v.data.toList.length := hj
  unfold piece
  rw [h, ext_tl, Nat.add_sub_cancel_left, List.drop_eq_getElem_cons h1, List.take_succ_cons, List.take_zero, Array.getD_eq_getD_getElem?, ← Array.getElem?_toList, List.getElem?_eq_getElem h1]
  rfl
theorem nxt_loc (hj : j < v.size) (h : (nxt v j).2.2 = true) (ha : AtL s i (piece v j)) : nxt s i = nxt v j := by
  obtain ⟨n, h1, h4, hR, e⟩ := nxt_ok hj h
  have hn : (nxt v j).2.1 = n := by rw [e]
  have hl := piece_len hj
  rw [hn] at hl
  have hi := ha.lt (by omega)
  have hle := ha.le (by omega)
  have hbt : ∀ k, k < n → bt s i k = bt v j k := fun k hk => by
    obtain ⟨_, h2⟩ := ha.bya (k := k) (by omega)
    obtain ⟨_, h3⟩ := (atL_ext v j (j + (nxt v j).2.1)).bya (k := k) (show k < (piece v j).length by omega)
    exact h2.trans h3.symm
  have hc : cnd s i n = cnd v j n := by
    rcases (by omega : n = 1 ∨ n = 2 ∨ n = 3 ∨ n = 4) with rfl | rfl | rfl | rfl
    · exact hbt 0 (by omega)
    · show bt s i 0 % 32 * 64 + bt s i 1 % 64 = bt v j 0 % 32 * 64 + bt v j 1 % 64
      rw [hbt 0 (by omega), hbt 1 (by omega)]
    · show bt s i 0 % 16 * 4096 + bt s i 1 % 64 * 64 + bt s i 2 % 64 = bt v j 0 % 16 * 4096 + bt v j 1 % 64 * 64 + bt v j 2 % 64
      rw [hbt 0 (by omega), hbt 1 (by omega), hbt 2 (by omega)]
    · show bt s i 0 % 8 * 262144 + bt s i 1 % 64 * 4096 + bt s i 2 % 64 * 64 + bt s i 3 % 64 = bt v j 0 % 8 * 262144 + bt v j 1 % 64 * 4096 + bt v j 2 % 64 * 64 + bt v j 3 % 64
      rw [hbt 0 (by omega), hbt 1 (by omega), hbt 2 (by omega), hbt 3 (by omega)]
  have hx : s.extract i (i + n) = v.extract j (j + n) := ba_eq (by
    have h2 := ha.ext
    rw [hl] at h2
    rw [h2]
    unfold piece
    rw [hn])
  have hR2 : isR s i n := ⟨by omega, by rw [hc]; exact hR.2.1, by rw [hc, hx]; exact hR.2.2⟩
  rw [e, nxt_yes hi h1 h4 hR2, hc]
/-- An escape of a quote's own form: what it stands for, its length. -/
def EscQ (t : ByteArray) (c : UInt8) (m : Nat) : Prop :=
  (2 ≤ t.size ∧ m = 2 ∧ ((byA t 1 = 110 ∧ c = 10) ∨ (byA t 1 = 116 ∧ c = 9) ∨ (byA t 1 = 114 ∧ c = 13) ∨ ((byA t 1 = 34 ∨ byA t 1 = 92) ∧ c.toNat = byA t 1))) ∨
  (4 ≤ t.size ∧ m = 4 ∧ byA t 1 = 120 ∧ ∃ p q, p < 16 ∧ q < 16 ∧ byA t 2 = (hexd p).toNat ∧ byA t 3 = (hexd q).toNat ∧ c.toNat = p * 16 + q)
theorem byA_suf (hi : i ≤ s.size) (k : Nat) : byA (s.extract i s.size) k = byA s (i + k) := by
  unfold byA
  rw [Array.getD_eq_getD_getElem?, Array.getD_eq_getD_getElem?, ← Array.getElem?_toList, ← Array.getElem?_toList, ext_tl, List.take_of_length_le (by rw [List.length_drop, tl_len]; exact Nat.le_refl _), List.getElem?_drop]
theorem u8_of {c : UInt8} {n : Nat} (h : c.toNat = n) : c = UInt8.ofNat n := by rw [← h]; simp
theorem qpart_at (hj : j < v.size) (h : AtL s i (qpart v j)) :
    (nxt s i = (92, 1, true) ∧ ∃ c, piece v j = [c] ∧ EscQ (s.extract i s.size) c (qpart v j).length) ∨
    (nxt s i = nxt v j ∧ (nxt v j).2.2 = true ∧ (32 ≤ (nxt v j).1 ∧ (nxt v j).1 ≠ 127) ∧ ((nxt v j).1 ≠ 34 ∧ (nxt v j).1 ≠ 92) ∧ (s.extract i (i + (nxt v j).2.1)).data.toList = piece v j ∧ (qpart v j).length = (nxt v j).2.1) := by
  have hb : ∀ {c : UInt8} {r : List UInt8}, AtL s i (92 :: c :: r) → i + 1 < s.size ∧ nxt s i = (92, 1, true) ∧ byA (s.extract i s.size) 1 = c.toNat := fun ha => by
    obtain ⟨h1, h2, h3⟩ := ha.hd
    obtain ⟨h4, h5, _⟩ := h3.hd
    have h6 : byA s i = 92 := h2
    refine ⟨h4, ?_, by rw [byA_suf (by omega)]; exact h5⟩
    rw [nxt_asc h1 (by omega), h6]
    rfl
  have hsz : (s.extract i s.size).size = s.size - i := by rw [ByteArray.size_extract]; omega
  have hone : ∀ n : Nat, n < 128 → n ≠ 0 → (nxt v j).1 = (n : Int) → (nxt v j).2.1 = 1 ∧ (v.data.getD j 0).toNat = n := fun n h1 h0 h2 => by
    have hok : (nxt v j).2.2 = true := by
      rcases Bool.eq_false_or_eq_true (nxt v j).2.2 with h3 | h3
      · exact h3
      · rw [nxt_bad hj h3] at h2
        exact absurd h2 (by show (0 : Int) ≠ n; omega)
    obtain ⟨h3, h4⟩ := nxt_low hj hok (by omega)
    exact ⟨h3, by have h5 : (v.data.getD j 0).toNat = byA v j := rfl; omega⟩
  rcases Classical.em ((nxt v j).1 = 10) with c1 | c1
  · have e : qpart v j = [92, 110] := by unfold qpart; rw [if_pos c1]
    rw [e] at h ⊢
    obtain ⟨h1, h2, h3⟩ := hb h
    obtain ⟨h4, h5⟩ := hone 10 (by omega) (by omega) c1
    exact .inl ⟨h2, _, piece_one hj h4, .inl ⟨by omega, rfl, .inl ⟨h3, UInt8.toNat_inj.1 h5⟩⟩⟩
  rcases Classical.em ((nxt v j).1 = 9) with c2 | c2
  · have e : qpart v j = [92, 116] := by unfold qpart; rw [if_neg c1, if_pos c2]
    rw [e] at h ⊢
    obtain ⟨h1, h2, h3⟩ := hb h
    obtain ⟨h4, h5⟩ := hone 9 (by omega) (by omega) c2
    exact .inl ⟨h2, _, piece_one hj h4, .inl ⟨by omega, rfl, .inr (.inl ⟨h3, UInt8.toNat_inj.1 h5⟩)⟩⟩
  rcases Classical.em ((nxt v j).1 = 13) with c3 | c3
  · have e : qpart v j = [92, 114] := by unfold qpart; rw [if_neg c1, if_neg c2, if_pos c3]
    rw [e] at h ⊢
    obtain ⟨h1, h2, h3⟩ := hb h
    obtain ⟨h4, h5⟩ := hone 13 (by omega) (by omega) c3
    exact .inl ⟨h2, _, piece_one hj h4, .inl ⟨by omega, rfl, .inr (.inr (.inl ⟨h3, UInt8.toNat_inj.1 h5⟩))⟩⟩
  rcases Classical.em ((nxt v j).1 = 34) with c4 | c4
  · have e : qpart v j = [92, 34] := by unfold qpart; rw [if_neg c1, if_neg c2, if_neg c3, if_pos c4]
    rw [e] at h ⊢
    obtain ⟨h1, h2, h3⟩ := hb h
    obtain ⟨h4, h5⟩ := hone 34 (by omega) (by omega) c4
    exact .inl ⟨h2, _, piece_one hj h4, .inl ⟨by omega, rfl, .inr (.inr (.inr ⟨.inl h3, h5.trans h3.symm⟩))⟩⟩
  rcases Classical.em ((nxt v j).1 = 92) with c5 | c5
  · have e : qpart v j = [92, 92] := by unfold qpart; rw [if_neg c1, if_neg c2, if_neg c3, if_neg c4, if_pos c5]
    rw [e] at h ⊢
    obtain ⟨h1, h2, h3⟩ := hb h
    obtain ⟨h4, h5⟩ := hone 92 (by omega) (by omega) c5
    exact .inl ⟨h2, _, piece_one hj h4, .inl ⟨by omega, rfl, .inr (.inr (.inr ⟨.inr h3, h5.trans h3.symm⟩))⟩⟩
  rcases Classical.em ((nxt v j).2.2 = false ∨ (nxt v j).1 < 32 ∨ (nxt v j).1 = 127) with c6 | c6
  · have e : qpart v j = [92, 120, hexd (byA v j / 16), hexd (byA v j % 16)] := by unfold qpart; rw [if_neg c1, if_neg c2, if_neg c3, if_neg c4, if_neg c5, if_pos c6]
    rw [e] at h ⊢
    obtain ⟨h1, h2, h3⟩ := hb h
    obtain ⟨_, _, k1⟩ := h.hd
    obtain ⟨_, _, k2⟩ := k1.hd
    obtain ⟨k3, k4, k5⟩ := k2.hd
    obtain ⟨k6, k7, _⟩ := k5.hd
    have h4 : (nxt v j).2.1 = 1 := by
      rcases Bool.eq_false_or_eq_true (nxt v j).2.2 with h9 | h9
      · exact (nxt_low hj h9 (by rcases c6 with c | c | c; · rw [h9] at c; cases c
                                 · omega
                                 · omega)).1
      · rw [nxt_bad hj h9]
    have hlt := byA_lt v j
    refine .inl ⟨h2, _, piece_one hj h4, .inr ⟨by omega, rfl, h3, byA v j / 16, byA v j % 16, by omega, by omega, ?_, ?_, ?_⟩⟩
    · rw [byA_suf (by omega)]; exact k4
    · rw [byA_suf (by omega)]; exact k7
    · show byA v j = _
      omega
  · have e : qpart v j = piece v j := by unfold qpart; rw [if_neg c1, if_neg c2, if_neg c3, if_neg c4, if_neg c5, if_neg c6]; rfl
    have hok : (nxt v j).2.2 = true := by
      rcases Bool.eq_false_or_eq_true (nxt v j).2.2 with h9 | h9
      · exact h9
      · exact absurd (.inl h9) c6
    rw [e] at h ⊢
    have hl := piece_len hj
    refine .inr ⟨nxt_loc hj hok h, hok, ⟨?_, fun hh => c6 (.inr (.inr hh))⟩, ⟨c4, c5⟩, ?_, hl⟩
    · rcases Int.lt_or_le (nxt v j).1 32 with h9 | h9
      · exact absurd (.inr (.inl h9)) c6
      · exact h9
    · have := h.ext
      rwa [hl] at this
/-- Reading what stands within quotes, so far. -/
def QI (s : ByteArray) (a i : Nat) (l : List UInt8) : Prop := ∀ v : ByteArray, v.size ≤ 4096 → AtL s (a + 1) (qb v 0 ++ [34]) → ∃ j, j ≤ v.size ∧ l = v.data.toList.take j ∧ AtL s i (qb v j ++ [34]) ∧ i + (qb v j).length = a + 1 + (qb v 0).length
def Qn (s : ByteArray) (a : Nat) : Prop := ∀ v : ByteArray, v.size ≤ 4096 → ¬ AtL s a (qv v).data.toList
def Qd (s : ByteArray) (a : Nat) (v : ByteArray) (e : Nat) : Prop := ∀ v0 : ByteArray, v0.size ≤ 4096 → AtL s a (qv v0).data.toList → v0 = v ∧ e = a + (qv v0).size
theorem qv_tl (h : v.size ≤ 4096) : (qv v).data.toList = 34 :: (qb v 0 ++ [34]) := by
  unfold qv
  rw [if_pos h]
  simp
end
section
variable {s : ByteArray} {a i : Nat} {l : List UInt8}
theorem QI.start : QI s a (a + 1) [] := fun v hv ha => ⟨0, Nat.zero_le _, rfl, ha, rfl⟩
theorem nxt34 {r : List UInt8} (h : AtL s i (34 :: r)) : nxt s i = (34, 1, true) := by
  obtain ⟨h1, h2, _⟩ := h.hd
  have h3 : byA s i = 34 := h2
  rw [nxt_asc h1 (by omega), h3]
  rfl
theorem take_piece {v : ByteArray} {j : Nat} (hj : j < v.size) : v.data.toList.take j ++ piece v j = v.data.toList.take (j + (nxt v j).2.1) := by
  unfold piece
  rw [ext_tl, Nat.add_sub_cancel_left, List.take_add]
theorem QI.raw (h : QI s a i l) (hi : i < s.size) (h1 : (nxt s i).1 ≠ 34) (h2 : (nxt s i).1 ≠ 92) : QI s a (i + (nxt s i).2.1) (l ++ (s.extract i (i + (nxt s i).2.1)).data.toList) := fun v hv ha => by
  obtain ⟨j, hj, hl, hat, hp⟩ := h v hv ha
  rcases Nat.lt_or_ge j v.size with hjv | hjv
  · rw [qb_step hjv, List.append_assoc] at hat
    have hf := nxt_fit hjv
    rcases qpart_at hjv hat.fst with ⟨e, _⟩ | ⟨e, _, _, _, he, hq⟩
    · exact absurd (by rw [e]) h2
    · rw [e]
      refine ⟨j + (nxt v j).2.1, hf.2.1, ?_, ?_, ?_⟩
      · rw [he, hl]
        exact take_piece hjv
      · have := hat.snd
        rwa [hq] at this
      · rw [qb_step hjv, List.length_append, hq] at hp
        omega
  · rw [qb_end (by omega)] at hat
    exact absurd (by rw [nxt34 hat]) h1
theorem QI.esc {c : ByteArray} {n : Nat} (h : QI s a i l) (hi : i < s.size) (h2 : (nxt s i).1 = 92) (hc : ∀ u m, EscQ (s.extract i s.size) u m → c = ⟨#[u]⟩ ∧ n = m) : QI s a (i + n) (l ++ c.data.toList) := fun v hv ha => by
  obtain ⟨j, hj, hl, hat, hp⟩ := h v hv ha
  rcases Nat.lt_or_ge j v.size with hjv | hjv
  · rw [qb_step hjv, List.append_assoc] at hat
    have hf := nxt_fit hjv
    have hpl := piece_len hjv
    rcases qpart_at hjv hat.fst with ⟨e, u, hu, hE⟩ | ⟨e, _, _, hn, he, hq⟩
    · obtain ⟨rfl, rfl⟩ := hc u _ hE
      refine ⟨j + (nxt v j).2.1, hf.2.1, ?_, hat.snd, ?_⟩
      · rw [hl, ← take_piece hjv, hu]
      · rw [qb_step hjv, List.length_append] at hp
        omega
    · exact absurd (by rw [← e]; exact h2) hn.2
  · rw [qb_end (by omega)] at hat
    rw [nxt34 hat] at h2
    exact absurd h2 (by decide)
theorem QI.none (h : QI s a i l) (hno : ∀ v : ByteArray, ∀ j, j ≤ v.size → l = v.data.toList.take j → AtL s i (qb v j ++ [34]) → v.size ≤ 4096 → False) : Qn s a := fun v hv ha => by
  rw [qv_tl hv] at ha
  obtain ⟨_, _, h3⟩ := ha.hd
  obtain ⟨j, hj, hl, hat, _⟩ := h v hv h3
  exact hno v j hj hl hat hv
theorem QI.bad (h : QI s a i l) (hb : (nxt s i).2.2 = false ∨ (nxt s i).1 < 32 ∨ (nxt s i).1 = 127) : Qn s a := h.none fun v j hj _ hat _ => by
  rcases Nat.lt_or_ge j v.size with hjv | hjv
  · rw [qb_step hjv, List.append_assoc] at hat
    rcases qpart_at hjv hat.fst with ⟨e, _⟩ | ⟨e, h1, h2, _⟩
    · rw [e] at hb
      revert hb
      decide
    · rw [e, h1] at hb
      rcases hb with h3 | h3 | h3
      · cases h3
      · omega
      · exact h2.2 h3
  · rw [qb_end (by omega)] at hat
    rw [nxt34 hat] at hb
    revert hb
    decide
theorem QI.noesc (h : QI s a i l) (h2 : (nxt s i).1 = 92) (hc : ∀ u m, ¬ EscQ (s.extract i s.size) u m) : Qn s a := h.none fun v j hj _ hat _ => by
  rcases Nat.lt_or_ge j v.size with hjv | hjv
  · rw [qb_step hjv, List.append_assoc] at hat
    rcases qpart_at hjv hat.fst with ⟨e, u, _, hE⟩ | ⟨e, _, _, hn, _⟩
    · exact hc _ _ hE
    · exact hn.2 (by rw [← e]; exact h2)
  · rw [qb_end (by omega)] at hat
    rw [nxt34 hat] at h2
    exact absurd h2 (by decide)
theorem QI.over (h : QI s a i l) (hi : s.size ≤ i) : Qn s a := h.none fun v j hj _ hat _ => by
  have := hat.lt (by simp)
  omega
theorem QI.fin (h : QI s a i l) (h1 : (nxt s i).1 = 34) : (∀ v : ByteArray, v.size ≤ 4096 → AtL s a (qv v).data.toList → l = v.data.toList ∧ i + 1 = a + (qv v).size) := fun v hv ha => by
  have hq := qv_tl hv
  have hqs : (qv v).size = (qb v 0).length + 2 := by
    have := congrArg List.length hq
    rw [tl_len] at this
    simpa using this
  rw [hq] at ha
  obtain ⟨_, _, h3⟩ := ha.hd
  obtain ⟨j, hj, hl, hat, hp⟩ := h v hv h3
  rcases Nat.lt_or_ge j v.size with hjv | hjv
  · rw [qb_step hjv, List.append_assoc] at hat
    rcases qpart_at hjv hat.fst with ⟨e, _⟩ | ⟨e, _, _, hn, _⟩
    · rw [e] at h1
      exact absurd h1 (by decide)
    · exact absurd (by rw [← e]; exact h1) hn.1
  · rw [qb_end (by omega)] at hp
    refine ⟨by rw [hl]; exact List.take_of_length_le (by rw [tl_len]; omega), ?_⟩
    rw [hqs]
    simp only [List.length_nil] at hp
    omega
theorem QI.done (h : QI s a i l) (h1 : (nxt s i).1 = 34) : Qd s a ⟨l.toArray⟩ (i + 1) := fun v hv ha => by
  obtain ⟨h2, h3⟩ := h.fin h1 v hv ha
  exact ⟨by rw [h2], h3⟩
theorem QI.long (h : QI s a i l) (h1 : (nxt s i).1 = 34) (hl : 4096 < l.length) : Qn s a := fun v hv ha => by
  obtain ⟨h2, _⟩ := h.fin h1 v hv ha
  rw [h2, tl_len] at hl
  omega
end
end Go.Proofs.YtgdemplcpcacaaaFx

/-! Reading nodes: what a text's reading finds; that it is the node's one text, and finds each node. -/
namespace Go.Proofs.YtgdemplcpcacaaaFx
open Go Go.RowKit
abbrev e0 : ByteArray := ⟨#[]⟩
def sepL (f : Bool) : List UInt8 := if f then [40] else [44, 32]
/-- A word stands here, the longest. -/
def Wd (s : ByteArray) (a b : Nat) : Prop := (a < b ∧ b ≤ s.size ∧ b - a ≤ 32) ∧ NameOk 32 (s.extract a b) ∧ (b < s.size → b - a < 32 → ¬ NameOk 32 (s.extract a (b + 1)))
/-- What reading finds. -/
inductive Rg (s : ByteArray) : Option Bool → Nat → List Nd → Nat → Bool → Prop
  | off {a} : s.size ≤ a → Rg s none a [nd0] a true
  | dash {a} : a < s.size → byA s a = 45 → Rg s none a [nd0] (a + 1) false
  | txt {a e v} : a < s.size → byA s a = 34 → v.size ≤ 4096 → a < e → e ≤ s.size → s.extract a e = qv v → Qd s a v e → Rg s none a [.mk ⟨2, v, 0⟩ []] e false
  | ntx {a} : a < s.size → byA s a = 34 → Qn s a → Rg s none a [nd0] a true
  | nwd {a} : a < s.size → byA s a ≠ 45 → byA s a ≠ 34 → ¬ NameOk 32 (s.extract a (a + 1)) → Rg s none a [nd0] a true
  | leaf {a b} : Wd s a b → ¬ (b < s.size ∧ byA s b = 40) → Rg s none a [.mk ⟨3, s.extract a b, 0⟩ []] b false
  | kids {a b ks c bad} : Wd s a b → b < s.size → byA s b = 40 → Rg s (some true) b ks c bad → Rg s none a [.mk ⟨3, s.extract a b, 0⟩ ks] c bad
  | nosep {a c f} : a ≤ c → c ≤ s.size → ¬ AtL s a (sepL f) → Rg s (some f) a [] c true
  | kbad {a f k c} : AtL s a (sepL f) → Rg s none (a + (sepL f).length) [k] c true → Rg s (some f) a [k] c true
  | last {a f k c} : AtL s a (sepL f) → Rg s none (a + (sepL f).length) [k] c false → c < s.size → byA s c = 41 → Rg s (some f) a [k] (c + 1) false
  | more {a f k c ks d bad} : AtL s a (sepL f) → Rg s none (a + (sepL f).length) [k] c false → ¬ (c < s.size ∧ byA s c = 41) → Rg s (some false) c ks d bad → Rg s (some f) a (k :: ks) d bad
section
variable {s : ByteArray} {m : Option Bool} {a b : Nat} {ks : List Nd} {bad : Bool}
theorem Rg.rng (h : Rg s m a ks b bad) : a ≤ s.size → a ≤ b ∧ b ≤ s.size := by
  induction h with
  | off h => exact fun h => ⟨Nat.le_refl _, h⟩
  | dash h1 _ => exact fun _ => ⟨by omega, by omega⟩
  | txt _ _ _ h1 h2 _ _ => exact fun _ => ⟨by omega, by omega⟩
  | ntx _ _ _ => exact fun h => ⟨Nat.le_refl _, h⟩
  | nwd _ _ _ _ => exact fun h => ⟨Nat.le_refl _, h⟩
  | leaf h _ => exact fun _ => ⟨by have := h.1; omega, h.1.2.1⟩
  | kids h _ _ _ ih => exact fun _ => by have := ih h.1.2.1; have := h.1; omega
  | nosep h1 h2 _ => exact fun _ => ⟨h1, h2⟩
  | kbad h1 _ ih => exact fun h => by have := ih (h1.le h); omega
  | last h1 _ h2 _ ih => exact fun h => by have := ih (h1.le h); omega
  | more h1 _ _ _ ih ih2 => exact fun h => by have := ih (h1.le h); have := ih2 this.2; omega
/-- A node that was read. -/
def rdP (x : NdP) (_ : Nat) : Prop := (x.kind = 0 ∨ x.kind = 2 ∨ x.kind = 3) ∧ x.name.size ≤ 4096 ∧ (x.kind = 3 → NameOk 32 x.name)
theorem nd_imp {p q : NdP → Nat → Prop} (h : ∀ x k, p x k → q x k) : ∀ t : Nd, t.All p → t.All q := Tr.ind fun x kids ih ha => by
  obtain ⟨h1, h2⟩ := (Tr.All_eq _).1 ha
  exact (Tr.All_eq _).2 ⟨h _ _ h1, (Tr.Alls_iff _).2 fun t ht => ih t ht ((Tr.Alls_iff _).1 h2 t ht)⟩
theorem rdP.all {t : Nd} (h : t.All rdP) : t.All (rowP e0 []) ∧ t.All namP ∧ t.All (lonP []) :=
  ⟨nd_imp (fun x k hx h1 => by have := hx.1; omega) t h, nd_imp (fun x k hx => ⟨by have := hx.1; omega, hx.2.2⟩) t h, nd_imp (fun x k hx => ⟨fun h1 => by have := hx.1; omega, fun _ => hx.2.1⟩) t h⟩
/-- The text of what was read. -/
noncomputable def shM : Option Bool → List Nd → List UInt8
  | none, ks => (ks.map (shw e0 [])).flatten
  | some f, ks => shws e0 [] ks f ++ [41]
theorem shM_one (t : Nd) : shM none [t] = shw e0 [] t := by simp [shM]
theorem ext_app {a b c : Nat} (h1 : a ≤ b) (h2 : b ≤ c) : (s.extract a c).data.toList = (s.extract a b).data.toList ++ (s.extract b c).data.toList := by
  rw [ext_tl, ext_tl, ext_tl, show c - a = (b - a) + (c - b) by omega, List.take_add, List.drop_drop, show a + (b - a) = b by omega]
theorem ext_1 {a : Nat} {c : UInt8} (h1 : a < s.size) (h2 : byA s a = c.toNat) : (s.extract a (a + 1)).data.toList = [c] := by
  have := (atL_one h1 h2).ext
  simpa using this
theorem Rg.sound (h : Rg s m a ks b bad) : bad = false → a ≤ s.size → (s.extract a b).data.toList = shM m ks ∧ (∀ t ∈ ks, t.All rdP) ∧ Tr.cnts ks ≤ b - a := by
  induction h with
  | off _ => intro h; cases h
  | dash h1 h2 =>
    intro _ _
    refine ⟨by rw [shM_one, ext_1 (c := 45) h1 h2]; exact (shw0 (t := nd0) rfl).symm, fun t ht => ?_, by show 1 + 0 + 0 ≤ _; omega⟩
    rw [List.mem_singleton.1 ht]
    exact (Tr.All_eq _).2 ⟨⟨.inl rfl, by decide, fun h => absurd h (by decide)⟩, trivial⟩
  | txt _ _ h1 h2 h3 h4 _ =>
    intro _ _
    refine ⟨by rw [shM_one, h4]; exact (shw2 (t := .mk ⟨2, _, 0⟩ []) rfl).symm, fun t ht => ?_, by show 1 + 0 + 0 ≤ _; omega⟩
    rw [List.mem_singleton.1 ht]
    exact (Tr.All_eq _).2 ⟨⟨.inr (.inl rfl), h1, fun h => absurd (show (2 : Int) = 3 from h) (by decide)⟩, trivial⟩
  | ntx _ _ _ => intro h; cases h
  | nwd _ _ _ _ => intro h; cases h
  | leaf h1 _ =>
    intro _ _
    obtain ⟨⟨h2, h3, h4⟩, h5, _⟩ := h1
    refine ⟨?_, fun t ht => ?_, by show 1 + 0 + 0 ≤ _; omega⟩
    · rw [shM_one, shw3 (t := .mk ⟨3, _, 0⟩ []) rfl]
      show _ = _ ++ shws e0 [] [] true ++ []
      rw [shws_nil, List.append_nil, List.append_nil]
      rfl
    · rw [List.mem_singleton.1 ht]
      exact (Tr.All_eq _).2 ⟨⟨.inr (.inr rfl), by have := h5.2.1; exact Nat.le_trans this (by decide), fun _ => h5⟩, trivial⟩
  | @kids a b ks c bad h1 h6 h7 hk ih =>
    intro hb _
    obtain ⟨⟨h2, h3, h4⟩, h5, _⟩ := h1
    obtain ⟨g1, g2, g3⟩ := ih hb h3
    have hr := hk.rng h3
    have hne : ks.length ≠ 0 := by
      intro h0
      have : ks = [] := List.eq_nil_of_length_eq_zero h0
      subst this
      cases hk
      cases hb
    refine ⟨?_, fun t ht => ?_, by show 1 + Tr.cnts ks + 0 ≤ _; omega⟩
    · rw [shM_one, shw3 (t := .mk ⟨3, _, 0⟩ ks) rfl, ext_app (b := b) (by omega) hr.1, g1]
      show _ = _ ++ shws e0 [] ks true ++ (if ks.length = 0 then [] else [41])
      rw [if_neg hne, List.append_assoc]
      rfl
    · rw [List.mem_singleton.1 ht]
      exact (Tr.All_eq _).2 ⟨⟨.inr (.inr rfl), by have := h5.2.1; exact Nat.le_trans this (by decide), fun _ => h5⟩, (Tr.Alls_iff _).2 g2⟩
  | nosep _ _ _ => intro h; cases h
  | kbad _ _ _ => intro h; cases h
  | @last a f k c h1 hk h2 h3 ih =>
    intro _ ha
    have hle := h1.le ha
    obtain ⟨g1, g2, g3⟩ := ih rfl hle
    have hr := hk.rng hle
    refine ⟨?_, g2, by omega⟩
    rw [ext_app (a := a) (b := a + (sepL f).length) (c := c + 1) (by omega) (by omega), ext_app (a := a + (sepL f).length) (b := c) (c := c + 1) (by omega) (by omega), h1.ext, g1, shM_one, ext_1 (c := 41) h2 h3]
    show _ = shws e0 [] [k] f ++ [41]
    rw [shws_cons, shws_nil, List.append_nil, ← List.append_assoc]
    rfl
  | @more a f k c ks d bad h1 hk h2 hm ih ih2 =>
    intro hb ha
    have hle := h1.le ha
    obtain ⟨g1, g2, g3⟩ := ih rfl hle
    have hr := hk.rng hle
    obtain ⟨k1, k2, k3⟩ := ih2 hb hr.2
    have hr2 := hm.rng hr.2
    refine ⟨?_, fun t ht => ?_, ?_⟩
    · rw [ext_app (a := a) (b := a + (sepL f).length) (c := d) (by omega) (by omega), ext_app (a := a + (sepL f).length) (b := c) (c := d) (by omega) (by omega), h1.ext, g1, shM_one, k1]
      show _ = shws e0 [] (k :: ks) f ++ [41]
      rw [shws_cons]
      show _ = sepL f ++ shw e0 [] k ++ shws e0 [] ks false ++ [41]
      simp only [shM, List.append_assoc]
    · rcases List.mem_cons.1 ht with rfl | ht
      · exact g2 _ (List.mem_singleton.2 rfl)
      · exact k2 t ht
    · have e1 : Tr.cnts (k :: ks) = k.cnt + Tr.cnts ks := by rw [Tr.cnts]
      have e2 : Tr.cnts [k] = k.cnt + 0 := rfl
      omega
end
/-! ### each node is found -/
/-- A node has only what its kind has. -/
def plnP (x : NdP) (k : Nat) : Prop := (x.kind = 3 ∨ k = 0) ∧ (x.name = e0 ∨ x.kind = 2 ∨ x.kind = 3) ∧ (x.tok = 0 ∨ x.kind = 1)
mutual
/-- A node, texts in the place of tokens. -/
noncomputable def wrd (src : ByteArray) (toks : List Tk) : Nd → Nd
  | .mk x kids => if x.kind = 1 then .mk ⟨2, tokS src toks x, 0⟩ [] else .mk x (wrds src toks kids)
noncomputable def wrds (src : ByteArray) (toks : List Tk) : List Nd → List Nd
  | [] => []
  | t :: r => wrd src toks t :: wrds src toks r
end
theorem wrds_map (src : ByteArray) (toks : List Tk) : ∀ ts : List Nd, wrds src toks ts = ts.map (wrd src toks)
  | [] => by rw [wrds]; rfl
  | t :: r => by rw [wrds, wrds_map src toks r, List.map_cons]
theorem wrd_eq (src : ByteArray) (toks : List Tk) (t : Nd) : wrd src toks t = if t.x.kind = 1 then .mk ⟨2, tokS src toks t.x, 0⟩ [] else .mk t.x (t.kids.map (wrd src toks)) := by
  cases t
  rw [wrd, wrds_map]
  rfl
section
variable {s src : ByteArray} {toks : List Tk} {a b : Nat} {ks : List Nd} {bad : Bool}
theorem wrd_mk (x : NdP) (kids : List Nd) : wrd src toks (.mk x kids) = if x.kind = 1 then .mk ⟨2, tokS src toks x, 0⟩ [] else .mk x (kids.map (wrd src toks)) := wrd_eq src toks (.mk x kids)
/-- What may stand behind a node. -/
def Stp (s : ByteArray) (b : Nat) : Prop := b < s.size → byA s b = 41 ∨ byA s b = 44
theorem byt_ext {i j k : Nat} (h : i + k < j) (hj : j ≤ s.size) : byt (s.extract i j) k = ((byA s (i + k) : Nat) : Int) := by
  have e : (s.extract i j).data = s.data.extract i j := by simp
  have hz : s.data.size = s.size := rfl
  unfold byt byA
  rw [e, Array.getD_eq_getD_getElem?, Array.getD_eq_getD_getElem?, Array.getElem?_extract, if_pos (by omega)]
theorem NameOk.pre {i j k : Nat} (h : NameOk 32 (s.extract i j)) (hij : i < k) (hk : k ≤ j) (hj : j ≤ s.size) : NameOk 32 (s.extract i k) := by
  obtain ⟨h1, h2, h3⟩ := h
  have e1 : (s.extract i j).size = j - i := by rw [ByteArray.size_extract]; omega
  have e2 : (s.extract i k).size = k - i := by rw [ByteArray.size_extract]; omega
  refine ⟨by omega, by omega, fun n hn => ?_⟩
  have := h3 n (by omega)
  rw [byt_ext (by omega) (by omega)] at this ⊢
  exact this
theorem Wd.fit {n : List UInt8} (h : Wd s a b) (hn : AtL s a n) (hN : NameOk 32 ⟨n.toArray⟩) (hs : a + n.length < s.size → byA s (a + n.length) = 40 ∨ byA s (a + n.length) = 41 ∨ byA s (a + n.length) = 44) : b = a + n.length ∧ s.extract a b = ⟨n.toArray⟩ := by
  obtain ⟨⟨h1, h2, h3⟩, h4, h5⟩ := h
  have hle := hn.le (by omega)
  have hx : s.extract a (a + n.length) = ⟨n.toArray⟩ := ba_eq (by rw [hn.ext])
  have hl : (⟨n.toArray⟩ : ByteArray).size = n.length := rfl
  have hn1 := hN.1
  have hn2 := hN.2.1
  rw [hl] at hn1 hn2
  have he : b = a + n.length := by
    rcases (by omega : b < a + n.length ∨ b = a + n.length ∨ a + n.length < b) with h | h | h
    · refine absurd ?_ (h5 (by omega) (by omega))
      rw [← hx] at hN
      exact hN.pre (by omega) (by omega) hle
    · exact h
    · have e1 : (s.extract a b).size = b - a := by rw [ByteArray.size_extract]; omega
      have := h4.2.2 n.length (by omega)
      rw [byt_ext (by omega) (by omega)] at this
      have hs' := hs (by omega)
      unfold chOk at this
      omega
  exact ⟨he, by rw [he]; exact hx⟩
theorem Wd.hd (h : Wd s a b) : byA s a ≠ 45 ∧ byA s a ≠ 34 ∧ a < s.size := by
  obtain ⟨⟨h1, h2, h3⟩, h4, _⟩ := h
  have e1 : (s.extract a b).size = b - a := by rw [ByteArray.size_extract]; omega
  have := h4.2.2 0 (by omega)
  rw [byt_ext (by omega) (by omega)] at this
  unfold chOk at this
  rw [Nat.add_zero] at this
  omega
theorem NameOk.hd {n : ByteArray} (hN : NameOk 32 n) (ha : AtL s a n.data.toList) : (byA s a ≠ 45 ∧ byA s a ≠ 34) ∧ a < s.size ∧ NameOk 32 (s.extract a (a + 1)) := by
  have hl := tl_len n
  have h1 := hN.1
  have hlt := ha.lt (by omega)
  have hle := ha.le (by omega)
  have hx : s.extract a (a + n.size) = n := ba_eq (by rw [← tl_len n, ha.ext])
  have h2 : NameOk 32 (s.extract a (a + n.size)) := by rw [hx]; exact hN
  have h3 := h2.2.2 0 (by rw [hx]; omega)
  rw [byt_ext (by omega) (by omega)] at h3
  unfold chOk at h3
  rw [Nat.add_zero] at h3
  exact ⟨by omega, hlt, h2.pre (by omega) (by omega) (by omega)⟩
/-- A node's text is read as the node. -/
def Fnd (src : ByteArray) (toks : List Tk) (t : Nd) : Prop := ∀ (s : ByteArray) (a : Nat) (ks : List Nd) (b : Nat) (bad : Bool), AtL s a (shw src toks t) → Stp s (a + (shw src toks t).length) → Rg s none a ks b bad → ks = [wrd src toks t] ∧ b = a + (shw src toks t).length ∧ bad = false
theorem fnds (f : Bool) : ∀ (ts : List Nd) (hne : ts ≠ []) (hF : ∀ t ∈ ts, Fnd src toks t) (f : Bool) (a : Nat) (ks : List Nd) (b : Nat) (bad : Bool), AtL s a (shws src toks ts f ++ [41]) → Rg s (some f) a ks b bad → ks = ts.map (wrd src toks) ∧ b = a + (shws src toks ts f).length + 1 ∧ bad = false
  | [], hne, _, _, _, _, _, _, _, _ => absurd rfl hne
  | t :: r, _, hF, f, a, ks, b, bad, ha, hR => by
    have e1 : shws src toks (t :: r) f = sepL f ++ (shw src toks t ++ shws src toks r false) := by rw [shws_cons, List.append_assoc]; rfl
    rw [e1, List.append_assoc] at ha
    have hsep := ha.fst
    have ha2 := ha.snd
    rw [List.append_assoc] at ha2
    have hat := ha2.fst
    have ha3 := ha2.snd
    have hnx : (r = [] ∧ a + (sepL f).length + (shw src toks t).length < s.size ∧ byA s (a + (sepL f).length + (shw src toks t).length) = 41) ∨ (r ≠ [] ∧ byA s (a + (sepL f).length + (shw src toks t).length) = 44) := by
      cases r with
      | nil =>
        rw [shws_nil] at ha3
        obtain ⟨h1, h2, _⟩ := ha3.hd
        exact .inl ⟨rfl, h1, h2⟩
      | cons t2 r2 =>
        rw [shws_cons] at ha3
        obtain ⟨h1, h2, _⟩ := AtL.hd (c := 44) (l := [32] ++ (shw src toks t2 ++ (shws src toks r2 false ++ [41]))) (by simpa using ha3)
        exact .inr ⟨by simp, h2⟩
    have hst : Stp s (a + (sepL f).length + (shw src toks t).length) := fun _ => by rcases hnx with h | h <;> omega
    have hF0 := hF t (List.mem_cons_self ..)
    rw [e1]
    cases hR with
    | nosep _ _ h => exact absurd hsep h
    | kbad h1 h2 =>
      have := (hF0 _ _ _ _ _ hat hst h2).2.2
      cases this
    | last h1 h2 h3 h4 =>
      obtain ⟨g1, g2, _⟩ := hF0 _ _ _ _ _ hat hst h2
      rcases hnx with ⟨rfl, _, _⟩ | ⟨_, h5⟩
      · refine ⟨by rw [g1]; rfl, ?_, rfl⟩
        rw [shws_nil, List.append_nil, List.length_append]
        omega
      · rw [g2] at h4
        omega
    | more h1 h2 h3 h4 =>
      obtain ⟨g1, g2, _⟩ := hF0 _ _ _ _ _ hat hst h2
      rcases hnx with ⟨rfl, h5, h6⟩ | ⟨hne, h5⟩
      · rw [g2] at h3
        exact absurd ⟨h5, h6⟩ h3
      · rw [g2] at h4
        obtain ⟨k1, k2, k3⟩ := fnds f r hne (fun t' ht' => hF t' (List.mem_cons_of_mem _ ht')) false _ _ _ _ ha3 h4
        injection g1 with g1 _
        refine ⟨by rw [k1, g1, List.map_cons], ?_, k3⟩
        rw [List.length_append, List.length_append]
        omega
theorem fndN : ∀ t : Nd, t.All (rowP src toks) → t.All namP → t.All (lonP toks) → t.All plnP → Fnd src toks t := Tr.ind fun x kids ih hr hn hl hp => fun s a ks b bad ha hs hR => by
  obtain ⟨hr0, hrs⟩ := (Tr.All_eq _).1 hr
  obtain ⟨hn0, hns⟩ := (Tr.All_eq _).1 hn
  obtain ⟨hl0, hls⟩ := (Tr.All_eq _).1 hl
  obtain ⟨hp0, hps⟩ := (Tr.All_eq _).1 hp
  have hn1 : (0 ≤ x.kind ∧ x.kind ≤ 3) ∧ (x.kind = 3 → NameOk 32 x.name) := hn0
  have hp1 : (x.kind = 3 ∨ kids.length = 0) ∧ (x.name = e0 ∨ x.kind = 2 ∨ x.kind = 3) ∧ (x.tok = 0 ∨ x.kind = 1) := hp0
  have hl1 : (x.kind = 1 → (toks.getD x.tok.toNat tk0).to_ - (toks.getD x.tok.toNat tk0).from_ ≤ 4096) ∧ (x.kind = 2 → x.name.size ≤ 4096) := hl0
  have hr1 : x.kind = 1 → (0 ≤ x.tok ∧ x.tok < toks.length) ∧ (0 ≤ (toks.getD x.tok.toNat tk0).from_ ∧ (toks.getD x.tok.toNat tk0).from_ ≤ (toks.getD x.tok.toNat tk0).to_ ∧ (toks.getD x.tok.toNat tk0).to_ ≤ src.size) := hr0
  -- texts
  have htx : ∀ v : ByteArray, v.size ≤ 4096 → AtL s a (qv v).data.toList → ks = [.mk ⟨2, v, 0⟩ []] ∧ b = a + (qv v).data.toList.length ∧ bad = false := fun v hv hav => by
    have h1 := hav
    rw [qv_tl hv] at h1
    obtain ⟨h2, h3, _⟩ := h1.hd
    have h34 : byA s a = 34 := h3
    cases hR with
    | off h => omega
    | dash _ h => omega
    | txt _ _ _ _ _ _ hq =>
      obtain ⟨e1, e2⟩ := hq v hv hav
      exact ⟨by rw [e1], e2, rfl⟩
    | ntx _ _ hq => exact absurd hav (hq v hv)
    | nwd _ _ h _ => exact absurd h34 h
    | leaf h _ => exact absurd h34 h.hd.2.1
    | kids h _ _ _ => exact absurd h34 h.hd.2.1
  rcases (by omega : x.kind = 0 ∨ x.kind = 1 ∨ x.kind = 2 ∨ x.kind = 3) with h0 | h1 | h2 | h3
  · have e := shw0 (src := src) (toks := toks) (t := .mk x kids) h0
    rw [e] at ha ⊢
    obtain ⟨g1, g2, _⟩ := ha.hd
    have h45 : byA s a = 45 := g2
    have hw : wrd src toks (.mk x kids) = nd0 := by
      rw [wrd_mk, if_neg (show ¬ x.kind = 1 by omega)]
      have hk : kids = [] := List.eq_nil_of_length_eq_zero (by omega)
      subst hk
      have hx : x = ⟨0, e0, 0⟩ := by
        obtain ⟨k, nm, tk⟩ := x
        have q1 : k = 0 := h0
        have q2 : nm = e0 := hp1.2.1.resolve_right (by show ¬ (k = 2 ∨ k = 3); omega)
        have q3 : tk = 0 := hp1.2.2.resolve_right (by show ¬ k = 1; omega)
        rw [q1, q2, q3]
      rw [hx]
      rfl
    rw [hw]
    cases hR with
    | off h => omega
    | dash _ _ => exact ⟨rfl, rfl, rfl⟩
    | txt _ h _ _ _ _ _ => omega
    | ntx _ h _ => omega
    | nwd _ h _ _ => exact absurd h45 h
    | leaf h _ => exact absurd h45 h.hd.1
    | kids h _ _ _ => exact absurd h45 h.hd.1
  · have e : shw src toks (.mk x kids) = (qv (tokS src toks x)).data.toList := shw1 h1
    rw [e] at ha ⊢
    rw [wrd_mk, if_pos h1]
    refine htx _ ?_ ha
    have q1 := hr1 h1
    have q2 := hl1.1 h1
    unfold tokS
    rw [ByteArray.size_extract]
    omega
  · have e : shw src toks (.mk x kids) = (qv x.name).data.toList := shw2 h2
    rw [e] at ha ⊢
    rw [wrd_mk, if_neg (show ¬ x.kind = 1 by omega)]
    have hk : kids = [] := List.eq_nil_of_length_eq_zero (by omega)
    subst hk
    have hx : x = ⟨2, x.name, 0⟩ := by
      obtain ⟨k, nm, tk⟩ := x
      have q1 : k = 2 := h2
      have q3 : tk = 0 := hp1.2.2.resolve_right (by show ¬ k = 1; omega)
      rw [q1, q3]
    have := htx _ (hl1.2 h2) ha
    rw [← hx] at this
    exact this
  · have hN := hn1.2 h3
    have e := shw3 (src := src) (toks := toks) (t := .mk x kids) h3
    have hw : wrd src toks (.mk x kids) = .mk ⟨3, x.name, 0⟩ (kids.map (wrd src toks)) := by
      rw [wrd_mk, if_neg (show ¬ x.kind = 1 by omega)]
      have hx : x = ⟨3, x.name, 0⟩ := by
        obtain ⟨k, nm, tk⟩ := x
        have q1 : k = 3 := h3
        have q3 : tk = 0 := hp1.2.2.resolve_right (by show ¬ k = 1; omega)
        rw [q1, q3]
      show Tr.mk x _ = _
      rw [hx]
    have e' : shw src toks (.mk x kids) = x.name.data.toList ++ (shws src toks kids true ++ if kids.length = 0 then [] else [41]) := by rw [e, List.append_assoc]; rfl
    rw [e'] at ha hs ⊢
    rw [hw]
    have han := ha.fst
    have har := ha.snd
    obtain ⟨⟨q1, q2⟩, q3, q4⟩ := hN.hd han
    have hnn : (⟨x.name.data.toList.toArray⟩ : ByteArray) = x.name := rfl
    rcases Nat.eq_zero_or_pos kids.length with hk0 | hk0
    · have hk : kids = [] := List.eq_nil_of_length_eq_zero hk0
      subst hk
      have e2 : x.name.data.toList ++ (shws src toks [] true ++ if ([] : List Nd).length = 0 then [] else [41]) = x.name.data.toList := by
        rw [shws_nil]
        show x.name.data.toList ++ ([] ++ []) = _
        simp
      rw [e2] at hs ⊢
      have hs2 : a + x.name.data.toList.length < s.size → byA s (a + x.name.data.toList.length) = 40 ∨ byA s (a + x.name.data.toList.length) = 41 ∨ byA s (a + x.name.data.toList.length) = 44 := fun h => .inr (hs h)
      cases hR with
      | off h => omega
      | dash _ h => exact absurd h q1
      | txt _ h _ _ _ _ _ => exact absurd h q2
      | ntx _ h _ => exact absurd h q2
      | nwd _ _ _ h => exact absurd q4 h
      | leaf h _ =>
        obtain ⟨g1, g2⟩ := h.fit han (by rw [hnn]; exact hN) hs2
        exact ⟨by rw [g2, hnn]; rfl, g1, rfl⟩
      | kids h h4 h5 _ =>
        obtain ⟨g1, g2⟩ := h.fit han (by rw [hnn]; exact hN) hs2
        have := hs (by omega)
        rw [← g1] at this
        omega
    · rw [if_neg (by omega)] at har hs ⊢
      have h40 : a + x.name.data.toList.length < s.size ∧ byA s (a + x.name.data.toList.length) = 40 := by
        cases kids with
        | nil => simp at hk0
        | cons t r =>
          rw [shws_cons] at har
          obtain ⟨h1, h2, _⟩ := AtL.hd (c := 40) (l := shw src toks t ++ (shws src toks r false ++ [41])) (by simpa using har)
          exact ⟨h1, h2⟩
      have hs2 : a + x.name.data.toList.length < s.size → byA s (a + x.name.data.toList.length) = 40 ∨ byA s (a + x.name.data.toList.length) = 41 ∨ byA s (a + x.name.data.toList.length) = 44 := fun h => .inl h40.2
      cases hR with
      | off h => omega
      | dash _ h => exact absurd h q1
      | txt _ h _ _ _ _ _ => exact absurd h q2
      | ntx _ h _ => exact absurd h q2
      | nwd _ _ _ h => exact absurd q4 h
      | leaf h h5 =>
        obtain ⟨g1, g2⟩ := h.fit han (by rw [hnn]; exact hN) hs2
        rw [g1] at h5
        exact absurd h40 h5
      | kids h h4 h5 hk =>
        obtain ⟨g1, g2⟩ := h.fit han (by rw [hnn]; exact hN) hs2
        rw [g1] at hk
        obtain ⟨k1, k2, k3⟩ := fnds true kids (by intro h; subst h; simp at hk0) (fun t ht => ih t ht ((Tr.Alls_iff _).1 hrs t ht) ((Tr.Alls_iff _).1 hns t ht) ((Tr.Alls_iff _).1 hls t ht) ((Tr.Alls_iff _).1 hps t ht)) true _ _ _ _ har hk
        refine ⟨by rw [g2, hnn, k1], ?_, k3⟩
        rw [List.length_append, List.length_append]
        show _ = _
        simp only [List.length_cons, List.length_nil]
        omega
end
end Go.Proofs.YtgdemplcpcacaaaFx

/-! What is read back, plainly. -/
namespace Go.Proofs.YtgdemplcpcacaaaFx
open Go Go.RowKit
/-- What Read says. -/
def RdR (s : ByteArray) (t : Nd) (f1 f2 : Int) : Prop := ∃ (t' : Nd) (z : Nat) (bad : Bool), Rg s none 0 [t'] z bad ∧ z ≤ s.size ∧ ((f1 = 5 ∧ f2 = (z : Int) ∧ t = nd0 ∧ (bad = true ∨ z < s.size)) ∨ (f1 = 0 ∧ f2 = 0 ∧ t = t' ∧ bad = false ∧ z = s.size))
section
variable {s src : ByteArray} {toks : List Tk} {t t2 : Nd} {f1 f2 : Int}
theorem rd_back (hr : t.All (rowP src toks)) (hn : t.All namP) (hl : t.All (lonP toks)) (hp : t.All plnP) (h : RdR ⟨(shw src toks t).toArray⟩ t2 f1 f2) : t2 = wrd src toks t ∧ f1 = 0 ∧ f2 = 0 := by
  obtain ⟨t', z, bad, h1, h2, h3⟩ := h
  have hsz : (⟨(shw src toks t).toArray⟩ : ByteArray).size = (shw src toks t).length := rfl
  have ha : AtL ⟨(shw src toks t).toArray⟩ 0 (shw src toks t) := ⟨[], by simp⟩
  obtain ⟨g1, g2, g3⟩ := fndN t hr hn hl hp _ 0 _ _ _ ha (fun h => by omega) h1
  injection g1 with g1 _
  rcases h3 with ⟨_, _, _, hb | hb⟩ | ⟨h4, h5, h6, _, _⟩
  · rw [g3] at hb
    cases hb
  · omega
  · exact ⟨h6.trans g1, h4, h5⟩
theorem all_kids : ∀ (t : Nd) (N : Nat), t.cnt ≤ N → t.All rdP → N ≤ 1099511627776 → t.All smallN := Tr.ind fun x kids ih N hN hr h1 => by
  obtain ⟨h2, h3⟩ := (Tr.All_eq _).1 hr
  have hc := Tr.cnt_eq (.mk x kids)
  have hk := Tr.cnts_len kids
  have hc' : (Tr.mk x kids).cnt = 1 + Tr.cnts kids := hc
  refine (Tr.All_eq _).2 ⟨⟨by have := h2.2.1; exact Nat.le_trans this (by decide), show kids.length ≤ _ by omega⟩, (Tr.Alls_iff _).2 fun t ht => ih t ht N ?_ ((Tr.Alls_iff _).1 h3 t ht) h1⟩
  have ht' : t ∈ kids := ht
  obtain ⟨j, hj, rfl⟩ := List.mem_iff_getElem.1 ht'
  have e1 := Tr.cnts_succ nd0 kids j hj
  have e2 := Tr.cnts_take kids (j + 1)
  rw [List.getD_eq_getElem?_getD, List.getElem?_eq_getElem hj] at e1
  have e3 : (some kids[j]).getD nd0 = kids[j] := rfl
  rw [e3] at e1
  omega
theorem rd_facts (hs : s.size ≤ 1048576) (h : RdR s t f1 f2) : (t.All smallN ∧ 20002 * t.cnt ≤ 1099511627776) ∧ ((f1 = 5 ∧ (0 ≤ f2 ∧ f2 ≤ s.size) ∧ t = nd0) ∨ (f1 = 0 ∧ f2 = 0 ∧ txE e0 [] t = 0 ∧ txS e0 [] t = s)) := by
  obtain ⟨t', z, bad, h1, h2, h3⟩ := h
  rcases h3 with ⟨h4, h5, h6, _⟩ | ⟨h4, h5, rfl, rfl, rfl⟩
  · refine ⟨?_, .inl ⟨h4, by omega, h6⟩⟩
    rw [h6]
    exact ⟨(Tr.All_eq _).2 ⟨⟨by decide, by decide⟩, trivial⟩, by decide⟩
  · obtain ⟨g1, g2, g3⟩ := h1.sound rfl (Nat.zero_le _)
    have hR := g2 t (List.mem_singleton.2 rfl)
    have hc : Tr.cnts [t] = t.cnt + 0 := rfl
    obtain ⟨k1, k2, k3⟩ := rdP.all hR
    obtain ⟨e1, e2⟩ := txE_ok k1 k2 k3
    refine ⟨⟨all_kids t s.size (by omega) hR (by omega), by omega⟩, .inr ⟨h4, h5, e1, ?_⟩⟩
    rw [e2]
    rw [shM_one] at g1
    have g4 : (s.extract 0 s.size) = s := by simp
    rw [g4] at g1
    exact ba_eq g1.symm
theorem wrd_few : ∀ t : Nd, t.All smallN → (wrd src toks t).All few := Tr.ind fun x kids ih hs => by
  obtain ⟨h1, h2⟩ := (Tr.All_eq _).1 hs
  rw [wrd_mk]
  split
  · exact (Tr.All_eq _).2 ⟨show (0 : Nat) ≤ _ by decide, trivial⟩
  · refine (Tr.All_eq _).2 ⟨?_, (Tr.Alls_iff _).2 fun t ht => ?_⟩
    · show (kids.map (wrd src toks)).length ≤ _
      rw [List.length_map]
      exact h1.2
    · obtain ⟨u, hu, rfl⟩ := List.mem_map.1 ht
      exact ih u hu ((Tr.Alls_iff _).1 h2 u hu)
theorem small_few {t : Nd} (h : t.All smallN) : t.All few := nd_imp (fun x k hx => hx.2) t h
theorem pln_fin (h1 : t.x.kind = 3 ∨ t.kids.length = 0) (h2 : Tr.Alls plnP t.kids) : t.All plnP ↔ (t.x.name = e0 ∨ t.x.kind = 2 ∨ t.x.kind = 3) ∧ (t.x.tok = 0 ∨ t.x.kind = 1) := by
  rw [Tr.All_eq]
  exact ⟨fun h => h.1.2, fun h => ⟨⟨h1, h⟩, h2⟩⟩
end
end Go.Proofs.YtgdemplcpcacaaaFx

/-! Slices cut. -/
namespace Go.Proofs.YtgdemplcpcacaaaFx
open Go Go.RowKit
def cutA (A : Option Addr) (l m s : Nat) : Option Addr := if m = l then A else A.map (·.add (l * s))
theorem add_zero' (a : Addr) : a.add 0 = a := by simp [Addr.add]
theorem elem_is {P : Program} {t e : TypeId} (ht : P.underlying t = some (.slice e)) : P.elem t = e := by simp [Program.elem, ht]
section
variable {α : Type} {d : Kn α} {f : Fk α} {w W0 : World} {A : Option Addr} {xs : List α} {lo c e m : Nat} {L L' : List Ch}
theorem Rd.cut (h : Rd d w A xs) (hl : lo ≤ xs.length) (hc : xs.length ≤ c) : Rd d w (cutA A lo c d.sz) (xs.drop lo) := by
  unfold cutA
  split
  · rw [List.drop_of_length_le (by omega)]
    exact Rd.nil _ _ _
  · rename_i hne
    refine ⟨fun hp => ?_, fun j x hx => ?_⟩
    · rw [List.length_drop] at hp
      rw [h.ad (by omega)]
      rfl
    · rw [List.getElem?_drop] at hx
      have hA := h.ad (by have := (List.getElem?_eq_some_iff.1 hx).1; omega)
      obtain ⟨cs, h1, h2⟩ := h.el _ _ hx
      refine ⟨cs, h1, fun i u hu => ?_⟩
      have := h2 i u hu
      rw [hA]
      show w.cell? (((adr A).add (lo * d.sz)).add _) = _
      rw [add_add, ← Nat.add_assoc, ← Nat.add_mul]
      exact this
/-- The head of a row of the call's own. -/
theorem Holds.rcut (H : Holds W0 L w) (U : Upd L (Row f e (.slice A m c) xs) (Row f e (.slice A lo c) (xs.take lo)) L') (hl : lo ≤ xs.length) : Holds W0 L' w :=
  H.imp U fun S ⟨h1, h2⟩ => by
    have e1 : (xs.take lo).length = lo := by rw [List.length_take]; omega
    have hfl := flat_len f xs
    have hle : lo * f.sz ≤ xs.length * f.sz := Nat.mul_le_mul_right _ hl
    have e2 : (xs.take lo).flatMap f.enc = (xs.flatMap f.enc).take (lo * f.sz) := by
      have h3 : xs.flatMap f.enc = (xs.take lo).flatMap f.enc ++ (xs.drop lo).flatMap f.enc := by rw [← List.flatMap_append, List.take_append_drop]
      have h4 := flat_len f (xs.take lo)
      rw [e1] at h4
      rw [h3, ← h4, List.take_left']
      rfl
    refine ⟨fun k hk => h1 k (by cases A <;> exact hk), by rw [flat_len], ?_⟩
    rw [e1]
    rcases h2.2 with ⟨hv, hz⟩ | ⟨g, cap, cur, hv, hg, hh, hn, hcm, hsz, hcur⟩
    · injection hv with a1 a2 a3
      subst a1 a2 a3
      exact .inl ⟨by rw [show lo = 0 by omega], by omega⟩
    · injection hv with a1 a2 a3
      subst a1 a2 a3
      refine .inr ⟨g, c, cur, rfl, hg, hh, by omega, hcm, hsz, ?_⟩
      rw [e2, ← hcur, List.take_take, Nat.min_eq_left hle]
end
section
variable {P : Program} {n : Nat} {Q : Post} {l : Fr} {w : World} {d : Nat} {x y z : Operand} {ty t e : TypeId} {pos : String} {af : Array Edge} {A : Option Addr} {m c sz : Nat} {k k2 : IntKind} {lo hi : Int}
theorem v_cutlo (ht : P.underlying t = some (.slice e)) (hsz : ∀ W, (sizeOf e).run P W = .ok sz W) (hx : ev l x = some (.slice A m c)) (hy : ev l y = some (.int k lo)) (h0 : 0 ≤ lo) (h1 : lo ≤ m) :
    Vs P n l ⟨some d, .slice t x (some y) none none, ty, pos, af, none⟩ w (.slice (cutA A lo.toNat c sz) (m - lo.toNat) (c - lo.toNat)) := fun a ha => by
  have ht' : P.underlying t = some (.slice (P.elem t)) := by rw [elem_is ht]; exact ht
  have h := run_slice_l (P := P) w t A m c ht' k lo h0 h1
  rw [elem_is ht, hsz] at h
  simp [execOp, ha.eval hx, ha.eval hy, run_sliceAt_slice w t _ _ _ _ ht', h, sliced, cutA]
theorem v_cuthi (ht : P.underlying t = some (.slice e)) (hsz : ∀ W, (sizeOf e).run P W = .ok sz W) (hx : ev l x = some (.slice A m c)) (hy : ev l y = some (.int k hi)) (h0 : 0 ≤ hi) (h1 : hi ≤ c) :
    Vs P n l ⟨some d, .slice t x none (some y) none, ty, pos, af, none⟩ w (.slice A hi.toNat c) := fun a ha => by
  have ht' : P.underlying t = some (.slice (P.elem t)) := by rw [elem_is ht]; exact ht
  have h := run_slice_h (P := P) w t A m c ht' k hi h0 h1
  rw [elem_is ht, hsz] at h
  have e1 : (fun x : Addr => x.add 0) = id := funext fun a => add_zero' a
  simp [execOp, ha.eval hx, ha.eval hy, run_sliceAt_slice w t _ _ _ _ ht', h, sliced, e1]
end
end Go.Proofs.YtgdemplcpcacaaaFx

/-! Numbers, seven bits a byte: plain; bit operations and divisions. -/
namespace Go.Proofs.YtgdemplcpcacaaaFx
open Go Go.RowKit
section
variable {P : Program} {n : Nat} {l : Fr} {w : World} {x y : Operand} {ty t t2 : TypeId} {pos : String} {af : Array Edge} {gd : Option (Nat × Bool)} {dst : Option Tmp} {i j : Int} {k : IntKind}
theorem v_and (hx : ev l x = some (.int k i)) (hy : ev l y = some (.int k j)) : Vs P n l ⟨dst, .binOp .and t x y t2, ty, pos, af, gd⟩ w (.int k (bits .and k i j)) := fun a ha => by simp [execOp, ha.eval hx, ha.eval hy, eqGuard_at_int, binOp_and, intBits_and]
theorem v_or (hx : ev l x = some (.int k i)) (hy : ev l y = some (.int k j)) : Vs P n l ⟨dst, .binOp .or t x y t2, ty, pos, af, gd⟩ w (.int k (bits .or k i j)) := fun a ha => by simp [execOp, ha.eval hx, ha.eval hy, eqGuard_at_int, binOp_or, intBits_or]
theorem v_rem (hx : ev l x = some (.int k i)) (hy : ev l y = some (.int k j)) (h0 : j ≠ 0) : Vs P n l ⟨dst, .binOp .rem t x y t2, ty, pos, af, gd⟩ w (.int k (Int.tmod i j)) := fun a ha => by
  simp [execOp, ha.eval hx, ha.eval hy, eqGuard_at_int, binOp_rem, Op.intDiv, h0]
theorem v_quo (hx : ev l x = some (.int k i)) (hy : ev l y = some (.int k j)) (h0 : j ≠ 0) : Vs P n l ⟨dst, .binOp .quo t x y t2, ty, pos, af, gd⟩ w (.int k (k.wrap (Int.tdiv i j))) := fun a ha => by
  simp [execOp, ha.eval hx, ha.eval hy, eqGuard_at_int, binOp_quo, Op.intDiv, h0]
end
theorem or128 {a : Int} (h : 0 ≤ a ∧ a < 256) : bits .or .u8 a 128 = a % 128 + 128 := by
  obtain ⟨n, rfl⟩ := Int.eq_ofNat_of_zero_le h.1
  have hn : n < 256 := by omega
  have h1 := (bits_nat .u8 8 (by decide) wraps_u8 n 128 (by simpa using hn) (by decide)).2
  have h2 : ∀ n : Fin 256, (n.1 ||| 128) = n.1 % 128 + 128 := by decide +kernel
  have h3 := h2 ⟨n, hn⟩
  dsimp only at h3
  rw [show (128 : Int) = ((128 : Nat) : Int) from rfl, h1, h3]
  omega
theorem and127 {a : Int} (h : 0 ≤ a ∧ a < 256) : bits .and .u8 a 127 = a % 128 := bits_mask .u8 8 (by decide) wraps_u8 7 (by decide) a h.1 (by have := h.2; omega)
theorem wraps_i64 (n : Int) (h₀ : 0 ≤ n) (h₁ : n < 2 ^ 62) : IntKind.i64.wrap n = n := by rw [IntKind.wrap_i64]; omega
theorem or_low {a c s : Nat} (ha : a < 2 ^ s) (hc : c * 2 ^ s < 2 ^ 62) (ha2 : a < 2 ^ 62) : bits .or .i64 (a : Int) ((c * 2 ^ s : Nat) : Int) = ((a + c * 2 ^ s : Nat) : Int) := by
  rw [(bits_nat .i64 62 (by decide) wraps_i64 a (c * 2 ^ s) ha2 hc).2, Nat.or_comm, Nat.mul_comm c, ← Nat.two_pow_add_eq_or_of_lt ha, Nat.add_comm]
/-- A number's bytes. -/
def vint (n : Nat) : List Int := if n < 128 then [(n : Int)] else ((n % 128 + 128 : Nat) : Int) :: vint (n / 128)
termination_by n
theorem vint_lt {n : Nat} (h : n < 128) : vint n = [(n : Int)] := by rw [vint, if_pos h]
theorem vint_ge {n : Nat} (h : ¬ n < 128) : vint n = ((n % 128 + 128 : Nat) : Int) :: vint (n / 128) := by rw [vint, if_neg h]
theorem vint_len : ∀ (k n : Nat), n < 128 ^ k → 1 ≤ k → (vint n).length ≤ k
  | 0, _, _, h => by omega
  | k + 1, n, h, _ => by
    rcases Nat.lt_or_ge n 128 with h1 | h1
    · rw [vint_lt h1]; simp
    · rw [vint_ge (by omega), List.length_cons]
      rcases Nat.eq_zero_or_pos k with rfl | hk
      · simp at h; omega
      · have := vint_len k (n / 128) (by rw [Nat.pow_succ] at h; exact Nat.div_lt_of_lt_mul (by rw [Nat.mul_comm]; exact h)) hk
        omega
theorem vint_pos (n : Nat) : 1 ≤ (vint n).length := by
  rcases Nat.lt_or_ge n 128 with h1 | h1
  · rw [vint_lt h1]; simp
  · rw [vint_ge (by omega), List.length_cons]; omega
theorem vint_bytes : ∀ (n : Nat), ∀ x ∈ vint n, 0 ≤ x ∧ x < 256 := by
  intro n
  induction n using Nat.strongRecOn with
  | _ n ih =>
    intro x hx
    rcases Nat.lt_or_ge n 128 with h1 | h1
    · rw [vint_lt h1, List.mem_singleton] at hx; omega
    · rw [vint_ge (by omega)] at hx
      rcases List.mem_cons.1 hx with rfl | hx
      · omega
      · exact ih (n / 128) (by omega) x hx
/-- A number read: at most k bytes are left, acc is what was read, sh its bits. -/
def numG : Nat → Nat → Nat → List Int → Option (Nat × List Int)
  | 0, _, _, _ => none
  | _ + 1, _, _, [] => none
  | k + 1, acc, sh, c :: r =>
    if c < 128 then if (c = 0 ∧ 0 < sh) ∨ 2147483647 < acc + (c.toNat % 128) * 2 ^ sh then none else some (acc + (c.toNat % 128) * 2 ^ sh, r)
    else numG k (acc + (c.toNat % 128) * 2 ^ sh) (sh + 7) r
def num (bs : List Int) : Option (Nat × List Int) := numG 5 0 0 bs
def Bytes (bs : List Int) : Prop := ∀ x ∈ bs, 0 ≤ x ∧ x < 256
theorem numG_big : ∀ (k acc sh : Nat) (bs : List Int), 2147483647 < acc → numG k acc sh bs = none
  | 0, _, _, _, _ => rfl
  | _ + 1, _, _, [], _ => rfl
  | k + 1, acc, sh, c :: r, h => by
    unfold numG
    split
    · rw [if_pos (.inr (by omega))]
    · exact numG_big k _ _ r (by omega)
theorem numG_vint : ∀ (k acc sh m : Nat) (r : List Int), m < 128 ^ k → 1 ≤ k → acc + m * 2 ^ sh ≤ 2147483647 → (m ≠ 0 ∨ sh = 0) → numG k acc sh (vint m ++ r) = some (acc + m * 2 ^ sh, r)
  | 0, acc, sh, m, r, h, h0, h2, h3 => by omega
  | k + 1, acc, sh, m, r, h, h0, h2, h3 => by
    have hdiv : m / 128 < 128 ^ k := by rw [Nat.pow_succ] at h; exact Nat.div_lt_of_lt_mul (by rw [Nat.mul_comm]; exact h)
    rcases Nat.lt_or_ge m 128 with h1 | h1
    · rw [vint_lt h1]
      show numG (k + 1) acc sh ((m : Int) :: r) = _
      unfold numG
      rw [if_pos (by omega), Int.toNat_natCast, Nat.mod_eq_of_lt h1, if_neg (by omega)]
    · rw [vint_ge (by omega)]
      show numG (k + 1) acc sh (((m % 128 + 128 : Nat) : Int) :: (vint (m / 128) ++ r)) = _
      have e1 : (m % 128 + 128) % 128 = m % 128 := by omega
      have e2 : acc + m % 128 * 2 ^ sh + m / 128 * 2 ^ (sh + 7) = acc + m * 2 ^ sh := by
        have h5 : m / 128 * 2 ^ (sh + 7) = (m / 128 * 128) * 2 ^ sh := by rw [Nat.pow_add, Nat.mul_comm (2 ^ sh), ← Nat.mul_assoc]
        have h6 : m % 128 + m / 128 * 128 = m := Nat.mod_add_div' m 128
        rw [h5, Nat.add_assoc, ← Nat.add_mul, h6]
      unfold numG
      rw [if_neg (by omega), Int.toNat_natCast, e1]
      have := numG_vint k (acc + m % 128 * 2 ^ sh) (sh + 7) (m / 128) r hdiv (by
        rcases Nat.eq_zero_or_pos k with rfl | hk
        · simp at h; omega
        · exact hk) (by rw [e2]; exact h2) (.inl (by omega))
      rw [this, e2]
theorem numG_is : ∀ (k acc sh n : Nat) (bs r : List Int), Bytes bs → numG k acc sh bs = some (n, r) → ∃ m, bs = vint m ++ r ∧ n = acc + m * 2 ^ sh ∧ n ≤ 2147483647 ∧ (m ≠ 0 ∨ sh = 0)
  | 0, _, _, _, _, _, _, h => by simp [numG] at h
  | _ + 1, _, _, _, [], _, _, h => by simp [numG] at h
  | k + 1, acc, sh, n, c :: r0, r, hB, h => by
    have hc := hB c (List.mem_cons_self ..)
    unfold numG at h
    split at h
    · rename_i h1
      split at h
      · cases h
      · rename_i h2
        injection h with h
        injection h with h3 h4
        subst h4
        have e : c.toNat % 128 = c.toNat := by omega
        rw [e] at h2 h3
        refine ⟨c.toNat, ?_, h3.symm, by omega, by omega⟩
        rw [vint_lt (by omega)]
        show c :: r0 = (c.toNat : Int) :: r0
        rw [Int.toNat_of_nonneg hc.1]
    · rename_i h1
      obtain ⟨m, rfl, hn, hle, hm⟩ := numG_is k _ _ n r0 r (fun x hx => hB x (List.mem_cons_of_mem _ hx)) h
      have hm0 : m ≠ 0 := hm.resolve_right (by omega)
      have e0 : c.toNat % 128 = c.toNat - 128 := by omega
      refine ⟨(c.toNat - 128) + 128 * m, ?_, ?_, hle, .inl (by omega)⟩
      · rw [vint_ge (n := (c.toNat - 128) + 128 * m) (by omega)]
        have e1 : ((c.toNat - 128) + 128 * m) % 128 + 128 = c.toNat := by omega
        have e2 : ((c.toNat - 128) + 128 * m) / 128 = m := by omega
        rw [e1, e2, Int.toNat_of_nonneg hc.1]
        rfl
      · rw [hn, e0, Nat.add_assoc]
        congr 1
        rw [Nat.add_mul, Nat.pow_add]
        congr 1
        rw [Nat.mul_comm 128 m, Nat.mul_assoc, Nat.mul_comm 128]
theorem num_vint {n : Nat} (r : List Int) (h : n ≤ 2147483647) : num (vint n ++ r) = some (n, r) := by
  have := numG_vint 5 0 0 n r (by simp only [Nat.reducePow]; omega) (by decide) (by simpa using h) (.inr rfl)
  simpa [num] using this
theorem num_is {n : Nat} {bs r : List Int} (hB : Bytes bs) (h : num bs = some (n, r)) : bs = vint n ++ r ∧ n ≤ 2147483647 := by
  obtain ⟨m, h1, h2, h3, _⟩ := numG_is 5 0 0 n bs r hB h
  rw [Nat.pow_zero, Nat.mul_one, Nat.zero_add] at h2
  subst h2
  exact ⟨h1, h3⟩
end Go.Proofs.YtgdemplcpcacaaaFx

/-! Numbers of 32 bits, as natural numbers. -/
namespace Go.Proofs.YtgdemplcpcacaaaFx
open Go Go.RowKit
theorem w32 {m : Nat} (h : m < 4294967296) : IntKind.u32.wrap (m : Int) = m := by rw [IntKind.wrap_u32']; omega
theorem w8 {m : Nat} (h : m < 256) : IntKind.u8.wrap (m : Int) = m := by rw [IntKind.wrap_u8']; omega
section
variable {P : Program} {n : Nat} {l : Fr} {w : World} {x y : Operand} {ty t t2 : TypeId} {pos : String} {af : Array Edge} {gd : Option (Nat × Bool)} {dst : Option Tmp} {a : Nat} {ds : TypeDesc}
theorem v_quoN (b : Nat) (hb : 0 < b) (ha : a < 4294967296) (hx : ev l x = some (.int .u32 (a : Int))) (hy : ev l y = some (.int .u32 (b : Int))) : Vs P n l ⟨dst, .binOp .quo t x y t2, ty, pos, af, gd⟩ w (.int .u32 ((a / b : Nat) : Int)) := by
  have h := v_quo (P := P) (n := n) (w := w) (ty := ty) (t := t) (t2 := t2) (pos := pos) (af := af) (gd := gd) (dst := dst) hx hy (by omega)
  have e : Int.tdiv (a : Int) (b : Int) = ((a / b : Nat) : Int) := by rw [Int.tdiv_eq_ediv_of_nonneg (by omega)]; rfl
  rwa [e, w32 (Nat.lt_of_le_of_lt (Nat.div_le_self _ _) ha)] at h
theorem v_remN (b : Nat) (hb : 0 < b) (hx : ev l x = some (.int .u32 (a : Int))) (hy : ev l y = some (.int .u32 (b : Int))) : Vs P n l ⟨dst, .binOp .rem t x y t2, ty, pos, af, gd⟩ w (.int .u32 ((a % b : Nat) : Int)) := by
  have h := v_rem (P := P) (n := n) (w := w) (ty := ty) (t := t) (t2 := t2) (pos := pos) (af := af) (gd := gd) (dst := dst) hx hy (by omega)
  have e : Int.tmod (a : Int) (b : Int) = ((a % b : Nat) : Int) := by rw [Int.tmod_eq_emod_of_nonneg (by omega)]; rfl
  rwa [e] at h
theorem v_addN (b : Nat) (hab : a + b < 4294967296) (hx : ev l x = some (.int .u32 (a : Int))) (hy : ev l y = some (.int .u32 (b : Int))) : Vs P n l ⟨dst, .binOp .add t x y t2, ty, pos, af, gd⟩ w (.int .u32 ((a + b : Nat) : Int)) := by
  have h := v_add (P := P) (n := n) (w := w) (ty := ty) (t := t) (t2 := t2) (pos := pos) (af := af) (gd := gd) (dst := dst) hx hy
  rwa [show (a : Int) + (b : Int) = ((a + b : Nat) : Int) from rfl, w32 hab] at h
theorem v_mulN (b : Nat) (hab : a * b < 4294967296) (hx : ev l x = some (.int .u32 (a : Int))) (hy : ev l y = some (.int .u32 (b : Int))) : Vs P n l ⟨dst, .binOp .mul t x y t2, ty, pos, af, gd⟩ w (.int .u32 ((a * b : Nat) : Int)) := by
  have h := v_mul (P := P) (n := n) (w := w) (ty := ty) (t := t) (t2 := t2) (pos := pos) (af := af) (gd := gd) (dst := dst) hx hy
  rwa [show (a : Int) * (b : Int) = ((a * b : Nat) : Int) from rfl, w32 hab] at h
/-- From any kind: a number that fits. -/
theorem v_to32 {k : IntKind} (ha : a < 4294967296) (hs : P.underlying t = some ds) (hd : P.underlying t2 = some (.int .u32)) (hx : ev l x = some (.int k (a : Int))) : Vs P n l ⟨dst, .convert t t2 x, ty, pos, af, gd⟩ w (.int .u32 (a : Int)) := by
  have h := v_conv (P := P) (n := n) (w := w) (ty := ty) (pos := pos) (af := af) (gd := gd) (dst := dst) hs hd hx
  rwa [w32 ha] at h
theorem v_to8 {k : IntKind} (ha : a < 256) (hs : P.underlying t = some ds) (hd : P.underlying t2 = some (.int .u8)) (hx : ev l x = some (.int k (a : Int))) : Vs P n l ⟨dst, .convert t t2 x, ty, pos, af, gd⟩ w (.int .u8 ((UInt8.ofNat a).toNat : Int)) := by
  have h := v_conv (P := P) (n := n) (w := w) (ty := ty) (pos := pos) (af := af) (gd := gd) (dst := dst) hs hd hx
  rw [w8 ha] at h
  rwa [of_toNat ha]
theorem v_toI32 {k : IntKind} (ha : a < 2147483648) (hs : P.underlying t = some ds) (hd : P.underlying t2 = some (.int .i32)) (hx : ev l x = some (.int k (a : Int))) : Vs P n l ⟨dst, .convert t t2 x, ty, pos, af, gd⟩ w (.int .i32 (a : Int)) := by
  have h := v_conv (P := P) (n := n) (w := w) (ty := ty) (pos := pos) (af := af) (gd := gd) (dst := dst) hs hd hx
  have e : IntKind.i32.wrap (a : Int) = a := by
    simp only [IntKind.wrap, IntKind.bits, IntKind.signed]
    simp
    omega
  rwa [e] at h
end
theorem valid_dec (r : Int) : Utf8.valid r = dec ((0 ≤ r ∧ r < 55296) ∨ (57343 < r ∧ r ≤ 1114111)) := dec_eq (valid_iff r)
/-- A rune's bytes. -/
def encL (c : Nat) : List UInt8 := if c < 128 then [UInt8.ofNat c] else if c < 2048 then [UInt8.ofNat (192 + c / 64), UInt8.ofNat (128 + c % 64)] else if c < 65536 then [UInt8.ofNat (224 + c / 4096), UInt8.ofNat (128 + c / 64 % 64), UInt8.ofNat (128 + c % 64)] else [UInt8.ofNat (240 + c / 262144), UInt8.ofNat (128 + c / 4096 % 64), UInt8.ofNat (128 + c / 64 % 64), UInt8.ofNat (128 + c % 64)]
end Go.Proofs.YtgdemplcpcacaaaFx

/-! The number that bytes tell, byte by byte; strings of rows of bytes. -/
namespace Go.Proofs.YtgdemplcpcacaaaFx
open Go Go.RowKit
section
variable {P : Program} {n : Nat} {l : Fr} {w W0 : World} {L : List Ch} {x : Operand} {ty t t2 e : TypeId} {pos : String} {af : Array Edge} {gd : Option (Nat × Bool)} {dst : Option Tmp}
theorem v_convBS {A : Option Addr} {c : Nat} {bs : List UInt8} (hs : P.underlying t = some (.slice e)) (he : P.underlying e = some (.int .u8)) (hd : P.underlying t2 = some .string) (hA : A = some (adr A)) (hc : ∀ j u, (byC bs)[j]? = some u → w.cell? ((adr A).add j) = some u) (hx : ev l x = some (.slice A bs.length c)) : Vs P n l ⟨dst, .convert t t2 x, ty, pos, af, gd⟩ w (.string ⟨bs.toArray⟩) := fun a ha => by
  rw [hA] at hx
  have h := run_convert_bytes_back (P := P) w t t2 e (adr A) c bs hs he hd (fun j hj => hc j _ (by simp [Lib.byteCells, List.getElem?_eq_getElem hj]))
  simp [execOp, ha.eval hx, h]
end
/-- The number so far. -/
def acN (s : ByteArray) (i n : Nat) : Nat → Nat
  | 0 => if 1 < n then bt s i 0 % 2 ^ (7 - n) else bt s i 0
  | k + 1 => acN s i n k * 64 + bt s i (k + 1) % 64
theorem acN_cnd {s : ByteArray} {i n : Nat} (h1 : 1 ≤ n) (h4 : n ≤ 4) : acN s i n (n - 1) = cnd s i n := by
  rcases (by omega : n = 1 ∨ n = 2 ∨ n = 3 ∨ n = 4) with rfl | rfl | rfl | rfl
  · rfl
  · rfl
  · show (bt s i 0 % 16 * 64 + bt s i 1 % 64) * 64 + bt s i 2 % 64 = bt s i 0 % 16 * 4096 + bt s i 1 % 64 * 64 + bt s i 2 % 64
    omega
  · show ((bt s i 0 % 8 * 64 + bt s i 1 % 64) * 64 + bt s i 2 % 64) * 64 + bt s i 3 % 64 = bt s i 0 % 8 * 262144 + bt s i 1 % 64 * 4096 + bt s i 2 % 64 * 64 + bt s i 3 % 64
    omega
theorem acN_0 (s : ByteArray) (i n : Nat) : acN s i n 0 < 256 := by
  have := bt_lt s i 0
  show (if 1 < n then bt s i 0 % 2 ^ (7 - n) else bt s i 0) < 256
  split
  · exact Nat.lt_of_le_of_lt (Nat.mod_le _ _) this
  · exact this
theorem acN_lt (s : ByteArray) (i n m : Nat) (h : m ≤ 3) : acN s i n m < 67108864 ∧ (m ≤ 2 → acN s i n m < 1048576) := by
  have h0 := acN_0 s i n
  have e1 : acN s i n 1 = acN s i n 0 * 64 + bt s i 1 % 64 := rfl
  have e2 : acN s i n 2 = acN s i n 1 * 64 + bt s i 2 % 64 := rfl
  have e3 : acN s i n 3 = acN s i n 2 * 64 + bt s i 3 % 64 := rfl
  rcases (by omega : m = 0 ∨ m = 1 ∨ m = 2 ∨ m = 3) with rfl | rfl | rfl | rfl
  · omega
  · omega
  · omega
  · omega
theorem shl7 {n : Nat} (h1 : 1 < n) (h4 : n ≤ 4) : IntKind.u32.wrap (1 * 2 ^ (7 - (n : Int)).toNat) = ((2 ^ (7 - n) : Nat) : Int) := by
  rcases (by omega : n = 2 ∨ n = 3 ∨ n = 4) with rfl | rfl | rfl <;> rfl
theorem enc_encL {c : Nat} (hv : Utf8.valid (c : Int) = true) : Utf8.encode (c : Int) = ⟨(encL c).toArray⟩ := enc_is hv
section
variable {s : ByteArray} {i n : Nat}
theorem nxt_end (hi : i < s.size) (hno : ∀ m, 1 ≤ m → m < n → ¬ isR s i m) (hx : n = 5 ∨ s.size < i + n) : nxt s i = (0, 1, false) := nxt_no hi fun m h1 h2 hR => by
  rcases (by omega : m < n ∨ n ≤ m) with h3 | h3
  · exact hno m h1 h3 hR
  · have h4 := hR.1
    omega
theorem notR_next (hno : ∀ m, 1 ≤ m → m < n → ¬ isR s i m) (h : ¬ isR s i n) : ∀ m, 1 ≤ m → m < n + 1 → ¬ isR s i m := fun m h1 h2 => by
  rcases (by omega : m < n ∨ m = n) with h3 | h3
  · exact hno m h1 h3
  · subst h3
    exact h
theorem notR_big (h : ¬ ((cnd s i n : Nat) : Int) ≤ 1114111) : ¬ isR s i n := fun hR => by
  have := (valid_iff _).1 hR.2.1
  omega
theorem notR_bad (h : Utf8.valid ((cnd s i n : Nat) : Int) = false) : ¬ isR s i n := fun hR => absurd (hR.2.1.symm.trans h) (by decide)
theorem notR_ne (h : ¬ (⟨(encL (cnd s i n)).toArray⟩ : ByteArray) = s.extract i (i + n)) : ¬ isR s i n := fun hR => by
  have h2 := hR.2.2
  rw [enc_encL hR.2.1] at h2
  exact h h2
end
end Go.Proofs.YtgdemplcpcacaaaFx
