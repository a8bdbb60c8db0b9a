/- A node's text: the program's answer. A node's text, written: the program's answer. An action's parts counted. Which rows of texts are kinds, or rules' names. -/
import Derived.Test.YtgdemplcpcacaaaProg
import Derived.Test.YtgdemplcpcacaaaK03
import Derived.Test.YtgdemplcpcacaaaK04
import Derived.Test.YtgdemplcpcacaaaK02
set_option linter.unusedVariables false
set_option linter.unusedSimpArgs false
/-! A node's text: the program's answer. -/
namespace Go.Proofs.Ytgdemplcpcacaaa.TextW
open Go Go.RowKit Go.Proofs.YtgdemplcpcacaaaFx Go.Proofs.Ytgdemplcpcacaaa.BldW Go.Proofs.Ytgdemplcpcacaaa.QuoteW Go.Proofs.Ytgdemplcpcacaaa.NameW
theorem agg24 : Agg Try.prog 24 4 := agg_of Try.underlying24 (by kernel_rfl)
theorem agg85 : Agg Try.prog 85 3 := agg_of Try.underlying85 (by kernel_rfl)
theorem en28 : Enters Try.prog 28 := enters Try.func28 (by kernel_rfl) rfl
theorem en29 : Enters Try.prog 29 := enters Try.func29 (by kernel_rfl) rfl
theorem en30 : Enters Try.prog 30 := enters Try.func30 (by kernel_rfl) rfl
theorem en55 : Enters Try.prog 55 := enters Try.func55 (by kernel_rfl) rfl
theorem fa24_0 : FieldAt Try.prog 24 0 0 := field_at (sz := 0) Try.underlying24 rfl (by kernel_rfl) rfl
theorem fa24_1 : FieldAt Try.prog 24 1 1 := field_at (sz := 0) Try.underlying24 rfl (by kernel_rfl) rfl
theorem fa24_2 : FieldAt Try.prog 24 2 2 := field_at (sz := 0) Try.underlying24 rfl (by kernel_rfl) rfl
theorem fa24_3 : FieldAt Try.prog 24 3 3 := field_at (sz := 0) Try.underlying24 rfl (by kernel_rfl) rfl
theorem fa85_1 : FieldAt Try.prog 85 1 1 := field_at (sz := 0) Try.underlying85 rfl (by kernel_rfl) rfl
theorem fa85_2 : FieldAt Try.prog 85 2 2 := field_at (sz := 0) Try.underlying85 rfl (by kernel_rfl) rfl
theorem mixed : Try.prog.follows .mixedOrders = true := by kernel_rfl
theorem one22 : One Try.prog 22 := one_of Try.underlying22 rfl (by kernel_rfl)
theorem one3 : One Try.prog 3 := one_of Try.underlying3 rfl (by kernel_rfl)
theorem one9 : One Try.prog 9 := one_of Try.underlying9 rfl (by kernel_rfl)
theorem sz24 : ∀ W, (sizeOf 24).run Try.prog W = .ok 4 W := size_of (by kernel_rfl)
theorem sz85 : ∀ W, (sizeOf 85).run Try.prog W = .ok 3 W := size_of (by kernel_rfl)
theorem zv24 : ∀ W, (zeroValue 24).run Try.prog W = .ok (.agg #[.int .i64 0, .string ⟨#[]⟩, .int .i64 0, .slice none 0 0]) W := zero_of (by kernel_rfl)
theorem zv85 : ∀ W, (zeroValue 85).run Try.prog W = .ok (.agg #[.int .i64 0, .int .i64 0, .int .i64 0]) W := zero_of (by kernel_rfl)

theorem Tr.Alls_iff' {α : Type} {p : α → Nat → Prop} (z : Tr α) (ts : List (Tr α)) : Tr.Alls p ts ↔ ∀ j, j < ts.length → (ts.getD j z).All p := ⟨fun h j hj => Tr.Alls_at z hj h, fun h => (Tr.Alls_iff ts).2 fun t ht => by
  obtain ⟨j, hj, rfl⟩ := List.mem_iff_getElem.1 ht
  have := h j hj
  rwa [List.getD_eq_getElem?_getD, List.getElem?_eq_getElem hj] at this⟩
def RowOkW (src : ByteArray) (toks : List Tk) (t : Nd) : Prop := ∀ (w : World) (A B : Option Addr) (k kt : Nat) (hT : Rd fTk.kn w A toks) (hr : Rd (kTr fNd) w B t.kids) (hf : t.All smallN), Calls Try.prog 28 #[.agg #[.int .i64 t.x.kind, .string t.x.name, .int .i64 t.x.tok, .slice B t.kids.length k], .string src, .slice A toks.length kt] w fun e w' => ∃ v, e = .returned v ∧ v = .bool (dec (t.All (rowP src toks))) ∧ Holds w [] w'

set_option maxHeartbeats 3200000 in
set_option maxRecDepth 100000 in
theorem row_step {src : ByteArray} {toks : List Tk} {t : Nd} {w : World} {A B : Option Addr} {k kt : Nat} (hss : src.size ≤ 1099511627776) (htl : toks.length ≤ 1099511627776) (hT : Rd fTk.kn w A toks) (hr : Rd (kTr fNd) w B t.kids) (hf : t.All smallN) (ih : ∀ t' ∈ t.kids, RowOkW src toks t') : Calls Try.prog 28 #[.agg #[.int .i64 t.x.kind, .string t.x.name, .int .i64 t.x.tok, .slice B t.kids.length k], .string src, .slice A toks.length kt] w fun e w' => ∃ v, e = .returned v ∧ v = .bool (dec (t.All (rowP src toks))) ∧ Holds w [] w' := by
  obtain ⟨⟨hsz, hkk⟩, hks⟩ := (Tr.All_eq t).1 hf
  refine calls_of Try.func28 rfl Try.ntmps28 rfl ?_
  have H := Holds.start w
  refine wcR ?_
  refine wl_box (cs := [_, _, _, _]) H rfl rfl rfl ?_
  intro b3 w1 hb3 H2
  refine wA ?_
  refine wl_nil ?_
  refine wc_cut (σ := Unit) (fun q => [(1, .string src), (2, .slice A toks.length kt), (3, .pointer (some ⟨b3, 0, none⟩))]) (fun q W => rowP src toks t.x t.kids.length ∧ Holds w [Blk b3 24 [.int .i64 t.x.kind, .string t.x.name, .int .i64 t.x.tok, .slice B t.kids.length k]] W) ?_ ?_
  rotate_left
  ·rintro ⟨⟩ Wm ⟨hp0, H⟩
   refine wc_seq ?_
   refine wcR ?_
   refine wV (v_fb (o2 := 3) fa24_3 rfl rfl) ?_
   refine wV (v_load one22 rfl (H.at (by repeat constructor) rfl)) ?_
   refine wV (v_len Try.underlying22 rfl) ?_
   refine wM ?_
   refine wl_nil ?_
   refine wc_block ?_
   refine wc_loop (σ := Nat) (fun s => [(1, .string src), (2, .slice A toks.length kt), (46, .slice B t.kids.length k), (47, .int .i64 t.kids.length), (48, .int .i64 s)]) (fun s W => (s ≤ t.kids.length ∧ (∀ j, j < s → (t.kids.getD j nd0).All (rowP src toks))) ∧ Holds w [Blk b3 24 [.int .i64 t.x.kind, .string t.x.name, .int .i64 t.x.tok, .slice B t.kids.length k]] W) (fun s => t.kids.length - s) 0 (sc rfl (sc rfl (sc rfl (sc rfl (sc rfl (sn _)))))) ⟨⟨Nat.zero_le _, upto_zero⟩, H⟩ ?_
   rintro i W0 ⟨⟨hi, ha⟩, H⟩
   refine wcR ?_
   refine wV (v_lss rfl rfl) ?_
   refine wl_nil ?_
   refine wc_seq ?_
   refine wc_cond rfl (fun c3 => ?_) (fun c3 => ?_)
   rotate_left
   ·have c3p := oF c3
    refine wc_exit ?_
    refine wcR ?_
    refine wA ?_
    refine wl_nil ?_
    refine wc_ret ?_
    first
      | exact ⟨_, res1 rfl rfl, congrArg Value.bool (dec_t ((Tr.All_eq t).2 ⟨hp0, (Tr.Alls_iff' nd0 _).2 fun j hj => ha j (by omega)⟩)).symm, H.pm (Pm.nil _)⟩
      | exact ⟨_, res1 rfl rfl, congrArg Value.bool (dec_f fun hh => of_ndec (of_n_t c4) (Tr.Alls_at nd0 hin ((Tr.All_eq t).1 hh).2)).symm, H.pm (Pm.nil _)⟩
      | exact ⟨_, res1 rfl rfl, congrArg Value.bool (dec_f fun hh => by have h_ := ((Tr.All_eq t).1 hh).1 c0p; omega).symm, H.pm (Pm.nil _)⟩
   have c3p := oT c3
   have hin : i < t.kids.length := by omega
   refine wc_skip ?_
   refine wc_seq ?_
   refine wc_block ?_
   refine wcR ?_
   refine wV (v_idx Try.underlying22 sz24 hr.ad rfl rfl (by omega) (by omega)) ?_
   obtain ⟨B51_, k51_, hc51_, hl51_, hr51_⟩ := hr.atTr nd0 (i := i) (by omega)
   refine wV (v_loadN (cs := [.int .i64 (t.kids.getD i nd0).x.kind, .string (t.kids.getD i nd0).x.name, .int .i64 (t.kids.getD i nd0).x.tok, .slice B51_ (t.kids.getD i nd0).kids.length k51_]) agg24 rfl rfl (fun q_ u_ hu_ => H.cell (hc51_ q_ u_ hu_))) ?_
   refine wl_alloc (cs := [.int .i64 0, .string ⟨#[]⟩, .int .i64 0, .slice none 0 0]) H rfl zv24 rfl ?_
   intro b9 w8 hb9 H9
   refine wl_store (vs := [_, _, _, _]) H9 (by repeat constructor) sz24 rfl rfl rfl rfl rfl (by (repeat constructor)) ?_
   intro w10 H11 hw10
   refine wl_nil ?_
   refine wcR ?_
   refine wV (v_loadN agg24 rfl rfl (H11.ats (by repeat constructor))) ?_
   refine wM ?_
   refine wM ?_
   refine wl_call en28 rfl rfl (ih _ (getD_mem (z := nd0) hin) _ A _ _ kt (hT.below H11.old) (hr51_.below H11.old) (Tr.Alls_at nd0 hin hks)) ?_
   rintro _ w12 ⟨rfl, Hc⟩
   have H13 := H11.call0 Hc
   refine wV (v_not rfl) ?_
   refine wl_nil ?_
   refine wc_cond rfl (fun c4 => ?_) (fun c4 => ?_)
   rotate_left
   ·have c4p := of_n_f c4
    refine wc_skip ?_
    refine wc_region ?_
    refine wV (v_addi rfl rfl (by omega)) ?_
    refine wM ?_
    refine wl_nil ?_
    exact ⟨i + 1, (sc rfl (sc rfl (sc rfl (sc rfl (sc rfl (sn _)))))), ⟨⟨by omega, upto_succ ha (of_dec (of_n_f c4))⟩, H13.pm (by repeat constructor)⟩, by omega⟩
   have c4p := of_n_t c4
   refine wcR ?_
   refine wA ?_
   refine wl_nil ?_
   refine wc_ret ?_
   first
     | exact ⟨_, res1 rfl rfl, congrArg Value.bool (dec_t ((Tr.All_eq t).2 ⟨hp0, (Tr.Alls_iff' nd0 _).2 fun j hj => ha j (by omega)⟩)).symm, H13.pm (Pm.nil _)⟩
     | exact ⟨_, res1 rfl rfl, congrArg Value.bool (dec_f fun hh => of_ndec (of_n_t c4) (Tr.Alls_at nd0 hin ((Tr.All_eq t).1 hh).2)).symm, H13.pm (Pm.nil _)⟩
     | exact ⟨_, res1 rfl rfl, congrArg Value.bool (dec_f fun hh => by have h_ := ((Tr.All_eq t).1 hh).1 c0p; omega).symm, H13.pm (Pm.nil _)⟩
  refine wcR ?_
  refine wV (v_fb (o2 := 0) fa24_0 rfl rfl) ?_
  refine wV (v_load one3 rfl (H2.at (by repeat constructor) rfl)) ?_
  refine wV (v_eql rfl rfl) ?_
  refine wl_nil ?_
  refine wc_cond rfl (fun c0 => ?_) (fun c0 => ?_)
  rotate_left
  ·have c0p := oF c0
   refine wc_skip ?_
   exact ⟨(), (sc rfl (sc rfl (sc rfl (sn _)))), ⟨fun h_ => (by first | omega | exact absurd h_ c0p), H2.pm (by repeat constructor)⟩⟩
  have c0p := oT c0
  refine wc_seq ?_
  refine wcR ?_
  refine wV (v_fb (o2 := 2) fa24_2 rfl rfl) ?_
  refine wV (v_load one3 rfl (H2.at (by repeat constructor) rfl)) ?_
  refine wV (v_lss rfl rfl) ?_
  refine wM ?_
  refine wl_guard rfl rfl rfl (fun g16 => ?_) (fun g16 => ?_)
  rotate_left
  ·have g16p := oT g16
   refine wF g16 ?_
   refine wF g16 ?_
   refine wF g16 ?_
   refine wF g16 ?_
   refine wV (v_pick_t rfl g16 rfl) ?_
   refine wl_nil ?_
   refine wc_cond_t rfl ?_
   refine wcR ?_
   refine wA ?_
   refine wl_nil ?_
   refine wc_ret ?_
   first
     | exact ⟨_, res1 rfl rfl, congrArg Value.bool (dec_t ((Tr.All_eq t).2 ⟨hp0, (Tr.Alls_iff' nd0 _).2 fun j hj => ha j (by omega)⟩)).symm, H2.pm (Pm.nil _)⟩
     | exact ⟨_, res1 rfl rfl, congrArg Value.bool (dec_f fun hh => of_ndec (of_n_t c4) (Tr.Alls_at nd0 hin ((Tr.All_eq t).1 hh).2)).symm, H2.pm (Pm.nil _)⟩
     | exact ⟨_, res1 rfl rfl, congrArg Value.bool (dec_f fun hh => by have h_ := ((Tr.All_eq t).1 hh).1 c0p; omega).symm, H2.pm (Pm.nil _)⟩
  have g16p := oF g16
  refine wV (v_fb (o2 := 2) fa24_2 rfl rfl) ?_
  refine wO g16 ?_
  refine wV (v_load one3 rfl (H2.at (by repeat constructor) rfl)) ?_
  refine wO g16 ?_
  refine wM ?_
  refine wO g16 ?_
  refine wV (v_len Try.underlying25 rfl) ?_
  refine wO g16 ?_
  refine wV (v_geq rfl rfl) ?_
  refine wV (v_pick_f rfl g16 rfl) ?_
  refine wl_nil ?_
  refine wc_cond rfl (fun c1 => ?_) (fun c1 => ?_)
  ·have c1p := oT c1
   refine wcR ?_
   refine wA ?_
   refine wl_nil ?_
   refine wc_ret ?_
   first
     | exact ⟨_, res1 rfl rfl, congrArg Value.bool (dec_t ((Tr.All_eq t).2 ⟨hp0, (Tr.Alls_iff' nd0 _).2 fun j hj => ha j (by omega)⟩)).symm, H2.pm (Pm.nil _)⟩
     | exact ⟨_, res1 rfl rfl, congrArg Value.bool (dec_f fun hh => of_ndec (of_n_t c4) (Tr.Alls_at nd0 hin ((Tr.All_eq t).1 hh).2)).symm, H2.pm (Pm.nil _)⟩
     | exact ⟨_, res1 rfl rfl, congrArg Value.bool (dec_f fun hh => by have h_ := ((Tr.All_eq t).1 hh).1 c0p; omega).symm, H2.pm (Pm.nil _)⟩
  have c1p := oF c1
  refine wc_skip ?_
  refine wcR ?_
  refine wM ?_
  refine wV (v_fb (o2 := 2) fa24_2 rfl rfl) ?_
  refine wV (v_load one3 rfl (H2.at (by repeat constructor) rfl)) ?_
  refine wV (v_idx Try.underlying25 sz85 hT.ad rfl rfl (by omega) (by omega)) ?_
  refine wV (v_loadN (cs := fTk.enc _) agg85 rfl rfl (fun k u hu => H2.cell (hT.at (k := k) tk0 (by omega) (by omega) hu))) ?_
  refine wl_alloc (cs := [.int .i64 0, .int .i64 0, .int .i64 0]) H2 rfl zv85 rfl ?_
  intro b7 w3 hb7 H4
  refine wl_store (vs := [_, _, _]) H4 (by repeat constructor) sz85 rfl rfl rfl rfl rfl (by (repeat constructor)) ?_
  intro w5 H6 hw5
  refine wl_nil ?_
  refine wcR ?_
  refine wV (v_fb (o2 := 1) fa85_1 rfl rfl) ?_
  refine wV (v_load one3 rfl (H6.at (by repeat constructor) rfl)) ?_
  refine wV (v_lss rfl rfl) ?_
  refine wM ?_
  refine wl_guard rfl rfl rfl (fun g31 => ?_) (fun g31 => ?_)
  rotate_left
  ·have g31p := oT g31
   refine wF g31 ?_
   refine wF g31 ?_
   refine wF g31 ?_
   refine wF g31 ?_
   refine wV (v_pick_t rfl g31 rfl) ?_
   refine wM ?_
   refine wF rfl ?_
   refine wF rfl ?_
   refine wF rfl ?_
   refine wF rfl ?_
   refine wF rfl ?_
   refine wV (v_pick_t rfl rfl rfl) ?_
   refine wl_nil ?_
   refine wc_cond_t rfl ?_
   refine wcR ?_
   refine wA ?_
   refine wl_nil ?_
   refine wc_ret ?_
   first
     | exact ⟨_, res1 rfl rfl, congrArg Value.bool (dec_t ((Tr.All_eq t).2 ⟨hp0, (Tr.Alls_iff' nd0 _).2 fun j hj => ha j (by omega)⟩)).symm, H6.pm (Pm.nil _)⟩
     | exact ⟨_, res1 rfl rfl, congrArg Value.bool (dec_f fun hh => of_ndec (of_n_t c4) (Tr.Alls_at nd0 hin ((Tr.All_eq t).1 hh).2)).symm, H6.pm (Pm.nil _)⟩
     | exact ⟨_, res1 rfl rfl, congrArg Value.bool (dec_f fun hh => by have h_ := ((Tr.All_eq t).1 hh).1 c0p; omega).symm, H6.pm (Pm.nil _)⟩
  have g31p := oF g31
  refine wV (v_fb (o2 := 2) fa85_2 rfl rfl) ?_
  refine wO g31 ?_
  refine wV (v_load one3 rfl (H6.at (by repeat constructor) rfl)) ?_
  refine wO g31 ?_
  refine wV (v_fb (o2 := 1) fa85_1 rfl rfl) ?_
  refine wO g31 ?_
  refine wV (v_load one3 rfl (H6.at (by repeat constructor) rfl)) ?_
  refine wO g31 ?_
  refine wV (v_lss rfl rfl) ?_
  refine wV (v_pick_f rfl g31 rfl) ?_
  refine wM ?_
  refine wl_guard rfl rfl rfl (fun g38 => ?_) (fun g38 => ?_)
  rotate_left
  ·have g38p := oT g38
   refine wF g38 ?_
   refine wF g38 ?_
   refine wF g38 ?_
   refine wF g38 ?_
   refine wV (v_pick_t rfl g38 rfl) ?_
   refine wl_nil ?_
   refine wc_cond_t rfl ?_
   refine wcR ?_
   refine wA ?_
   refine wl_nil ?_
   refine wc_ret ?_
   first
     | exact ⟨_, res1 rfl rfl, congrArg Value.bool (dec_t ((Tr.All_eq t).2 ⟨hp0, (Tr.Alls_iff' nd0 _).2 fun j hj => ha j (by omega)⟩)).symm, H6.pm (Pm.nil _)⟩
     | exact ⟨_, res1 rfl rfl, congrArg Value.bool (dec_f fun hh => of_ndec (of_n_t c4) (Tr.Alls_at nd0 hin ((Tr.All_eq t).1 hh).2)).symm, H6.pm (Pm.nil _)⟩
     | exact ⟨_, res1 rfl rfl, congrArg Value.bool (dec_f fun hh => by have h_ := ((Tr.All_eq t).1 hh).1 c0p; omega).symm, H6.pm (Pm.nil _)⟩
  have g38p := oF g38
  refine wV (v_fb (o2 := 2) fa85_2 rfl rfl) ?_
  refine wO g38 ?_
  refine wV (v_load one3 rfl (H6.at (by repeat constructor) rfl)) ?_
  refine wO g38 ?_
  refine wM ?_
  refine wO g38 ?_
  refine wV (v_lens Try.underlying9 rfl) ?_
  refine wO g38 ?_
  refine wV (v_gtr rfl rfl) ?_
  refine wV (v_pick_f rfl g38 rfl) ?_
  refine wl_nil ?_
  refine wc_cond rfl (fun c2 => ?_) (fun c2 => ?_)
  rotate_left
  ·have c2p := oF c2
   refine wc_skip ?_
   exact ⟨(), (sc rfl (sc rfl (sc rfl (sn _)))), ⟨fun h_ => (by first | omega | exact absurd h_ c0p), H6.pm (by repeat constructor)⟩⟩
  have c2p := oT c2
  refine wcR ?_
  refine wA ?_
  refine wl_nil ?_
  refine wc_ret ?_
  first
    | exact ⟨_, res1 rfl rfl, congrArg Value.bool (dec_t ((Tr.All_eq t).2 ⟨hp0, (Tr.Alls_iff' nd0 _).2 fun j hj => ha j (by omega)⟩)).symm, H6.pm (Pm.nil _)⟩
    | exact ⟨_, res1 rfl rfl, congrArg Value.bool (dec_f fun hh => of_ndec (of_n_t c4) (Tr.Alls_at nd0 hin ((Tr.All_eq t).1 hh).2)).symm, H6.pm (Pm.nil _)⟩
    | exact ⟨_, res1 rfl rfl, congrArg Value.bool (dec_f fun hh => by have h_ := ((Tr.All_eq t).1 hh).1 c0p; omega).symm, H6.pm (Pm.nil _)⟩

theorem row_calls {src : ByteArray} {toks : List Tk} (hss : src.size ≤ 1099511627776) (htl : toks.length ≤ 1099511627776) : ∀ t : Nd, RowOkW src toks t := Tr.ind fun x kids ih => fun w A B k kt hT hr hf => row_step (t := .mk x kids) hss htl hT hr hf ih

def NamedOk (t : Nd) : Prop := ∀ (w : World) (B : Option Addr) (k : Nat) (hr : Rd (kTr fNd) w B t.kids) (hf : t.All smallN), Calls Try.prog 29 #[.agg #[.int .i64 t.x.kind, .string t.x.name, .int .i64 t.x.tok, .slice B t.kids.length k]] w fun e w' => ∃ v, e = .returned v ∧ v = .bool (dec (t.All namP)) ∧ Holds w [] w'

set_option maxHeartbeats 3200000 in
set_option maxRecDepth 100000 in
theorem named_step {t : Nd} {w : World} {B : Option Addr} {k : Nat} (hr : Rd (kTr fNd) w B t.kids) (hf : t.All smallN) (ih : ∀ t' ∈ t.kids, NamedOk t') : Calls Try.prog 29 #[.agg #[.int .i64 t.x.kind, .string t.x.name, .int .i64 t.x.tok, .slice B t.kids.length k]] w fun e w' => ∃ v, e = .returned v ∧ v = .bool (dec (t.All namP)) ∧ Holds w [] w' := by
  obtain ⟨⟨hsz, hkk⟩, hks⟩ := (Tr.All_eq t).1 hf
  refine calls_of Try.func29 rfl Try.ntmps29 rfl ?_
  have H := Holds.start w
  refine wcR ?_
  refine wl_box (cs := [_, _, _, _]) H rfl rfl rfl ?_
  intro b1 w1 hb1 H2
  refine wA ?_
  refine wl_nil ?_
  refine wc_seq ?_
  refine wc_cut (σ := Bool) (fun q => [(1, .pointer (some ⟨b1, 0, none⟩)), (23, .bool q)]) (fun q W => q = dec (¬ namP t.x t.kids.length) ∧ Holds w [Blk b1 24 [.int .i64 t.x.kind, .string t.x.name, .int .i64 t.x.tok, .slice B t.kids.length k]] W) ?_ ?_
  rotate_left
  ·rintro bad Wm ⟨hbad, H⟩
   refine wc_cond rfl (fun c0 => ?_) (fun c0 => ?_)
   ·refine wcR ?_
    refine wA ?_
    refine wl_nil ?_
    refine wc_ret ?_
    first
      | exact ⟨_, res1 rfl rfl, congrArg Value.bool (dec_t ((Tr.All_eq t).2 ⟨hp0, (Tr.Alls_iff' nd0 _).2 fun j hj => ha j (by omega)⟩)).symm, H.pm (Pm.nil _)⟩
      | exact ⟨_, res1 rfl rfl, congrArg Value.bool (dec_f fun hh => of_ndec (of_n_t c2) (Tr.Alls_at nd0 hin ((Tr.All_eq t).1 hh).2)).symm, H.pm (Pm.nil _)⟩
      | exact ⟨_, res1 rfl rfl, congrArg Value.bool (dec_f fun hh => of_dec (hbad.symm.trans c0) ((Tr.All_eq t).1 hh).1).symm, H.pm (Pm.nil _)⟩
   have hp0 : namP t.x t.kids.length := Classical.byContradiction fun h_ => of_ndec (hbad.symm.trans c0) h_
   refine wc_skip ?_
   refine wc_seq ?_
   refine wcR ?_
   refine wV (v_fb (o2 := 3) fa24_3 rfl rfl) ?_
   refine wV (v_load one22 rfl (H.at (by repeat constructor) rfl)) ?_
   refine wV (v_len Try.underlying22 rfl) ?_
   refine wM ?_
   refine wl_nil ?_
   refine wc_block ?_
   refine wc_loop (σ := Nat) (fun s => [(25, .slice B t.kids.length k), (26, .int .i64 t.kids.length), (27, .int .i64 s)]) (fun s W => (s ≤ t.kids.length ∧ (∀ j, j < s → (t.kids.getD j nd0).All namP)) ∧ Holds w [Blk b1 24 [.int .i64 t.x.kind, .string t.x.name, .int .i64 t.x.tok, .slice B t.kids.length k]] W) (fun s => t.kids.length - s) 0 (sc rfl (sc rfl (sc rfl (sn _)))) ⟨⟨Nat.zero_le _, upto_zero⟩, H⟩ ?_
   rintro i W0 ⟨⟨hi, ha⟩, H⟩
   refine wcR ?_
   refine wV (v_lss rfl rfl) ?_
   refine wl_nil ?_
   refine wc_seq ?_
   refine wc_cond rfl (fun c1 => ?_) (fun c1 => ?_)
   rotate_left
   ·have c1p := oF c1
    refine wc_exit ?_
    refine wcR ?_
    refine wA ?_
    refine wl_nil ?_
    refine wc_ret ?_
    first
      | exact ⟨_, res1 rfl rfl, congrArg Value.bool (dec_t ((Tr.All_eq t).2 ⟨hp0, (Tr.Alls_iff' nd0 _).2 fun j hj => ha j (by omega)⟩)).symm, H.pm (Pm.nil _)⟩
      | exact ⟨_, res1 rfl rfl, congrArg Value.bool (dec_f fun hh => of_ndec (of_n_t c2) (Tr.Alls_at nd0 hin ((Tr.All_eq t).1 hh).2)).symm, H.pm (Pm.nil _)⟩
      | exact ⟨_, res1 rfl rfl, congrArg Value.bool (dec_f fun hh => of_dec (hbad.symm.trans c0) ((Tr.All_eq t).1 hh).1).symm, H.pm (Pm.nil _)⟩
   have c1p := oT c1
   have hin : i < t.kids.length := by omega
   refine wc_skip ?_
   refine wc_seq ?_
   refine wc_block ?_
   refine wcR ?_
   refine wV (v_idx Try.underlying22 sz24 hr.ad rfl rfl (by omega) (by omega)) ?_
   obtain ⟨B30_, k30_, hc30_, hl30_, hr30_⟩ := hr.atTr nd0 (i := i) (by omega)
   refine wV (v_loadN (cs := [.int .i64 (t.kids.getD i nd0).x.kind, .string (t.kids.getD i nd0).x.name, .int .i64 (t.kids.getD i nd0).x.tok, .slice B30_ (t.kids.getD i nd0).kids.length k30_]) agg24 rfl rfl (fun q_ u_ hu_ => H.cell (hc30_ q_ u_ hu_))) ?_
   refine wl_alloc (cs := [.int .i64 0, .string ⟨#[]⟩, .int .i64 0, .slice none 0 0]) H rfl zv24 rfl ?_
   intro b4 w6 hb4 H7
   refine wl_store (vs := [_, _, _, _]) H7 (by repeat constructor) sz24 rfl rfl rfl rfl rfl (by (repeat constructor)) ?_
   intro w8 H9 hw8
   refine wl_nil ?_
   refine wcR ?_
   refine wV (v_loadN agg24 rfl rfl (H9.ats (by repeat constructor))) ?_
   refine wl_call en29 rfl rfl (ih _ (getD_mem (z := nd0) hin) _ _ _ (hr30_.below H9.old) (Tr.Alls_at nd0 hin hks)) ?_
   rintro _ w10 ⟨rfl, Hc⟩
   have H11 := H9.call0 Hc
   refine wV (v_not rfl) ?_
   refine wl_nil ?_
   refine wc_cond rfl (fun c2 => ?_) (fun c2 => ?_)
   rotate_left
   ·have c2p := of_n_f c2
    refine wc_skip ?_
    refine wc_region ?_
    refine wV (v_addi rfl rfl (by omega)) ?_
    refine wM ?_
    refine wl_nil ?_
    exact ⟨i + 1, (sc rfl (sc rfl (sc rfl (sn _)))), ⟨⟨by omega, upto_succ ha (of_dec (of_n_f c2))⟩, H11.pm (by repeat constructor)⟩, by omega⟩
   have c2p := of_n_t c2
   refine wcR ?_
   refine wA ?_
   refine wl_nil ?_
   refine wc_ret ?_
   first
     | exact ⟨_, res1 rfl rfl, congrArg Value.bool (dec_t ((Tr.All_eq t).2 ⟨hp0, (Tr.Alls_iff' nd0 _).2 fun j hj => ha j (by omega)⟩)).symm, H11.pm (Pm.nil _)⟩
     | exact ⟨_, res1 rfl rfl, congrArg Value.bool (dec_f fun hh => of_ndec (of_n_t c2) (Tr.Alls_at nd0 hin ((Tr.All_eq t).1 hh).2)).symm, H11.pm (Pm.nil _)⟩
     | exact ⟨_, res1 rfl rfl, congrArg Value.bool (dec_f fun hh => of_dec (hbad.symm.trans c0) ((Tr.All_eq t).1 hh).1).symm, H11.pm (Pm.nil _)⟩
  refine wc_region ?_
  refine wV (v_fb (o2 := 0) fa24_0 rfl rfl) ?_
  refine wV (v_load one3 rfl (H2.at (by repeat constructor) rfl)) ?_
  refine wV (v_lss rfl rfl) ?_
  refine wM ?_
  refine wl_guard rfl rfl rfl (fun g8 => ?_) (fun g8 => ?_)
  rotate_left
  ·have g8p := oT g8
   refine wF g8 ?_
   refine wF g8 ?_
   refine wV (v_pick_t rfl g8 rfl) ?_
   refine wM ?_
   refine wF rfl ?_
   refine wF rfl ?_
   refine wF rfl ?_
   refine wF rfl ?_
   refine wl_offu rfl rfl rfl ?_
   refine wl_offu rfl rfl rfl ?_
   refine wl_offu rfl rfl rfl ?_
   refine wl_offu rfl rfl rfl ?_
   refine wF rfl ?_
   refine wV (v_pick_t rfl rfl rfl) ?_
   refine wl_nil ?_
   first
     | exact ⟨_, (sc rfl (sc rfl (sn _))), ⟨dec_eq ⟨fun hd hh => of_ndec (of_n_t hd) (hh.2 (by omega)), fun hh => (by
         cases hb_ : dec (NameOk 32 t.x.name)
         · rfl
         · exact absurd ⟨⟨by omega, by omega⟩, fun _ => of_dec hb_⟩ hh)⟩, H2.pm (by repeat constructor)⟩⟩
     | exact ⟨_, (sc rfl (sc rfl (sn _))), ⟨(dec_f fun hh => hh ⟨⟨by omega, by omega⟩, fun h_ => absurd h_ g17p⟩).symm, H2.pm (by repeat constructor)⟩⟩
     | exact ⟨_, (sc rfl (sc rfl (sn _))), ⟨(dec_t fun hh => by have h_ := hh.1; omega).symm, H2.pm (by repeat constructor)⟩⟩
  have g8p := oF g8
  refine wV (v_fb (o2 := 0) fa24_0 rfl rfl) ?_
  refine wO g8 ?_
  refine wV (v_load one3 rfl (H2.at (by repeat constructor) rfl)) ?_
  refine wO g8 ?_
  refine wV (v_gtr rfl rfl) ?_
  refine wV (v_pick_f rfl g8 rfl) ?_
  refine wM ?_
  refine wl_guard rfl rfl rfl (fun g13 => ?_) (fun g13 => ?_)
  rotate_left
  ·have g13p := oT g13
   refine wF g13 ?_
   refine wF g13 ?_
   refine wF g13 ?_
   refine wl_offu rfl rfl rfl ?_
   refine wl_offu rfl rfl rfl ?_
   refine wl_offu rfl rfl rfl ?_
   refine wl_offu rfl rfl rfl ?_
   refine wF g13 ?_
   refine wV (v_pick_t rfl g13 rfl) ?_
   refine wl_nil ?_
   first
     | exact ⟨_, (sc rfl (sc rfl (sn _))), ⟨dec_eq ⟨fun hd hh => of_ndec (of_n_t hd) (hh.2 (by omega)), fun hh => (by
         cases hb_ : dec (NameOk 32 t.x.name)
         · rfl
         · exact absurd ⟨⟨by omega, by omega⟩, fun _ => of_dec hb_⟩ hh)⟩, H2.pm (by repeat constructor)⟩⟩
     | exact ⟨_, (sc rfl (sc rfl (sn _))), ⟨(dec_f fun hh => hh ⟨⟨by omega, by omega⟩, fun h_ => absurd h_ g17p⟩).symm, H2.pm (by repeat constructor)⟩⟩
     | exact ⟨_, (sc rfl (sc rfl (sn _))), ⟨(dec_t fun hh => by have h_ := hh.1; omega).symm, H2.pm (by repeat constructor)⟩⟩
  have g13p := oF g13
  refine wV (v_fb (o2 := 0) fa24_0 rfl rfl) ?_
  refine wO g13 ?_
  refine wV (v_load one3 rfl (H2.at (by repeat constructor) rfl)) ?_
  refine wO g13 ?_
  refine wV (v_eql rfl rfl) ?_
  refine wO g13 ?_
  refine wM ?_
  refine wl_guard rfl rfl rfl (fun g17 => ?_) (fun g17 => ?_)
  rotate_left
  ·have g17p := oF g17
   refine wF g17 ?_
   refine wF g17 ?_
   refine wF g17 ?_
   refine wO g13 ?_
   refine wV (v_pick_f rfl g17 rfl) ?_
   refine wV (v_pick_f rfl g13 rfl) ?_
   refine wl_nil ?_
   first
     | exact ⟨_, (sc rfl (sc rfl (sn _))), ⟨dec_eq ⟨fun hd hh => of_ndec (of_n_t hd) (hh.2 (by omega)), fun hh => (by
         cases hb_ : dec (NameOk 32 t.x.name)
         · rfl
         · exact absurd ⟨⟨by omega, by omega⟩, fun _ => of_dec hb_⟩ hh)⟩, H2.pm (by repeat constructor)⟩⟩
     | exact ⟨_, (sc rfl (sc rfl (sn _))), ⟨(dec_f fun hh => hh ⟨⟨by omega, by omega⟩, fun h_ => absurd h_ g17p⟩).symm, H2.pm (by repeat constructor)⟩⟩
     | exact ⟨_, (sc rfl (sc rfl (sn _))), ⟨(dec_t fun hh => by have h_ := hh.1; omega).symm, H2.pm (by repeat constructor)⟩⟩
  have g17p := oT g17
  refine wV (v_fb (o2 := 1) fa24_1 rfl rfl) ?_
  refine wO g17 ?_
  refine wV (v_load one9 rfl (H2.at (by repeat constructor) rfl)) ?_
  refine wO g17 ?_
  refine wl_call en55 rfl rfl (word_calls hsz) ?_
  rintro _ w3 ⟨rfl, Hc⟩
  have H4 := H2.call0 Hc
  refine wO g17 ?_
  refine wV (v_not rfl) ?_
  refine wO g13 ?_
  refine wV (v_pick_t rfl g17 rfl) ?_
  refine wV (v_pick_f rfl g13 rfl) ?_
  refine wl_nil ?_
  first
    | exact ⟨_, (sc rfl (sc rfl (sn _))), ⟨dec_eq ⟨fun hd hh => of_ndec (of_n_t hd) (hh.2 (by omega)), fun hh => (by
        cases hb_ : dec (NameOk 32 t.x.name)
        · rfl
        · exact absurd ⟨⟨by omega, by omega⟩, fun _ => of_dec hb_⟩ hh)⟩, H4.pm (by repeat constructor)⟩⟩
    | exact ⟨_, (sc rfl (sc rfl (sn _))), ⟨(dec_f fun hh => hh ⟨⟨by omega, by omega⟩, fun h_ => absurd h_ g17p⟩).symm, H4.pm (by repeat constructor)⟩⟩
    | exact ⟨_, (sc rfl (sc rfl (sn _))), ⟨(dec_t fun hh => by have h_ := hh.1; omega).symm, H4.pm (by repeat constructor)⟩⟩

theorem named_calls : ∀ t : Nd, NamedOk t := Tr.ind fun x kids ih => fun w B k hr hf => named_step (t := .mk x kids) hr hf ih

def LongOk (src : ByteArray) (toks : List Tk) (t : Nd) : Prop := ∀ (w : World) (A B : Option Addr) (k kt : Nat) (hT : Rd fTk.kn w A toks) (hr : Rd (kTr fNd) w B t.kids) (hf : t.All smallN) (hrow : t.All (rowP src toks)), Calls Try.prog 30 #[.agg #[.int .i64 t.x.kind, .string t.x.name, .int .i64 t.x.tok, .slice B t.kids.length k], .slice A toks.length kt] w fun e w' => ∃ v, e = .returned v ∧ v = .bool (dec (¬ t.All (lonP toks))) ∧ Holds w [] w'

set_option maxHeartbeats 3200000 in
set_option maxRecDepth 100000 in
theorem long_step {src : ByteArray} {toks : List Tk} {t : Nd} {w : World} {A B : Option Addr} {k kt : Nat} (hss : src.size ≤ 1099511627776) (htl : toks.length ≤ 1099511627776) (hT : Rd fTk.kn w A toks) (hr : Rd (kTr fNd) w B t.kids) (hf : t.All smallN) (hrow : t.All (rowP src toks)) (ih : ∀ t' ∈ t.kids, LongOk src toks t') : Calls Try.prog 30 #[.agg #[.int .i64 t.x.kind, .string t.x.name, .int .i64 t.x.tok, .slice B t.kids.length k], .slice A toks.length kt] w fun e w' => ∃ v, e = .returned v ∧ v = .bool (dec (¬ t.All (lonP toks))) ∧ Holds w [] w' := by
  obtain ⟨⟨hsz, hkk⟩, hks⟩ := (Tr.All_eq t).1 hf
  obtain ⟨hrw0, hrws⟩ := (Tr.All_eq t).1 hrow
  refine calls_of Try.func30 rfl Try.ntmps30 rfl ?_
  have H := Holds.start w
  refine wcR ?_
  refine wl_box (cs := [_, _, _, _]) H rfl rfl rfl ?_
  intro b2 w1 hb2 H2
  refine wA ?_
  refine wl_nil ?_
  refine wc_seq ?_
  refine wc_cut (σ := Bool) (fun q => [(1, .slice A toks.length kt), (2, .pointer (some ⟨b2, 0, none⟩)), (36, .bool q)]) (fun q W => q = dec (¬ lonP toks t.x t.kids.length) ∧ Holds w [Blk b2 24 [.int .i64 t.x.kind, .string t.x.name, .int .i64 t.x.tok, .slice B t.kids.length k]] W) ?_ ?_
  rotate_left
  ·rintro bad Wm ⟨hbad, H⟩
   refine wc_cond rfl (fun c0 => ?_) (fun c0 => ?_)
   ·refine wcR ?_
    refine wA ?_
    refine wl_nil ?_
    refine wc_ret ?_
    first
      | exact ⟨_, res1 rfl rfl, congrArg Value.bool (dec_f fun hh => hh ((Tr.All_eq t).2 ⟨hp0, (Tr.Alls_iff' nd0 _).2 fun j hj => ha j (by omega)⟩)).symm, H.pm (Pm.nil _)⟩
      | exact ⟨_, res1 rfl rfl, congrArg Value.bool (dec_t fun hh => of_dec c2 (Tr.Alls_at nd0 hin ((Tr.All_eq t).1 hh).2)).symm, H.pm (Pm.nil _)⟩
      | exact ⟨_, res1 rfl rfl, congrArg Value.bool (dec_t fun hh => of_dec (hbad.symm.trans c0) ((Tr.All_eq t).1 hh).1).symm, H.pm (Pm.nil _)⟩
   have hp0 : lonP toks t.x t.kids.length := Classical.byContradiction fun h_ => of_ndec (hbad.symm.trans c0) h_
   refine wc_skip ?_
   refine wc_seq ?_
   refine wcR ?_
   refine wV (v_fb (o2 := 3) fa24_3 rfl rfl) ?_
   refine wV (v_load one22 rfl (H.at (by repeat constructor) rfl)) ?_
   refine wV (v_len Try.underlying22 rfl) ?_
   refine wM ?_
   refine wl_nil ?_
   refine wc_block ?_
   refine wc_loop (σ := Nat) (fun s => [(1, .slice A toks.length kt), (38, .slice B t.kids.length k), (39, .int .i64 t.kids.length), (40, .int .i64 s)]) (fun s W => (s ≤ t.kids.length ∧ (∀ j, j < s → (t.kids.getD j nd0).All (lonP toks))) ∧ Holds w [Blk b2 24 [.int .i64 t.x.kind, .string t.x.name, .int .i64 t.x.tok, .slice B t.kids.length k]] W) (fun s => t.kids.length - s) 0 (sc rfl (sc rfl (sc rfl (sc rfl (sn _))))) ⟨⟨Nat.zero_le _, upto_zero⟩, H⟩ ?_
   rintro i W0 ⟨⟨hi, ha⟩, H⟩
   refine wcR ?_
   refine wV (v_lss rfl rfl) ?_
   refine wl_nil ?_
   refine wc_seq ?_
   refine wc_cond rfl (fun c1 => ?_) (fun c1 => ?_)
   rotate_left
   ·have c1p := oF c1
    refine wc_exit ?_
    refine wcR ?_
    refine wA ?_
    refine wl_nil ?_
    refine wc_ret ?_
    first
      | exact ⟨_, res1 rfl rfl, congrArg Value.bool (dec_f fun hh => hh ((Tr.All_eq t).2 ⟨hp0, (Tr.Alls_iff' nd0 _).2 fun j hj => ha j (by omega)⟩)).symm, H.pm (Pm.nil _)⟩
      | exact ⟨_, res1 rfl rfl, congrArg Value.bool (dec_t fun hh => of_dec c2 (Tr.Alls_at nd0 hin ((Tr.All_eq t).1 hh).2)).symm, H.pm (Pm.nil _)⟩
      | exact ⟨_, res1 rfl rfl, congrArg Value.bool (dec_t fun hh => of_dec (hbad.symm.trans c0) ((Tr.All_eq t).1 hh).1).symm, H.pm (Pm.nil _)⟩
   have c1p := oT c1
   have hin : i < t.kids.length := by omega
   refine wc_skip ?_
   refine wc_seq ?_
   refine wc_block ?_
   refine wcR ?_
   refine wV (v_idx Try.underlying22 sz24 hr.ad rfl rfl (by omega) (by omega)) ?_
   obtain ⟨B43_, k43_, hc43_, hl43_, hr43_⟩ := hr.atTr nd0 (i := i) (by omega)
   refine wV (v_loadN (cs := [.int .i64 (t.kids.getD i nd0).x.kind, .string (t.kids.getD i nd0).x.name, .int .i64 (t.kids.getD i nd0).x.tok, .slice B43_ (t.kids.getD i nd0).kids.length k43_]) agg24 rfl rfl (fun q_ u_ hu_ => H.cell (hc43_ q_ u_ hu_))) ?_
   refine wl_alloc (cs := [.int .i64 0, .string ⟨#[]⟩, .int .i64 0, .slice none 0 0]) H rfl zv24 rfl ?_
   intro b6 w4 hb6 H5
   refine wl_store (vs := [_, _, _, _]) H5 (by repeat constructor) sz24 rfl rfl rfl rfl rfl (by (repeat constructor)) ?_
   intro w6 H7 hw6
   refine wl_nil ?_
   refine wcR ?_
   refine wV (v_loadN agg24 rfl rfl (H7.ats (by repeat constructor))) ?_
   refine wM ?_
   refine wl_call en30 rfl rfl (ih _ (getD_mem (z := nd0) hin) _ A _ _ kt (hT.below H7.old) (hr43_.below H7.old) (Tr.Alls_at nd0 hin hks) (Tr.Alls_at nd0 hin hrws)) ?_
   rintro _ w8 ⟨rfl, Hc⟩
   have H9 := H7.call0 Hc
   refine wl_nil ?_
   refine wc_cond rfl (fun c2 => ?_) (fun c2 => ?_)
   rotate_left
   ·refine wc_skip ?_
    refine wc_region ?_
    refine wV (v_addi rfl rfl (by omega)) ?_
    refine wM ?_
    refine wl_nil ?_
    exact ⟨i + 1, (sc rfl (sc rfl (sc rfl (sc rfl (sn _))))), ⟨⟨by omega, upto_succ ha (Classical.byContradiction (of_ndec c2))⟩, H9.pm (by repeat constructor)⟩, by omega⟩
   refine wcR ?_
   refine wA ?_
   refine wl_nil ?_
   refine wc_ret ?_
   first
     | exact ⟨_, res1 rfl rfl, congrArg Value.bool (dec_f fun hh => hh ((Tr.All_eq t).2 ⟨hp0, (Tr.Alls_iff' nd0 _).2 fun j hj => ha j (by omega)⟩)).symm, H9.pm (Pm.nil _)⟩
     | exact ⟨_, res1 rfl rfl, congrArg Value.bool (dec_t fun hh => of_dec c2 (Tr.Alls_at nd0 hin ((Tr.All_eq t).1 hh).2)).symm, H9.pm (Pm.nil _)⟩
     | exact ⟨_, res1 rfl rfl, congrArg Value.bool (dec_t fun hh => of_dec (hbad.symm.trans c0) ((Tr.All_eq t).1 hh).1).symm, H9.pm (Pm.nil _)⟩
  refine wc_still mixed (by kernel_rfl) ?_
  have Hd := H2.drew
  refine ws_v rfl rfl rfl (v_fb (o2 := 0) fa24_0 rfl rfl) ?_
  refine ws_v rfl rfl rfl (v_load one3 rfl (Hd.at (by repeat constructor) rfl)) ?_
  refine ws_v rfl rfl rfl (v_eql rfl rfl) ?_
  refine ws_v rfl rfl rfl (v_move rfl) ?_
  refine ws_guard rfl rfl rfl (fun g10 => ?_) (fun g10 => ?_)
  rotate_left
  ·have g10p := oF g10
   refine ws_off rfl rfl g10 rfl ?_
   refine ws_off rfl rfl g10 rfl ?_
   refine ws_off rfl rfl g10 rfl ?_
   refine ws_off rfl rfl g10 rfl ?_
   refine ws_off rfl rfl g10 rfl ?_
   refine ws_off rfl rfl g10 rfl ?_
   refine ws_off rfl rfl g10 rfl ?_
   refine ws_off rfl rfl g10 rfl ?_
   refine ws_off rfl rfl g10 rfl ?_
   refine ws_off rfl rfl g10 rfl ?_
   refine ws_off rfl rfl g10 rfl ?_
   refine ws_off rfl rfl g10 rfl ?_
   refine ws_off rfl rfl g10 rfl ?_
   refine ws_v rfl rfl rfl (v_pick_f rfl g10 rfl) ?_
   refine ws_v rfl rfl rfl (v_move rfl) ?_
   refine ws_on' rfl rfl rfl ?_
   refine ws_v rfl rfl rfl (v_fb (o2 := 0) fa24_0 rfl rfl) ?_
   refine ws_on' rfl rfl rfl ?_
   refine ws_v rfl rfl rfl (v_load one3 rfl (Hd.at (by repeat constructor) rfl)) ?_
   refine ws_on' rfl rfl rfl ?_
   refine ws_v rfl rfl rfl (v_eql rfl rfl) ?_
   refine ws_on' rfl rfl rfl ?_
   refine ws_v rfl rfl rfl (v_move rfl) ?_
   refine ws_guard rfl rfl rfl (fun g30 => ?_) (fun g30 => ?_)
   rotate_left
   ·have g30p := oF g30
    refine ws_off rfl rfl g30 rfl ?_
    refine ws_off rfl rfl g30 rfl ?_
    refine ws_off rfl rfl g30 rfl ?_
    refine ws_on' rfl rfl rfl ?_
    refine ws_v rfl rfl rfl (v_pick_f rfl g30 rfl) ?_
    refine ws_v rfl rfl rfl (v_pick_f rfl rfl rfl) ?_
    refine ws_nil ?_
    first
      | exact ⟨_, (sc rfl (sc rfl (sc rfl (sn _)))), ⟨dec_eq ⟨fun hd hh => (by have h_ := oT hd; have h2_ := hh.2 g30p; omega), fun hh => decide_eq_true (Classical.byContradiction fun h_ => hh ⟨fun h2_ => by omega, fun _ => by omega⟩)⟩, Hd.pm (by repeat constructor)⟩⟩
      | exact ⟨_, (sc rfl (sc rfl (sc rfl (sn _)))), ⟨(dec_f fun hh => hh ⟨fun h_ => by omega, fun h_ => by omega⟩).symm, Hd.pm (by repeat constructor)⟩⟩
      | exact ⟨_, (sc rfl (sc rfl (sc rfl (sn _)))), ⟨(dec_t fun hh => by have h_ := hh.1 g10p; omega).symm, Hd.pm (by repeat constructor)⟩⟩
   have g30p := oT g30
   refine ws_v rfl rfl rfl (v_fb (o2 := 1) fa24_1 rfl rfl) ?_
   refine ws_on' rfl rfl g30 ?_
   refine ws_v rfl rfl rfl (v_load one9 rfl (Hd.at (by repeat constructor) rfl)) ?_
   refine ws_on' rfl rfl g30 ?_
   refine ws_v rfl rfl rfl (v_lens Try.underlying9 rfl) ?_
   refine ws_on' rfl rfl g30 ?_
   refine ws_v rfl rfl rfl (v_gtr rfl rfl) ?_
   refine ws_on' rfl rfl rfl ?_
   refine ws_v rfl rfl rfl (v_pick_t rfl g30 rfl) ?_
   refine ws_v rfl rfl rfl (v_pick_f rfl rfl rfl) ?_
   refine ws_nil ?_
   first
     | exact ⟨_, (sc rfl (sc rfl (sc rfl (sn _)))), ⟨dec_eq ⟨fun hd hh => (by have h_ := oT hd; have h2_ := hh.2 g30p; omega), fun hh => decide_eq_true (Classical.byContradiction fun h_ => hh ⟨fun h2_ => by omega, fun _ => by omega⟩)⟩, Hd.pm (by repeat constructor)⟩⟩
     | exact ⟨_, (sc rfl (sc rfl (sc rfl (sn _)))), ⟨(dec_f fun hh => hh ⟨fun h_ => by omega, fun h_ => by omega⟩).symm, Hd.pm (by repeat constructor)⟩⟩
     | exact ⟨_, (sc rfl (sc rfl (sc rfl (sn _)))), ⟨(dec_t fun hh => by have h_ := hh.1 g10p; omega).symm, Hd.pm (by repeat constructor)⟩⟩
  have g10p := oT g10
  have hrw1 := hrw0 g10p
  refine ws_v rfl rfl rfl (v_move rfl) ?_
  refine ws_on' rfl rfl g10 ?_
  refine ws_v rfl rfl rfl (v_fb (o2 := 2) fa24_2 rfl rfl) ?_
  refine ws_on' rfl rfl g10 ?_
  refine ws_v rfl rfl rfl (v_load one3 rfl (Hd.at (by repeat constructor) rfl)) ?_
  refine ws_on' rfl rfl g10 ?_
  refine ws_v rfl rfl rfl (v_idx Try.underlying25 sz85 hT.ad rfl rfl (by omega) (by omega)) ?_
  refine ws_on' rfl rfl g10 ?_
  refine ws_v rfl rfl rfl (v_fp fa85_2 rfl) ?_
  refine ws_on' rfl rfl g10 ?_
  refine ws_v rfl rfl rfl (v_load one3 rfl (Hd.cell (hT.at (k := 2) tk0 (by omega) (by omega) rfl))) ?_
  refine ws_on' rfl rfl g10 ?_
  refine ws_v rfl rfl rfl (v_move rfl) ?_
  refine ws_on' rfl rfl g10 ?_
  refine ws_v rfl rfl rfl (v_fb (o2 := 2) fa24_2 rfl rfl) ?_
  refine ws_on' rfl rfl g10 ?_
  refine ws_v rfl rfl rfl (v_load one3 rfl (Hd.at (by repeat constructor) rfl)) ?_
  refine ws_on' rfl rfl g10 ?_
  refine ws_v rfl rfl rfl (v_idx Try.underlying25 sz85 hT.ad rfl rfl (by omega) (by omega)) ?_
  refine ws_on' rfl rfl g10 ?_
  refine ws_v rfl rfl rfl (v_fp fa85_1 rfl) ?_
  refine ws_on' rfl rfl g10 ?_
  refine ws_v rfl rfl rfl (v_load one3 rfl (Hd.cell (hT.at (k := 1) tk0 (by omega) (by omega) rfl))) ?_
  refine ws_on' rfl rfl g10 ?_
  refine ws_v rfl rfl rfl (v_subi rfl rfl (by omega)) ?_
  refine ws_on' rfl rfl g10 ?_
  refine ws_v rfl rfl rfl (v_gtr rfl rfl) ?_
  refine ws_v rfl rfl rfl (v_pick_t rfl g10 rfl) ?_
  refine ws_v rfl rfl rfl (v_move rfl) ?_
  refine ws_guard rfl rfl rfl (fun g26 => ?_) (fun g26 => ?_)
  rotate_left
  ·have g26p := oT g26
   refine ws_off rfl rfl g26 rfl ?_
   refine ws_off rfl rfl g26 rfl ?_
   refine ws_off rfl rfl g26 rfl ?_
   refine ws_offu rfl rfl rfl ?_
   refine ws_offu rfl rfl rfl ?_
   refine ws_offu rfl rfl rfl ?_
   refine ws_offu rfl rfl rfl ?_
   refine ws_off rfl rfl g26 rfl ?_
   refine ws_v rfl rfl rfl (v_pick_t rfl g26 rfl) ?_
   refine ws_nil ?_
   first
     | exact ⟨_, (sc rfl (sc rfl (sc rfl (sn _)))), ⟨dec_eq ⟨fun hd hh => (by have h_ := oT hd; have h2_ := hh.2 g30p; omega), fun hh => decide_eq_true (Classical.byContradiction fun h_ => hh ⟨fun h2_ => by omega, fun _ => by omega⟩)⟩, Hd.pm (by repeat constructor)⟩⟩
     | exact ⟨_, (sc rfl (sc rfl (sc rfl (sn _)))), ⟨(dec_f fun hh => hh ⟨fun h_ => by omega, fun h_ => by omega⟩).symm, Hd.pm (by repeat constructor)⟩⟩
     | exact ⟨_, (sc rfl (sc rfl (sc rfl (sn _)))), ⟨(dec_t fun hh => by have h_ := hh.1 g10p; omega).symm, Hd.pm (by repeat constructor)⟩⟩
  have g26p := oF g26
  refine ws_v rfl rfl rfl (v_fb (o2 := 0) fa24_0 rfl rfl) ?_
  refine ws_on' rfl rfl g26 ?_
  refine ws_v rfl rfl rfl (v_load one3 rfl (Hd.at (by repeat constructor) rfl)) ?_
  refine ws_on' rfl rfl g26 ?_
  refine ws_v rfl rfl rfl (v_eql rfl rfl) ?_
  refine ws_on' rfl rfl g26 ?_
  refine ws_v rfl rfl rfl (v_move rfl) ?_
  refine ws_guard rfl rfl rfl (fun g30 => ?_) (fun g30 => ?_)
  rotate_left
  ·have g30p := oF g30
   refine ws_off rfl rfl g30 rfl ?_
   refine ws_off rfl rfl g30 rfl ?_
   refine ws_off rfl rfl g30 rfl ?_
   refine ws_on' rfl rfl g26 ?_
   refine ws_v rfl rfl rfl (v_pick_f rfl g30 rfl) ?_
   refine ws_v rfl rfl rfl (v_pick_f rfl g26 rfl) ?_
   refine ws_nil ?_
   first
     | exact ⟨_, (sc rfl (sc rfl (sc rfl (sn _)))), ⟨dec_eq ⟨fun hd hh => (by have h_ := oT hd; have h2_ := hh.2 g30p; omega), fun hh => decide_eq_true (Classical.byContradiction fun h_ => hh ⟨fun h2_ => by omega, fun _ => by omega⟩)⟩, Hd.pm (by repeat constructor)⟩⟩
     | exact ⟨_, (sc rfl (sc rfl (sc rfl (sn _)))), ⟨(dec_f fun hh => hh ⟨fun h_ => by omega, fun h_ => by omega⟩).symm, Hd.pm (by repeat constructor)⟩⟩
     | exact ⟨_, (sc rfl (sc rfl (sc rfl (sn _)))), ⟨(dec_t fun hh => by have h_ := hh.1 g10p; omega).symm, Hd.pm (by repeat constructor)⟩⟩
  have g30p := oT g30
  refine ws_v rfl rfl rfl (v_fb (o2 := 1) fa24_1 rfl rfl) ?_
  refine ws_on' rfl rfl g30 ?_
  refine ws_v rfl rfl rfl (v_load one9 rfl (Hd.at (by repeat constructor) rfl)) ?_
  refine ws_on' rfl rfl g30 ?_
  refine ws_v rfl rfl rfl (v_lens Try.underlying9 rfl) ?_
  refine ws_on' rfl rfl g30 ?_
  refine ws_v rfl rfl rfl (v_gtr rfl rfl) ?_
  refine ws_on' rfl rfl g26 ?_
  refine ws_v rfl rfl rfl (v_pick_t rfl g30 rfl) ?_
  refine ws_v rfl rfl rfl (v_pick_f rfl g26 rfl) ?_
  refine ws_nil ?_
  first
    | exact ⟨_, (sc rfl (sc rfl (sc rfl (sn _)))), ⟨dec_eq ⟨fun hd hh => (by have h_ := oT hd; have h2_ := hh.2 g30p; omega), fun hh => decide_eq_true (Classical.byContradiction fun h_ => hh ⟨fun h2_ => by omega, fun _ => by omega⟩)⟩, Hd.pm (by repeat constructor)⟩⟩
    | exact ⟨_, (sc rfl (sc rfl (sc rfl (sn _)))), ⟨(dec_f fun hh => hh ⟨fun h_ => by omega, fun h_ => by omega⟩).symm, Hd.pm (by repeat constructor)⟩⟩
    | exact ⟨_, (sc rfl (sc rfl (sc rfl (sn _)))), ⟨(dec_t fun hh => by have h_ := hh.1 g10p; omega).symm, Hd.pm (by repeat constructor)⟩⟩

theorem long_calls {src : ByteArray} {toks : List Tk} (hss : src.size ≤ 1099511627776) (htl : toks.length ≤ 1099511627776) : ∀ t : Nd, LongOk src toks t := Tr.ind fun x kids ih => fun w A B k kt hT hr hf hrow => long_step (t := .mk x kids) hss htl hT hr hf hrow ih
end Go.Proofs.Ytgdemplcpcacaaa.TextW

/-! A node's text, written: the program's answer. -/
namespace Go.Proofs.Ytgdemplcpcacaaa.WriteW
open Go Go.RowKit Go.Proofs.YtgdemplcpcacaaaFx Go.Proofs.Ytgdemplcpcacaaa.BldW Go.Proofs.Ytgdemplcpcacaaa.QuoteW Go.Proofs.Ytgdemplcpcacaaa.NameW Go.Proofs.Ytgdemplcpcacaaa.TextW
theorem agg24 : Agg Try.prog 24 4 := agg_of Try.underlying24 (by kernel_rfl)
theorem en28 : Enters Try.prog 28 := enters Try.func28 (by kernel_rfl) rfl
theorem en29 : Enters Try.prog 29 := enters Try.func29 (by kernel_rfl) rfl
theorem en30 : Enters Try.prog 30 := enters Try.func30 (by kernel_rfl) rfl
theorem en31 : Enters Try.prog 31 := enters Try.func31 (by kernel_rfl) rfl
theorem en32 : Enters Try.prog 32 := enters Try.func32 (by kernel_rfl) rfl
theorem en56 : Enters Try.prog 56 := enters Try.func56 (by kernel_rfl) rfl
theorem en57 : Enters Try.prog 57 := enters Try.func57 (by kernel_rfl) rfl
theorem en58 : Enters Try.prog 58 := enters Try.func58 (by kernel_rfl) rfl
theorem fa24_0 : FieldAt Try.prog 24 0 0 := field_at (sz := 0) Try.underlying24 rfl (by kernel_rfl) rfl
theorem fa24_1 : FieldAt Try.prog 24 1 1 := field_at (sz := 0) Try.underlying24 rfl (by kernel_rfl) rfl
theorem fa24_2 : FieldAt Try.prog 24 2 2 := field_at (sz := 0) Try.underlying24 rfl (by kernel_rfl) rfl
theorem fa24_3 : FieldAt Try.prog 24 3 3 := field_at (sz := 0) Try.underlying24 rfl (by kernel_rfl) rfl
theorem fa85_1 : FieldAt Try.prog 85 1 1 := field_at (sz := 0) Try.underlying85 rfl (by kernel_rfl) rfl
theorem fa85_2 : FieldAt Try.prog 85 2 2 := field_at (sz := 0) Try.underlying85 rfl (by kernel_rfl) rfl
theorem mixed : Try.prog.follows .mixedOrders = true := by kernel_rfl
theorem one22 : One Try.prog 22 := one_of Try.underlying22 rfl (by kernel_rfl)
theorem one3 : One Try.prog 3 := one_of Try.underlying3 rfl (by kernel_rfl)
theorem one9 : One Try.prog 9 := one_of Try.underlying9 rfl (by kernel_rfl)
theorem sz24 : ∀ W, (sizeOf 24).run Try.prog W = .ok 4 W := size_of (by kernel_rfl)
theorem sz85 : ∀ W, (sizeOf 85).run Try.prog W = .ok 3 W := size_of (by kernel_rfl)
theorem zv24 : ∀ W, (zeroValue 24).run Try.prog W = .ok (.agg #[.int .i64 0, .string ⟨#[]⟩, .int .i64 0, .slice none 0 0]) W := zero_of (by kernel_rfl)
theorem zv90 : ∀ W, (zeroValue 90).run Try.prog W = .ok (.agg #[.pointer none, .slice none 0 0]) W := zero_of (by kernel_rfl)

theorem sepN_len (i : Nat) : 1 ≤ (sepN i).length ∧ (sepN i).length ≤ 2 := by
  unfold sepN
  split
  · exact ⟨by decide, by decide⟩
  · exact ⟨by decide, by decide⟩
def WriteOk (src : ByteArray) (toks : List Tk) (t : Nd) : Prop := ∀ (w0 w : World) (L : List Ch) (b : Nat) (l : List UInt8) (A B : Option Addr) (k kt : Nat) (hT : Rd fTk.kn w0 A toks) (hr : Rd (kTr fNd) w0 B t.kids) (hf : t.All smallN) (hrow : t.All (rowP src toks)) (hnam : t.All namP) (hlon : t.All (lonP toks)) (hl : l.length + (shw src toks t).length ≤ 1099511627776) (HH : Holds w0 (SB 90 5 b l :: L) w), Calls Try.prog 31 #[.pointer (some ⟨b, 0, none⟩), .agg #[.int .i64 t.x.kind, .string t.x.name, .int .i64 t.x.tok, .slice B t.kids.length k], .string src, .slice A toks.length kt] w fun e w' => ∃ v, e = .returned v ∧ v = .bool true ∧ Holds w0 (SB 90 5 b (l ++ shw src toks t) :: L) w'

set_option maxHeartbeats 6400000 in
set_option maxRecDepth 100000 in
theorem write_step {src : ByteArray} {toks : List Tk} {t : Nd} {w0 w : World} {L : List Ch} {b : Nat} {l : List UInt8} {A B : Option Addr} {k kt : Nat} (hss : src.size ≤ 1099511627776) (htl : toks.length ≤ 1099511627776) (hT : Rd fTk.kn w0 A toks) (hr : Rd (kTr fNd) w0 B t.kids) (hf : t.All smallN) (hrow : t.All (rowP src toks)) (hnam : t.All namP) (hlon : t.All (lonP toks)) (hl : l.length + (shw src toks t).length ≤ 1099511627776) (HH : Holds w0 (SB 90 5 b l :: L) w) (ih : ∀ t' ∈ t.kids, WriteOk src toks t') : Calls Try.prog 31 #[.pointer (some ⟨b, 0, none⟩), .agg #[.int .i64 t.x.kind, .string t.x.name, .int .i64 t.x.tok, .slice B t.kids.length k], .string src, .slice A toks.length kt] w fun e w' => ∃ v, e = .returned v ∧ v = .bool true ∧ Holds w0 (SB 90 5 b (l ++ shw src toks t) :: L) w' := by
  obtain ⟨⟨hsz, hkk⟩, hks⟩ := (Tr.All_eq t).1 hf
  obtain ⟨hrw0, hrws⟩ := (Tr.All_eq t).1 hrow
  obtain ⟨hnm0, hnms⟩ := (Tr.All_eq t).1 hnam
  obtain ⟨hln0, hlns⟩ := (Tr.All_eq t).1 hlon
  refine calls_of Try.func31 rfl Try.ntmps31 rfl ?_
  have H := HH
  refine wcR ?_
  refine wl_box (cs := [_, _, _, _]) H rfl rfl rfl ?_
  intro b5 w1 hb5 H2
  refine wA ?_
  refine wl_nil ?_
  refine wcR ?_
  refine wA ?_
  refine wl_nil ?_
  refine wc_cut (σ := ByteArray) (fun q => [(0, .pointer (some ⟨b, 0, none⟩)), (9, .string q)]) (fun q W => (shw src toks t = (qv q).data.toList ∧ q.size ≤ 4096) ∧ Holds w0 (SB 90 5 b l :: L) W) ?_ ?_
  rotate_left
  ·rintro v Wm ⟨⟨hv1, hv2⟩, H⟩
   have hvl := congrArg List.length hv1
   refine wcR ?_
   refine wM ?_
   refine wl_call en58 rfl rfl (quote_calls (by omega)) ?_
   rintro _ w15 ⟨rfl, Hc⟩
   have H16 := H.call0 Hc
   refine wM ?_
   refine wV (v_extract rfl rfl) ?_
   refine wV (v_extract rfl rfl) ?_
   refine wA ?_
   refine wA ?_
   refine wl_nil ?_
   refine wcR ?_
   refine wM ?_
   refine wM ?_
   refine wl_call en57 rfl rfl (ws_calls (b := b) (l := l) (by (try simp only [List.length_append, List.length_cons, List.length_nil]); (try simp only [List.length_append, List.length_cons, List.length_nil] at *); omega) ⟨qv_pos hv2, Nat.le_trans (qv_len v) (by decide)⟩ (H16.turn (A := SB 90 5 b l) (by repeat constructor))) ?_
   rintro _ w17 Hc
   refine wl_nil ?_
   refine wcR ?_
   refine wM ?_
   refine wV (v_eql rfl rfl) ?_
   refine wA ?_
   refine wl_nil ?_
   refine wc_ret ?_
   first
     | (have q_ := c0p
        exact ⟨_, res1 rfl rfl, rfl, by rw [shw0 c0p]; exact Hc.pm (by repeat (first | exact pm_refl _ | constructor | refine pm_skip ?_))⟩)
     | (have q_ := c7p
        exact ⟨_, res1 rfl rfl, rfl, by rw [shw3 c3p, if_neg (show ¬ t.kids.length = 0 by omega)]; (try simp only [← List.append_assoc]); (try simp only [← List.append_assoc] at Hc); exact Hc.pm (by repeat (first | exact pm_refl _ | constructor | refine pm_skip ?_))⟩)
     | (have q_ := c3p
        exact ⟨_, res1 rfl rfl, rfl, by rw [shw3 c3p, if_pos (show t.kids.length = 0 by omega), List.append_nil]; (try simp only [← List.append_assoc]); (try simp only [← List.append_assoc] at Hc); exact Hc.pm (by repeat (first | exact pm_refl _ | constructor | refine pm_skip ?_))⟩)
     | exact ⟨_, res1 rfl rfl, congrArg Value.bool (decide_eq_true (by rw [qe, if_pos hv2])), by rw [hv1]; exact Hc.pm (by repeat (first | exact pm_refl _ | constructor | refine pm_skip ?_))⟩
  refine wcR ?_
  refine wV (v_fb (o2 := 0) fa24_0 rfl rfl) ?_
  refine wV (v_load one3 rfl (H2.at (by repeat constructor) rfl)) ?_
  refine wl_nil ?_
  refine wc_block ?_
  refine wcR ?_
  refine wV (v_eql rfl rfl) ?_
  refine wA ?_
  refine wl_nil ?_
  refine wc_cond rfl (fun c0 => ?_) (fun c0 => ?_)
  ·have c0p := oT c0
   have hle0 := congrArg List.length (shw0 (src := src) (toks := toks) c0p)
   refine wcR ?_
   refine wM ?_
   refine wl_call en56 rfl rfl (wb_calls (b := b) (l := l) (c := 45) (by (try simp only [List.length_append, List.length_cons, List.length_nil]); (try simp only [List.length_append, List.length_cons, List.length_nil] at *); omega) (H2.turn (A := SB 90 5 b l) (by repeat constructor))) ?_
   rintro _ w3 Hc
   refine wl_nil ?_
   refine wcR ?_
   refine wA ?_
   refine wl_nil ?_
   refine wc_ret ?_
   first
     | (have q_ := c0p
        exact ⟨_, res1 rfl rfl, rfl, by rw [shw0 c0p]; exact Hc.pm (by repeat (first | exact pm_refl _ | constructor | refine pm_skip ?_))⟩)
     | (have q_ := c7p
        exact ⟨_, res1 rfl rfl, rfl, by rw [shw3 c3p, if_neg (show ¬ t.kids.length = 0 by omega)]; (try simp only [← List.append_assoc]); (try simp only [← List.append_assoc] at Hc); exact Hc.pm (by repeat (first | exact pm_refl _ | constructor | refine pm_skip ?_))⟩)
     | (have q_ := c3p
        exact ⟨_, res1 rfl rfl, rfl, by rw [shw3 c3p, if_pos (show t.kids.length = 0 by omega), List.append_nil]; (try simp only [← List.append_assoc]); (try simp only [← List.append_assoc] at Hc); exact Hc.pm (by repeat (first | exact pm_refl _ | constructor | refine pm_skip ?_))⟩)
     | exact ⟨_, res1 rfl rfl, congrArg Value.bool (decide_eq_true (by rw [qe, if_pos hv2])), by rw [hv1]; exact Hc.pm (by repeat (first | exact pm_refl _ | constructor | refine pm_skip ?_))⟩
  have c0p := oF c0
  refine wcR ?_
  refine wV (v_eql rfl rfl) ?_
  refine wA ?_
  refine wl_nil ?_
  refine wc_cond rfl (fun c1 => ?_) (fun c1 => ?_)
  ·have c1p := oT c1
   have hrw1 := hrw0 c1p
   have hln1 := hln0.1 c1p
   refine wc_still mixed (by kernel_rfl) ?_
   have Hd := H2.drew
   refine ws_v rfl rfl rfl (v_move rfl) ?_
   refine ws_v rfl rfl rfl (v_move rfl) ?_
   refine ws_v rfl rfl rfl (v_fb (o2 := 2) fa24_2 rfl rfl) ?_
   refine ws_v rfl rfl rfl (v_load one3 rfl (Hd.at (by repeat constructor) rfl)) ?_
   refine ws_v rfl rfl rfl (v_idx Try.underlying25 sz85 hT.ad rfl rfl (by omega) (by omega)) ?_
   refine ws_v rfl rfl rfl (v_fp fa85_1 rfl) ?_
   refine ws_v rfl rfl rfl (v_load one3 rfl (Hd.cell (hT.at (k := 1) tk0 (by omega) (by omega) rfl))) ?_
   refine ws_v rfl rfl rfl (v_move rfl) ?_
   refine ws_v rfl rfl rfl (v_fb (o2 := 2) fa24_2 rfl rfl) ?_
   refine ws_v rfl rfl rfl (v_load one3 rfl (Hd.at (by repeat constructor) rfl)) ?_
   refine ws_v rfl rfl rfl (v_idx Try.underlying25 sz85 hT.ad rfl rfl (by omega) (by omega)) ?_
   refine ws_v rfl rfl rfl (v_fp fa85_2 rfl) ?_
   refine ws_v rfl rfl rfl (v_load one3 rfl (Hd.cell (hT.at (k := 2) tk0 (by omega) (by omega) rfl))) ?_
   refine ws_v rfl rfl rfl (v_cut Try.underlying9 rfl rfl rfl (by omega) (by omega) (by omega)) ?_
   refine ws_v rfl rfl rfl (v_assign rfl) ?_
   refine ws_nil ?_
   first
     | exact ⟨tokS src toks t.x, (sc rfl (sc rfl (sn _))), ⟨⟨shw1 c1p, by unfold tokS; rw [ByteArray.size_extract]; omega⟩, Hd.pm (by repeat (first | exact pm_refl _ | constructor | refine pm_skip ?_))⟩⟩
     | exact ⟨t.x.name, (sc rfl (sc rfl (sn _))), ⟨⟨shw2 c2p, hln0.2 c2p⟩, Hd.pm (by repeat (first | exact pm_refl _ | constructor | refine pm_skip ?_))⟩⟩
     | exact absurd hnm0.1 (by omega)
  have c1p := oF c1
  refine wcR ?_
  refine wV (v_eql rfl rfl) ?_
  refine wA ?_
  refine wl_nil ?_
  refine wc_cond rfl (fun c2 => ?_) (fun c2 => ?_)
  ·have c2p := oT c2
   refine wc_region ?_
   refine wV (v_fb (o2 := 1) fa24_1 rfl rfl) ?_
   refine wV (v_load one9 rfl (H2.at (by repeat constructor) rfl)) ?_
   refine wA ?_
   refine wl_nil ?_
   first
     | exact ⟨tokS src toks t.x, (sc rfl (sc rfl (sn _))), ⟨⟨shw1 c1p, by unfold tokS; rw [ByteArray.size_extract]; omega⟩, H2.pm (by repeat (first | exact pm_refl _ | constructor | refine pm_skip ?_))⟩⟩
     | exact ⟨t.x.name, (sc rfl (sc rfl (sn _))), ⟨⟨shw2 c2p, hln0.2 c2p⟩, H2.pm (by repeat (first | exact pm_refl _ | constructor | refine pm_skip ?_))⟩⟩
     | exact absurd hnm0.1 (by omega)
  have c2p := oF c2
  refine wcR ?_
  refine wV (v_eql rfl rfl) ?_
  refine wA ?_
  refine wl_nil ?_
  refine wc_cond rfl (fun c3 => ?_) (fun c3 => ?_)
  rotate_left
  ·have c3p := oF c3
   refine wc_skip ?_
   first
     | exact ⟨tokS src toks t.x, (sc rfl (sc rfl (sn _))), ⟨⟨shw1 c1p, by unfold tokS; rw [ByteArray.size_extract]; omega⟩, H2.pm (by repeat (first | exact pm_refl _ | constructor | refine pm_skip ?_))⟩⟩
     | exact ⟨t.x.name, (sc rfl (sc rfl (sn _))), ⟨⟨shw2 c2p, hln0.2 c2p⟩, H2.pm (by repeat (first | exact pm_refl _ | constructor | refine pm_skip ?_))⟩⟩
     | exact absurd hnm0.1 (by omega)
  have c3p := oT c3
  have hle3 := congrArg List.length (shw3 (src := src) (toks := toks) c3p)
  have hnn := (hnm0.2 c3p).2.1
  have hnd : t.x.name.data.toList.length = t.x.name.size := by rw [Array.length_toList]; rfl
  refine wcR ?_
  refine wM ?_
  refine wV (v_fb (o2 := 1) fa24_1 rfl rfl) ?_
  refine wV (v_load one9 rfl (H2.at (by repeat constructor) rfl)) ?_
  refine wl_call en57 rfl rfl (ws_calls (b := b) (l := l) (by (try simp only [List.length_append, List.length_cons, List.length_nil]); (try simp only [List.length_append, List.length_cons, List.length_nil] at *); omega) (by have h_ := hnm0.2 c3p; exact ⟨h_.1, Nat.le_trans h_.2.1 (by decide)⟩) (H2.turn (A := SB 90 5 b l) (by repeat constructor))) ?_
  rintro _ w5 Hc
  refine wl_nil ?_
  refine wc_seq ?_
  refine wcR ?_
  refine wV (v_fb (o2 := 3) fa24_3 rfl rfl) ?_
  refine wV (v_load one22 rfl (Hc.at (by repeat constructor) rfl)) ?_
  refine wV (v_len Try.underlying22 rfl) ?_
  refine wM ?_
  refine wl_nil ?_
  refine wc_block ?_
  refine wc_loop (σ := Nat) (fun s => [(0, .pointer (some ⟨b, 0, none⟩)), (2, .string src), (3, .slice A toks.length kt), (5, .pointer (some ⟨b5, 0, none⟩)), (47, .slice B t.kids.length k), (48, .int .i64 t.kids.length), (49, .int .i64 s)]) (fun s W => s ≤ t.kids.length ∧ Holds w0 (SB 90 5 b (l ++ t.x.name.data.toList ++ shws src toks (t.kids.take s) true) :: Blk b5 24 [.int .i64 t.x.kind, .string t.x.name, .int .i64 t.x.tok, .slice B t.kids.length k] :: L) W) (fun s => t.kids.length - s) 0 (sc rfl (sc rfl (sc rfl (sc rfl (sc rfl (sc rfl (sc rfl (sn _)))))))) ⟨Nat.zero_le _, by rw [List.take_zero, shws_nil, List.append_nil]; exact Hc.pm (by repeat (first | exact pm_refl _ | constructor | refine pm_skip ?_))⟩ ?_
  rintro i W0 ⟨hi, H⟩
  refine wcR ?_
  refine wV (v_lss rfl rfl) ?_
  refine wl_nil ?_
  refine wc_seq ?_
  refine wc_cond rfl (fun c4 => ?_) (fun c4 => ?_)
  rotate_left
  ·have c4p := oF c4
   have hie : t.kids.take i = t.kids := List.take_of_length_le (by omega)
   rw [hie] at H
   refine wc_exit ?_
   refine wc_seq ?_
   refine wcR ?_
   refine wV (v_fb (o2 := 3) fa24_3 rfl rfl) ?_
   refine wV (v_load one22 rfl (H.at (by repeat constructor) rfl)) ?_
   refine wV (v_len Try.underlying22 rfl) ?_
   refine wV (v_gtr rfl rfl) ?_
   refine wl_nil ?_
   refine wc_cond rfl (fun c7 => ?_) (fun c7 => ?_)
   rotate_left
   ·have c7p := oF c7
    refine wc_skip ?_
    refine wcR ?_
    refine wA ?_
    refine wl_nil ?_
    refine wc_ret ?_
    first
      | (have q_ := c0p
         exact ⟨_, res1 rfl rfl, rfl, by rw [shw0 c0p]; exact H.pm (by repeat (first | exact pm_refl _ | constructor | refine pm_skip ?_))⟩)
      | (have q_ := c7p
         exact ⟨_, res1 rfl rfl, rfl, by rw [shw3 c3p, if_neg (show ¬ t.kids.length = 0 by omega)]; (try simp only [← List.append_assoc]); (try simp only [← List.append_assoc] at H); exact H.pm (by repeat (first | exact pm_refl _ | constructor | refine pm_skip ?_))⟩)
      | (have q_ := c3p
         exact ⟨_, res1 rfl rfl, rfl, by rw [shw3 c3p, if_pos (show t.kids.length = 0 by omega), List.append_nil]; (try simp only [← List.append_assoc]); (try simp only [← List.append_assoc] at H); exact H.pm (by repeat (first | exact pm_refl _ | constructor | refine pm_skip ?_))⟩)
      | exact ⟨_, res1 rfl rfl, congrArg Value.bool (decide_eq_true (by rw [qe, if_pos hv2])), by rw [hv1]; exact H.pm (by repeat (first | exact pm_refl _ | constructor | refine pm_skip ?_))⟩
   have c7p := oT c7
   rw [if_neg (show ¬ t.kids.length = 0 by omega)] at hle3
   refine wc_region ?_
   refine wM ?_
   refine wl_call en56 rfl rfl (wb_calls (b := b) (l := (l ++ t.x.name.data.toList ++ shws src toks t.kids true)) (c := 41) (by (try simp only [List.length_append, List.length_cons, List.length_nil]); (try simp only [List.length_append, List.length_cons, List.length_nil] at *); omega) (H.turn (A := SB 90 5 b (l ++ t.x.name.data.toList ++ shws src toks t.kids true)) (by repeat constructor))) ?_
   rintro _ w14 Hc
   refine wl_nil ?_
   refine wcR ?_
   refine wA ?_
   refine wl_nil ?_
   refine wc_ret ?_
   first
     | (have q_ := c0p
        exact ⟨_, res1 rfl rfl, rfl, by rw [shw0 c0p]; exact Hc.pm (by repeat (first | exact pm_refl _ | constructor | refine pm_skip ?_))⟩)
     | (have q_ := c7p
        exact ⟨_, res1 rfl rfl, rfl, by rw [shw3 c3p, if_neg (show ¬ t.kids.length = 0 by omega)]; (try simp only [← List.append_assoc]); (try simp only [← List.append_assoc] at Hc); exact Hc.pm (by repeat (first | exact pm_refl _ | constructor | refine pm_skip ?_))⟩)
     | (have q_ := c3p
        exact ⟨_, res1 rfl rfl, rfl, by rw [shw3 c3p, if_pos (show t.kids.length = 0 by omega), List.append_nil]; (try simp only [← List.append_assoc]); (try simp only [← List.append_assoc] at Hc); exact Hc.pm (by repeat (first | exact pm_refl _ | constructor | refine pm_skip ?_))⟩)
     | exact ⟨_, res1 rfl rfl, congrArg Value.bool (decide_eq_true (by rw [qe, if_pos hv2])), by rw [hv1]; exact Hc.pm (by repeat (first | exact pm_refl _ | constructor | refine pm_skip ?_))⟩
  have c4p := oT c4
  have hin : i < t.kids.length := by omega
  have hlk := shws_take (src := src) (toks := toks) t.kids (i + 1) true
  have hls := congrArg List.length (shws_succ (src := src) (toks := toks) t.kids i hin)
  have hsn := sepN_len i
  refine wc_skip ?_
  refine wc_seq ?_
  refine wc_block ?_
  refine wcR ?_
  refine wM ?_
  refine wV (v_idx Try.underlying22 sz24 hr.ad rfl rfl (by omega) (by omega)) ?_
  obtain ⟨B53_, k53_, hc53_, hl53_, hr53_⟩ := hr.atTr nd0 (i := i) (by omega)
  refine wV (v_loadN (cs := [.int .i64 (t.kids.getD i nd0).x.kind, .string (t.kids.getD i nd0).x.name, .int .i64 (t.kids.getD i nd0).x.tok, .slice B53_ (t.kids.getD i nd0).kids.length k53_]) agg24 rfl rfl (fun q_ u_ hu_ => H.cell (hc53_ q_ u_ hu_))) ?_
  refine wl_alloc (cs := [.int .i64 0, .string ⟨#[]⟩, .int .i64 0, .slice none 0 0]) H rfl zv24 rfl ?_
  intro b11 w7 hb11 H8
  refine wA ?_
  refine wl_store (vs := [_, _, _, _]) H8 (by repeat constructor) sz24 rfl rfl rfl rfl rfl (by (repeat constructor)) ?_
  intro w9 H10 hw9
  refine wl_nil ?_
  refine wc_cut (σ := Unit) (fun q => [(0, .pointer (some ⟨b, 0, none⟩)), (2, .string src), (3, .slice A toks.length kt), (5, .pointer (some ⟨b5, 0, none⟩)), (11, .pointer (some ⟨b11, 0, none⟩)), (47, .slice B t.kids.length k), (48, .int .i64 t.kids.length), (49, .int .i64 i)]) (fun q W => Holds w0 (SB 90 5 b ((l ++ t.x.name.data.toList ++ shws src toks (t.kids.take i) true) ++ sepN i) :: Blk b11 24 [.int .i64 (t.kids.getD i nd0).x.kind, .string (t.kids.getD i nd0).x.name, .int .i64 (t.kids.getD i nd0).x.tok, .slice B53_ (t.kids.getD i nd0).kids.length k53_] :: Blk b5 24 [.int .i64 t.x.kind, .string t.x.name, .int .i64 t.x.tok, .slice B t.kids.length k] :: L) W) ?_ ?_
  rotate_left
  ·rintro ⟨⟩ Wm H
   refine wcR ?_
   refine wM ?_
   refine wV (v_loadN agg24 rfl rfl (H.ats (by repeat constructor))) ?_
   refine wM ?_
   refine wM ?_
   refine wl_call en31 rfl rfl (ih _ (getD_mem (z := nd0) hin) w0 _ _ b ((l ++ t.x.name.data.toList ++ shws src toks (t.kids.take i) true) ++ sepN i) A _ _ kt hT hr53_ (Tr.Alls_at nd0 hin hks) (Tr.Alls_at nd0 hin hrws) (Tr.Alls_at nd0 hin hnms) (Tr.Alls_at nd0 hin hlns) (by (try simp only [List.length_append, List.length_cons, List.length_nil]); (try simp only [List.length_append, List.length_cons, List.length_nil] at *); omega) (H.turn (A := SB 90 5 b ((l ++ t.x.name.data.toList ++ shws src toks (t.kids.take i) true) ++ sepN i)) (by repeat constructor))) ?_
   rintro _ w13 ⟨rfl, Hc⟩
   refine wV (v_not rfl) ?_
   refine wl_nil ?_
   refine wc_cond_f rfl ?_
   refine wc_skip ?_
   refine wc_region ?_
   refine wV (v_addi rfl rfl (by omega)) ?_
   refine wM ?_
   refine wl_nil ?_
   exact ⟨i + 1, (sc rfl (sc rfl (sc rfl (sc rfl (sc rfl (sc rfl (sc rfl (sn _)))))))), ⟨by omega, by rw [shws_succ _ _ hin]; (try simp only [← List.append_assoc]); (try simp only [← List.append_assoc] at Hc); exact Hc.pm (by repeat (first | exact pm_refl _ | constructor | refine pm_skip ?_))⟩, by omega⟩
  refine wcR ?_
  refine wM ?_
  refine wV (v_eql rfl rfl) ?_
  refine wl_nil ?_
  refine wc_cond rfl (fun c5 => ?_) (fun c5 => ?_)
  ·have c5p := oT c5
   refine wc_region ?_
   refine wM ?_
   refine wl_call en56 rfl rfl (wb_calls (b := b) (l := (l ++ t.x.name.data.toList ++ shws src toks (t.kids.take i) true)) (c := 40) (by (try simp only [List.length_append, List.length_cons, List.length_nil]); (try simp only [List.length_append, List.length_cons, List.length_nil] at *); omega) (H10.turn (A := SB 90 5 b (l ++ t.x.name.data.toList ++ shws src toks (t.kids.take i) true)) (by repeat constructor))) ?_
   rintro _ w11 Hc
   refine wl_nil ?_
   first
     | (have e_ : sepN i = [40] := by unfold sepN; rw [if_pos (by omega)]
        exact ⟨(), (sc rfl (sc rfl (sc rfl (sc rfl (sc rfl (sc rfl (sc rfl (sc rfl (sn _))))))))), by rw [e_]; exact Hc.pm (by repeat (first | exact pm_refl _ | constructor | refine pm_skip ?_))⟩)
     | (have e_ : sepN i = [44, 32] := by unfold sepN; rw [if_neg (by omega)]
        exact ⟨(), (sc rfl (sc rfl (sc rfl (sc rfl (sc rfl (sc rfl (sc rfl (sc rfl (sn _))))))))), by rw [e_]; exact Hc.pm (by repeat (first | exact pm_refl _ | constructor | refine pm_skip ?_))⟩)
  have c5p := oF c5
  refine wc_region ?_
  refine wM ?_
  refine wl_call en57 rfl rfl (ws_calls (b := b) (l := (l ++ t.x.name.data.toList ++ shws src toks (t.kids.take i) true)) (by (try simp only [List.length_append, List.length_cons, List.length_nil]); (try simp only [List.length_append, List.length_cons, List.length_nil] at *); omega) (by decide) (H10.turn (A := SB 90 5 b (l ++ t.x.name.data.toList ++ shws src toks (t.kids.take i) true)) (by repeat constructor))) ?_
  rintro _ w12 Hc
  refine wl_nil ?_
  first
    | (have e_ : sepN i = [40] := by unfold sepN; rw [if_pos (by omega)]
       exact ⟨(), (sc rfl (sc rfl (sc rfl (sc rfl (sc rfl (sc rfl (sc rfl (sc rfl (sn _))))))))), by rw [e_]; exact Hc.pm (by repeat (first | exact pm_refl _ | constructor | refine pm_skip ?_))⟩)
    | (have e_ : sepN i = [44, 32] := by unfold sepN; rw [if_neg (by omega)]
       exact ⟨(), (sc rfl (sc rfl (sc rfl (sc rfl (sc rfl (sc rfl (sc rfl (sc rfl (sn _))))))))), by rw [e_]; exact Hc.pm (by repeat (first | exact pm_refl _ | constructor | refine pm_skip ?_))⟩)

theorem write_calls {src : ByteArray} {toks : List Tk} (hss : src.size ≤ 1099511627776) (htl : toks.length ≤ 1099511627776) : ∀ t : Nd, WriteOk src toks t := Tr.ind fun x kids ih => fun w0 w L b l A B k kt hT hr hf hrow hnam hlon hl HH => write_step (t := .mk x kids) hss htl hT hr hf hrow hnam hlon hl HH ih

set_option maxHeartbeats 3200000 in
set_option maxRecDepth 100000 in
theorem ptext_calls {src : ByteArray} {toks : List Tk} {t : Nd} {w : World} {A B : Option Addr} {k kt : Nat} (hss : src.size ≤ 1099511627776) (htl : toks.length ≤ 1099511627776) (hT : Rd fTk.kn w A toks) (hr : Rd (kTr fNd) w B t.kids) (hf : t.All smallN) (hcn : 20002 * t.cnt ≤ 1099511627776) : Calls Try.prog 11 #[.agg #[.int .i64 t.x.kind, .string t.x.name, .int .i64 t.x.tok, .slice B t.kids.length k], .string src, .slice A toks.length kt] w fun e w' => ∃ v, e = .returned v ∧ v = .tuple #[.string (txS src toks t), .int .i64 (txE src toks t)] ∧ Holds w [] w' := by
  refine calls_of Try.func11 rfl Try.ntmps11 rfl ?_
  have H := Holds.start w
  refine wcR ?_
  refine wl_box (cs := [_, _, _, _]) H rfl rfl rfl ?_
  intro b3 w1 hb3 H2
  refine wA ?_
  refine wA ?_
  refine wl_nil ?_
  refine wc_seq ?_
  refine wcR ?_
  refine wV (v_loadN agg24 rfl rfl (H2.ats (by repeat constructor))) ?_
  refine wM ?_
  refine wM ?_
  refine wl_call en28 rfl rfl (row_calls hss htl t _ A B k kt (hT.below H2.old) (hr.below H2.old) hf) ?_
  rintro _ w3 ⟨rfl, Hc⟩
  have H4 := H2.call0 Hc
  refine wV (v_not rfl) ?_
  refine wl_nil ?_
  refine wc_cond rfl (fun c0 => ?_) (fun c0 => ?_)
  ·have c0p := of_n_t c0
   refine wcR ?_
   refine wA ?_
   refine wA ?_
   refine wl_nil ?_
   refine wc_ret ?_
   first
     | (have q_ := hlon
        exact ⟨_, res2 rfl rfl rfl, by rw [(txE_ok hrow hnam hlon).1, (txE_ok hrow hnam hlon).2]; rfl, H4.pm (Pm.nil _)⟩)
     | exact ⟨_, res2 rfl rfl rfl, by rw [(txE_lon hrow hnam (of_dec g20)).1, (txE_lon hrow hnam (of_dec g20)).2], H4.pm (by repeat (first | exact Pm.nil _ | constructor))⟩
     | exact ⟨_, res2 rfl rfl rfl, by rw [(txE_nam hrow (of_ndec (of_n_t c1))).1, (txE_nam hrow (of_ndec (of_n_t c1))).2], H4.pm (Pm.nil _)⟩
     | exact ⟨_, res2 rfl rfl rfl, by rw [(txE_row (of_ndec (of_n_t c0))).1, (txE_row (of_ndec (of_n_t c0))).2], H4.pm (Pm.nil _)⟩
  have c0p := of_n_f c0
  have hrow := of_dec (of_n_f c0)
  refine wc_skip ?_
  refine wc_seq ?_
  refine wcR ?_
  refine wV (v_loadN agg24 rfl rfl (H4.ats (by repeat constructor))) ?_
  refine wl_call en29 rfl rfl (named_calls t _ B k (hr.below H4.old) hf) ?_
  rintro _ w5 ⟨rfl, Hc⟩
  have H6 := H4.call0 Hc
  refine wV (v_not rfl) ?_
  refine wl_nil ?_
  refine wc_cond rfl (fun c1 => ?_) (fun c1 => ?_)
  ·have c1p := of_n_t c1
   refine wcR ?_
   refine wA ?_
   refine wA ?_
   refine wl_nil ?_
   refine wc_ret ?_
   first
     | (have q_ := hlon
        exact ⟨_, res2 rfl rfl rfl, by rw [(txE_ok hrow hnam hlon).1, (txE_ok hrow hnam hlon).2]; rfl, H6.pm (Pm.nil _)⟩)
     | exact ⟨_, res2 rfl rfl rfl, by rw [(txE_lon hrow hnam (of_dec g20)).1, (txE_lon hrow hnam (of_dec g20)).2], H6.pm (by repeat (first | exact Pm.nil _ | constructor))⟩
     | exact ⟨_, res2 rfl rfl rfl, by rw [(txE_nam hrow (of_ndec (of_n_t c1))).1, (txE_nam hrow (of_ndec (of_n_t c1))).2], H6.pm (Pm.nil _)⟩
     | exact ⟨_, res2 rfl rfl rfl, by rw [(txE_row (of_ndec (of_n_t c0))).1, (txE_row (of_ndec (of_n_t c0))).2], H6.pm (Pm.nil _)⟩
  have c1p := of_n_f c1
  have hnam := of_dec (of_n_f c1)
  refine wc_skip ?_
  refine wcR ?_
  refine wl_alloc (cs := [.pointer none, .slice none 0 0]) H6 rfl zv90 rfl ?_
  intro b8 w7 hb8 H7
  replace H7 := H7.sbNew (e := 5)
  refine wl_nil ?_
  refine wc_seq ?_
  refine wcR ?_
  refine wV (v_loadN agg24 rfl rfl (H7.ats (by repeat constructor))) ?_
  refine wM ?_
  refine wl_call en30 rfl rfl (long_calls hss htl t _ A B k kt (hT.below H7.old) (hr.below H7.old) hf hrow) ?_
  rintro _ w8 ⟨rfl, Hc⟩
  have H9 := H7.call0 Hc
  refine wM ?_
  refine wl_guard rfl rfl rfl (fun g20 => ?_) (fun g20 => ?_)
  rotate_left
  ·refine wF g20 ?_
   refine wF g20 ?_
   refine wF g20 ?_
   refine wF g20 ?_
   refine wV (v_pick_t rfl g20 rfl) ?_
   refine wl_nil ?_
   refine wc_cond_t rfl ?_
   refine wcR ?_
   refine wA ?_
   refine wA ?_
   refine wl_nil ?_
   refine wc_ret ?_
   first
     | (have q_ := hlon
        exact ⟨_, res2 rfl rfl rfl, by rw [(txE_ok hrow hnam hlon).1, (txE_ok hrow hnam hlon).2]; rfl, H9.pm (Pm.nil _)⟩)
     | exact ⟨_, res2 rfl rfl rfl, by rw [(txE_lon hrow hnam (of_dec g20)).1, (txE_lon hrow hnam (of_dec g20)).2], H9.pm (by repeat (first | exact Pm.nil _ | constructor))⟩
     | exact ⟨_, res2 rfl rfl rfl, by rw [(txE_nam hrow (of_ndec (of_n_t c1))).1, (txE_nam hrow (of_ndec (of_n_t c1))).2], H9.pm (Pm.nil _)⟩
     | exact ⟨_, res2 rfl rfl rfl, by rw [(txE_row (of_ndec (of_n_t c0))).1, (txE_row (of_ndec (of_n_t c0))).2], H9.pm (Pm.nil _)⟩
  have hlon : t.All (lonP toks) := Classical.byContradiction (of_ndec g20)
  refine wV (v_loadN agg24 rfl rfl (H9.ats (by repeat constructor))) ?_
  refine wO g20 ?_
  refine wM ?_
  refine wO g20 ?_
  refine wM ?_
  refine wO g20 ?_
  refine wl_call en31 rfl rfl (write_calls hss htl t w _ _ b8 [] A B k kt hT hr hf hrow hnam hlon (by have h_ := shw_len (src := src) (toks := toks) t hnam; show 0 + _ ≤ 1099511627776; omega) (H9.turn (A := SB 90 5 b8 []) (by repeat constructor))) ?_
  rintro _ w10 ⟨rfl, Hc⟩
  refine wO g20 ?_
  refine wV (v_not rfl) ?_
  refine wV (v_pick_f rfl g20 rfl) ?_
  refine wl_nil ?_
  refine wc_cond_f rfl ?_
  refine wc_skip ?_
  refine wcR ?_
  refine wl_call en32 rfl rfl (sbs_calls (b := b8) (Hc.turn (A := SB 90 5 b8 ([] ++ shw src toks t)) (by repeat constructor))) ?_
  rintro _ w11 ⟨rfl, Hc⟩
  refine wA ?_
  refine wA ?_
  refine wl_nil ?_
  refine wc_ret ?_
  first
    | (have q_ := hlon
       exact ⟨_, res2 rfl rfl rfl, by rw [(txE_ok hrow hnam hlon).1, (txE_ok hrow hnam hlon).2]; rfl, Hc.pm (Pm.nil _)⟩)
    | exact ⟨_, res2 rfl rfl rfl, by rw [(txE_lon hrow hnam (of_dec g20)).1, (txE_lon hrow hnam (of_dec g20)).2], Hc.pm (by repeat (first | exact Pm.nil _ | constructor))⟩
    | exact ⟨_, res2 rfl rfl rfl, by rw [(txE_nam hrow (of_ndec (of_n_t c1))).1, (txE_nam hrow (of_ndec (of_n_t c1))).2], Hc.pm (Pm.nil _)⟩
    | exact ⟨_, res2 rfl rfl rfl, by rw [(txE_row (of_ndec (of_n_t c0))).1, (txE_row (of_ndec (of_n_t c0))).2], Hc.pm (Pm.nil _)⟩
end Go.Proofs.Ytgdemplcpcacaaa.WriteW

/-! An action's parts counted. -/
namespace Go.Proofs.Ytgdemplcpcacaaa.PartsW
open Go Go.RowKit Go.Proofs.YtgdemplcpcacaaaFx 
theorem agg69 : Agg Try.prog 69 4 := agg_of Try.underlying69 (by kernel_rfl)
theorem en83 : Enters Try.prog 83 := enters Try.func83 (by kernel_rfl) rfl
theorem fa69_0 : FieldAt Try.prog 69 0 0 := field_at (sz := 0) Try.underlying69 rfl (by kernel_rfl) rfl
theorem fa69_1 : FieldAt Try.prog 69 1 1 := field_at (sz := 0) Try.underlying69 rfl (by kernel_rfl) rfl
theorem fa69_2 : FieldAt Try.prog 69 2 2 := field_at (sz := 0) Try.underlying69 rfl (by kernel_rfl) rfl
theorem fa69_3 : FieldAt Try.prog 69 3 3 := field_at (sz := 0) Try.underlying69 rfl (by kernel_rfl) rfl
theorem one3 : One Try.prog 3 := one_of Try.underlying3 rfl (by kernel_rfl)
theorem one67 : One Try.prog 67 := one_of Try.underlying67 rfl (by kernel_rfl)
theorem one9 : One Try.prog 9 := one_of Try.underlying9 rfl (by kernel_rfl)
theorem sz3 : ∀ W, (sizeOf 3).run Try.prog W = .ok 1 W := size_of (by kernel_rfl)
theorem sz69 : ∀ W, (sizeOf 69).run Try.prog W = .ok 4 W := size_of (by kernel_rfl)
theorem zv69 : ∀ W, (zeroValue 69).run Try.prog W = .ok (.agg #[.int .i64 0, .int .i64 0, .string ⟨#[]⟩, .slice none 0 0]) W := zero_of (by kernel_rfl)

def PartsOk (t : Ac) : Prop := ∀ (w0 w : World) (L : List Ch) (B : Option Addr) (b k : Nat) (n syms : Int) (hk : t.kids.length ≤ k) (hr : Rd (kTr fAc) w0 B t.kids) (hn : 0 ≤ n ∧ n + t.cnt ≤ 4611686018427387904) (HH : Holds w0 (Blk b 3 [.int .i64 n] :: L) w), Calls Try.prog 83 #[.agg #[.int .i64 t.x.kind, .int .i64 t.x.at_, .string t.x.name, .slice B t.kids.length k], .int .i64 syms, .pointer (some ⟨b, 0, none⟩)] w fun e w' => ∃ v, e = .returned v ∧ ∃ m, v = .bool (dec (t.All (nodeOk syms) ∧ n + t.cnt ≤ 256)) ∧ (((t.All (nodeOk syms) ∧ n + t.cnt ≤ 256) → m = n + t.cnt) ∧ n ≤ m ∧ m ≤ n + t.cnt) ∧ Holds w0 (Blk b 3 [.int .i64 m] :: L) w'

set_option maxHeartbeats 3200000 in
set_option maxRecDepth 100000 in
theorem parts_step {w0 w : World} {L : List Ch} {B : Option Addr} {b k : Nat} {n syms : Int} {t : Ac} (hk : t.kids.length ≤ k) (hr : Rd (kTr fAc) w0 B t.kids) (hn : 0 ≤ n ∧ n + t.cnt ≤ 4611686018427387904) (HH : Holds w0 (Blk b 3 [.int .i64 n] :: L) w) (ih : ∀ t' ∈ t.kids, PartsOk t') : Calls Try.prog 83 #[.agg #[.int .i64 t.x.kind, .int .i64 t.x.at_, .string t.x.name, .slice B t.kids.length k], .int .i64 syms, .pointer (some ⟨b, 0, none⟩)] w fun e w' => ∃ v, e = .returned v ∧ ∃ m, v = .bool (dec (t.All (nodeOk syms) ∧ n + t.cnt ≤ 256)) ∧ (((t.All (nodeOk syms) ∧ n + t.cnt ≤ 256) → m = n + t.cnt) ∧ n ≤ m ∧ m ≤ n + t.cnt) ∧ Holds w0 (Blk b 3 [.int .i64 m] :: L) w' := by
  have hcnt := Tr.cnt_eq t
  have hkl := Tr.cnts_len t.kids
  refine calls_of Try.func83 rfl Try.ntmps83 rfl ?_
  have H := HH
  refine wcR ?_
  refine wl_box (cs := [_, _, _, _]) H rfl rfl rfl ?_
  intro b3 w1 hb3 H2
  refine wA ?_
  refine wl_nil ?_
  refine wcR ?_
  refine wM ?_
  refine wV (v_nil rfl) ?_
  refine wV (v_load one3 rfl (H2.at (by repeat constructor) rfl)) ?_
  refine wV (v_addi rfl rfl (by omega)) ?_
  refine wV (v_nil rfl) ?_
  refine wl_store (vs := [_]) H2 (by repeat constructor) sz3 rfl rfl rfl rfl rfl (by (repeat constructor)) ?_
  intro w3 H4 hw3
  refine wl_nil ?_
  refine wcR ?_
  refine wV (v_fb (o2 := 3) fa69_3 rfl rfl) ?_
  refine wV (v_load one67 rfl (H4.at (by repeat constructor) rfl)) ?_
  refine wV (v_len Try.underlying67 rfl) ?_
  refine wV (v_eql rfl rfl) ?_
  refine wA ?_
  refine wl_nil ?_
  refine wcR ?_
  refine wA ?_
  refine wl_nil ?_
  refine wc_cut (σ := Bool) (fun q => [(1, .int .i64 syms), (2, .pointer (some ⟨b, 0, none⟩)), (3, .pointer (some ⟨b3, 0, none⟩)), (8, .bool q)]) (fun q W => q = dec (nodeOk syms t.x t.kids.length) ∧ Holds w0 (Blk b 3 [.int .i64 (n + 1)] :: Blk b3 69 [.int .i64 t.x.kind, .int .i64 t.x.at_, .string t.x.name, .slice B t.kids.length k] :: L) W) ?_ ?_
  rotate_left
  ·rintro ok Wm ⟨hok, H⟩
   refine wc_seq ?_
   refine wcR ?_
   refine wV (v_fb (o2 := 3) fa69_3 rfl rfl) ?_
   refine wV (v_load one67 rfl (H.at (by repeat constructor) rfl)) ?_
   refine wV (v_len Try.underlying67 rfl) ?_
   refine wM ?_
   refine wl_nil ?_
   refine wc_block ?_
   refine wc_loop (σ := Nat × Int × Bool) (fun s => [(1, .int .i64 syms), (2, .pointer (some ⟨b, 0, none⟩)), (3, .pointer (some ⟨b3, 0, none⟩)), (8, .bool s.2.2), (86, .slice B t.kids.length k), (87, .int .i64 t.kids.length), (88, .int .i64 s.1)]) (fun s W => PSt syms t n s.1 s.2.1 s.2.2 ∧ Holds w0 (Blk b 3 [.int .i64 s.2.1] :: Blk b3 69 [.int .i64 t.x.kind, .int .i64 t.x.at_, .string t.x.name, .slice B t.kids.length k] :: L) W) (fun s => t.kids.length - s.1) (0, n + 1, ok) (sc rfl (sc rfl (sc rfl (sc rfl (sc rfl (sc rfl (sc rfl (sn _)))))))) ⟨PSt.start hok, H⟩ ?_
   rintro ⟨i, m, ok2⟩ W0 ⟨hp, H⟩
   dsimp only at hp H ⊢
   have hle := hp.le
   have hlo := hp.lo
   have hhi := hp.hi
   have hct := hp.cnt
   refine wcR ?_
   refine wV (v_lss rfl rfl) ?_
   refine wl_nil ?_
   refine wc_seq ?_
   refine wc_cond rfl (fun c4 => ?_) (fun c4 => ?_)
   rotate_left
   ·have c4p := oF c4
    refine wc_exit ?_
    refine wcR ?_
    refine wM ?_
    refine wM ?_
    refine wl_guard rfl rfl rfl (fun g107 => ?_) (fun g107 => ?_)
    rotate_left
    ·refine wF g107 ?_
     refine wF g107 ?_
     refine wF g107 ?_
     refine wV (v_pick_f rfl g107 rfl) ?_
     refine wA ?_
     refine wl_nil ?_
     refine wc_ret ?_
     first
       | exact ⟨_, res1 rfl rfl, m, congrArg Value.bool (hp.fin c4p ⟨fun hd => ⟨g107, of_decide_eq_true hd⟩, fun hh => decide_eq_true hh.2⟩), hp.out c4p, H.drop (.there _ (.here _ _))⟩
       | exact ⟨_, res1 rfl rfl, m, congrArg Value.bool (hp.fin c4p ⟨fun hd => absurd hd Bool.noConfusion, fun hh => absurd (hh.1.symm.trans g107) Bool.noConfusion⟩), hp.out c4p, H.drop (.there _ (.here _ _))⟩
    refine wM ?_
    refine wO g107 ?_
    refine wV (v_nil rfl) ?_
    refine wO g107 ?_
    refine wV (v_load one3 rfl (H.at (by repeat constructor) rfl)) ?_
    refine wO g107 ?_
    refine wV (v_leq rfl rfl) ?_
    refine wV (v_pick_t rfl g107 rfl) ?_
    refine wA ?_
    refine wl_nil ?_
    refine wc_ret ?_
    first
      | exact ⟨_, res1 rfl rfl, m, congrArg Value.bool (hp.fin c4p ⟨fun hd => ⟨g107, of_decide_eq_true hd⟩, fun hh => decide_eq_true hh.2⟩), hp.out c4p, H.drop (.there _ (.here _ _))⟩
      | exact ⟨_, res1 rfl rfl, m, congrArg Value.bool (hp.fin c4p ⟨fun hd => absurd hd Bool.noConfusion, fun hh => absurd (hh.1.symm.trans g107) Bool.noConfusion⟩), hp.out c4p, H.drop (.there _ (.here _ _))⟩
   have c4p := oT c4
   have hsucc := Tr.cnts_succ ac0 t.kids i (by omega)
   have htk := Tr.cnts_take t.kids (i + 1)
   refine wc_skip ?_
   refine wc_seq ?_
   refine wc_block ?_
   refine wcR ?_
   refine wV (v_idx Try.underlying67 sz69 hr.ad rfl rfl (by omega) (by omega)) ?_
   obtain ⟨B91_, k91_, hc91_, hl91_, hr91_⟩ := hr.atTr ac0 (i := i) (by omega)
   refine wV (v_loadN (cs := [.int .i64 (t.kids.getD i ac0).x.kind, .int .i64 (t.kids.getD i ac0).x.at_, .string (t.kids.getD i ac0).x.name, .slice B91_ (t.kids.getD i ac0).kids.length k91_]) agg69 rfl rfl (fun q_ u_ hu_ => H.cell (hc91_ q_ u_ hu_))) ?_
   refine wl_alloc (cs := [.int .i64 0, .int .i64 0, .string ⟨#[]⟩, .slice none 0 0]) H rfl zv69 rfl ?_
   intro b10 w8 hb10 H9
   refine wl_store (vs := [_, _, _, _]) H9 (by repeat constructor) sz69 rfl rfl rfl rfl rfl (by (repeat constructor)) ?_
   intro w10 H11 hw10
   refine wl_nil ?_
   refine wc_region ?_
   refine wM ?_
   refine wM ?_
   refine wl_guard rfl rfl rfl (fun g93 => ?_) (fun g93 => ?_)
   rotate_left
   ·refine wF g93 ?_
    refine wF g93 ?_
    refine wF g93 ?_
    refine wV (v_pick_f rfl g93 rfl) ?_
    refine wM ?_
    refine wF rfl ?_
    refine wF rfl ?_
    refine wF rfl ?_
    refine wF rfl ?_
    refine wV (v_pick_f rfl rfl rfl) ?_
    refine wA ?_
    refine wl_nil ?_
    refine wc_region ?_
    refine wV (v_addi rfl rfl (by omega)) ?_
    refine wM ?_
    refine wl_nil ?_
    first
      | exact ⟨(i + 1, m2, _), (sc rfl (sc rfl (sc rfl (sc rfl (sc rfl (sc rfl (sc rfl (sn _)))))))), ⟨hps, H11.drop (.there _ (.here _ _))⟩, by dsimp only; omega⟩
      | exact ⟨(i + 1, m, _), (sc rfl (sc rfl (sc rfl (sc rfl (sc rfl (sc rfl (sc rfl (sn _)))))))), ⟨hp.skip (by omega) (.inl g93) rfl, H11.tail⟩, by dsimp only; omega⟩
      | exact ⟨(i + 1, m, _), (sc rfl (sc rfl (sc rfl (sc rfl (sc rfl (sc rfl (sc rfl (sn _)))))))), ⟨hp.skip (by omega) (.inr (by omega)) rfl, H11.tail⟩, by dsimp only; omega⟩
   refine wM ?_
   refine wO g93 ?_
   refine wV (v_nil rfl) ?_
   refine wO g93 ?_
   refine wV (v_load one3 rfl (H11.at (by repeat constructor) rfl)) ?_
   refine wO g93 ?_
   refine wV (v_leq rfl rfl) ?_
   refine wV (v_pick_t rfl g93 rfl) ?_
   refine wM ?_
   refine wl_guard rfl rfl rfl (fun g99 => ?_) (fun g99 => ?_)
   rotate_left
   ·have g99p := oF g99
    refine wF g99 ?_
    refine wF g99 ?_
    refine wF g99 ?_
    refine wV (v_pick_f rfl g99 rfl) ?_
    refine wA ?_
    refine wl_nil ?_
    refine wc_region ?_
    refine wV (v_addi rfl rfl (by omega)) ?_
    refine wM ?_
    refine wl_nil ?_
    first
      | exact ⟨(i + 1, m2, _), (sc rfl (sc rfl (sc rfl (sc rfl (sc rfl (sc rfl (sc rfl (sn _)))))))), ⟨hps, H11.drop (.there _ (.here _ _))⟩, by dsimp only; omega⟩
      | exact ⟨(i + 1, m, _), (sc rfl (sc rfl (sc rfl (sc rfl (sc rfl (sc rfl (sc rfl (sn _)))))))), ⟨hp.skip (by omega) (.inl g93) rfl, H11.tail⟩, by dsimp only; omega⟩
      | exact ⟨(i + 1, m, _), (sc rfl (sc rfl (sc rfl (sc rfl (sc rfl (sc rfl (sc rfl (sn _)))))))), ⟨hp.skip (by omega) (.inr (by omega)) rfl, H11.tail⟩, by dsimp only; omega⟩
   have g99p := oT g99
   refine wV (v_loadN agg69 rfl rfl (H11.ats (by repeat constructor))) ?_
   refine wO g99 ?_
   refine wM ?_
   refine wO g99 ?_
   refine wM ?_
   refine wO g99 ?_
   refine wl_call en83 rfl rfl (ih _ (getD_mem (z := ac0) (show i < t.kids.length by omega)) w0 _ _ _ _ _ m syms hl91_ hr91_ (by omega) (H11.turn (A := Blk b 3 [.int .i64 m]) (by repeat constructor))) ?_
   rintro _ w12 ⟨m2, rfl, ⟨hm1, hm2⟩, Hc⟩
   have hps := hp.call (by omega) g93 rfl hm1 hm2
   refine wV (v_pick_t rfl g99 rfl) ?_
   refine wA ?_
   refine wl_nil ?_
   refine wc_region ?_
   refine wV (v_addi rfl rfl (by omega)) ?_
   refine wM ?_
   refine wl_nil ?_
   first
     | exact ⟨(i + 1, m2, _), (sc rfl (sc rfl (sc rfl (sc rfl (sc rfl (sc rfl (sc rfl (sn _)))))))), ⟨hps, Hc.drop (.there _ (.here _ _))⟩, by dsimp only; omega⟩
     | exact ⟨(i + 1, m, _), (sc rfl (sc rfl (sc rfl (sc rfl (sc rfl (sc rfl (sc rfl (sn _)))))))), ⟨hp.skip (by omega) (.inl g93) rfl, Hc.tail⟩, by dsimp only; omega⟩
     | exact ⟨(i + 1, m, _), (sc rfl (sc rfl (sc rfl (sc rfl (sc rfl (sc rfl (sc rfl (sn _)))))))), ⟨hp.skip (by omega) (.inr (by omega)) rfl, Hc.tail⟩, by dsimp only; omega⟩
  refine wcR ?_
  refine wV (v_fb (o2 := 0) fa69_0 rfl rfl) ?_
  refine wV (v_load one3 rfl (H4.at (by repeat constructor) rfl)) ?_
  refine wl_nil ?_
  refine wc_block ?_
  refine wcR ?_
  refine wV (v_eql rfl rfl) ?_
  refine wA ?_
  refine wl_nil ?_
  refine wc_cond rfl (fun c0 => ?_) (fun c0 => ?_)
  ·have c0p := oT c0
   refine wc_region ?_
   refine wM ?_
   refine wM ?_
   refine wl_guard rfl rfl rfl (fun g25 => ?_) (fun g25 => ?_)
   rotate_left
   ·have g25p := oF g25
    refine wF g25 ?_
    refine wF g25 ?_
    refine wV (v_pick_f rfl g25 rfl) ?_
    refine wM ?_
    refine wF rfl ?_
    refine wF rfl ?_
    refine wF rfl ?_
    refine wV (v_pick_f rfl rfl rfl) ?_
    refine wA ?_
    refine wl_nil ?_
    first
      | exact ⟨_, (sc rfl (sc rfl (sc rfl (sc rfl (sn _))))), ⟨dec_eq ⟨fun hd => by (have h_ := oT hd; unfold nodeOk; omega), fun hh => decide_eq_true (by unfold nodeOk at hh; omega)⟩, H4.turn (by repeat constructor)⟩⟩
      | exact ⟨_, (sc rfl (sc rfl (sc rfl (sc rfl (sn _))))), ⟨(dec_f fun hh => by unfold nodeOk at hh; omega).symm, H4.turn (by repeat constructor)⟩⟩
   have g25p := oT g25
   refine wV (v_fb (o2 := 1) fa69_1 rfl rfl) ?_
   refine wO g25 ?_
   refine wV (v_load one3 rfl (H4.at (by repeat constructor) rfl)) ?_
   refine wO g25 ?_
   refine wV (v_eql rfl rfl) ?_
   refine wV (v_pick_t rfl g25 rfl) ?_
   refine wM ?_
   refine wl_guard rfl rfl rfl (fun g30 => ?_) (fun g30 => ?_)
   rotate_left
   ·have g30p := oF g30
    refine wF g30 ?_
    refine wF g30 ?_
    refine wV (v_pick_f rfl g30 rfl) ?_
    refine wA ?_
    refine wl_nil ?_
    first
      | exact ⟨_, (sc rfl (sc rfl (sc rfl (sc rfl (sn _))))), ⟨dec_eq ⟨fun hd => by (have h_ := oT hd; unfold nodeOk; omega), fun hh => decide_eq_true (by unfold nodeOk at hh; omega)⟩, H4.turn (by repeat constructor)⟩⟩
      | exact ⟨_, (sc rfl (sc rfl (sc rfl (sc rfl (sn _))))), ⟨(dec_f fun hh => by unfold nodeOk at hh; omega).symm, H4.turn (by repeat constructor)⟩⟩
   have g30p := oT g30
   refine wV (v_fb (o2 := 2) fa69_2 rfl rfl) ?_
   refine wO g30 ?_
   refine wV (v_load one9 rfl (H4.at (by repeat constructor) rfl)) ?_
   refine wO g30 ?_
   refine wV (v_eql0 rfl rfl) ?_
   refine wV (v_pick_t rfl g30 rfl) ?_
   refine wA ?_
   refine wl_nil ?_
   first
     | exact ⟨_, (sc rfl (sc rfl (sc rfl (sc rfl (sn _))))), ⟨dec_eq ⟨fun hd => by (have h_ := oT hd; unfold nodeOk; omega), fun hh => decide_eq_true (by unfold nodeOk at hh; omega)⟩, H4.turn (by repeat constructor)⟩⟩
     | exact ⟨_, (sc rfl (sc rfl (sc rfl (sc rfl (sn _))))), ⟨(dec_f fun hh => by unfold nodeOk at hh; omega).symm, H4.turn (by repeat constructor)⟩⟩
  have c0p := oF c0
  refine wcR ?_
  refine wV (v_eql rfl rfl) ?_
  refine wA ?_
  refine wl_nil ?_
  refine wc_cond rfl (fun c1 => ?_) (fun c1 => ?_)
  ·have c1p := oT c1
   refine wc_region ?_
   refine wM ?_
   refine wM ?_
   refine wl_guard rfl rfl rfl (fun g38 => ?_) (fun g38 => ?_)
   rotate_left
   ·have g38p := oF g38
    refine wF g38 ?_
    refine wF g38 ?_
    refine wV (v_pick_f rfl g38 rfl) ?_
    refine wM ?_
    refine wF rfl ?_
    refine wF rfl ?_
    refine wF rfl ?_
    refine wF rfl ?_
    refine wV (v_pick_f rfl rfl rfl) ?_
    refine wM ?_
    refine wF rfl ?_
    refine wF rfl ?_
    refine wF rfl ?_
    refine wV (v_pick_f rfl rfl rfl) ?_
    refine wA ?_
    refine wl_nil ?_
    first
      | exact ⟨_, (sc rfl (sc rfl (sc rfl (sc rfl (sn _))))), ⟨dec_eq ⟨fun hd => by (have h_ := oT hd; unfold nodeOk; omega), fun hh => decide_eq_true (by unfold nodeOk at hh; omega)⟩, H4.turn (by repeat constructor)⟩⟩
      | exact ⟨_, (sc rfl (sc rfl (sc rfl (sc rfl (sn _))))), ⟨(dec_f fun hh => by unfold nodeOk at hh; omega).symm, H4.turn (by repeat constructor)⟩⟩
   have g38p := oT g38
   refine wV (v_fb (o2 := 1) fa69_1 rfl rfl) ?_
   refine wO g38 ?_
   refine wV (v_load one3 rfl (H4.at (by repeat constructor) rfl)) ?_
   refine wO g38 ?_
   refine wV (v_geq rfl rfl) ?_
   refine wV (v_pick_t rfl g38 rfl) ?_
   refine wM ?_
   refine wl_guard rfl rfl rfl (fun g43 => ?_) (fun g43 => ?_)
   rotate_left
   ·have g43p := oF g43
    refine wF g43 ?_
    refine wF g43 ?_
    refine wF g43 ?_
    refine wV (v_pick_f rfl g43 rfl) ?_
    refine wM ?_
    refine wF rfl ?_
    refine wF rfl ?_
    refine wF rfl ?_
    refine wV (v_pick_f rfl rfl rfl) ?_
    refine wA ?_
    refine wl_nil ?_
    first
      | exact ⟨_, (sc rfl (sc rfl (sc rfl (sc rfl (sn _))))), ⟨dec_eq ⟨fun hd => by (have h_ := oT hd; unfold nodeOk; omega), fun hh => decide_eq_true (by unfold nodeOk at hh; omega)⟩, H4.turn (by repeat constructor)⟩⟩
      | exact ⟨_, (sc rfl (sc rfl (sc rfl (sc rfl (sn _))))), ⟨(dec_f fun hh => by unfold nodeOk at hh; omega).symm, H4.turn (by repeat constructor)⟩⟩
   have g43p := oT g43
   refine wV (v_fb (o2 := 1) fa69_1 rfl rfl) ?_
   refine wO g43 ?_
   refine wV (v_load one3 rfl (H4.at (by repeat constructor) rfl)) ?_
   refine wO g43 ?_
   refine wM ?_
   refine wO g43 ?_
   refine wV (v_lss rfl rfl) ?_
   refine wV (v_pick_t rfl g43 rfl) ?_
   refine wM ?_
   refine wl_guard rfl rfl rfl (fun g49 => ?_) (fun g49 => ?_)
   rotate_left
   ·have g49p := oF g49
    refine wF g49 ?_
    refine wF g49 ?_
    refine wV (v_pick_f rfl g49 rfl) ?_
    refine wA ?_
    refine wl_nil ?_
    first
      | exact ⟨_, (sc rfl (sc rfl (sc rfl (sc rfl (sn _))))), ⟨dec_eq ⟨fun hd => by (have h_ := oT hd; unfold nodeOk; omega), fun hh => decide_eq_true (by unfold nodeOk at hh; omega)⟩, H4.turn (by repeat constructor)⟩⟩
      | exact ⟨_, (sc rfl (sc rfl (sc rfl (sc rfl (sn _))))), ⟨(dec_f fun hh => by unfold nodeOk at hh; omega).symm, H4.turn (by repeat constructor)⟩⟩
   have g49p := oT g49
   refine wV (v_fb (o2 := 2) fa69_2 rfl rfl) ?_
   refine wO g49 ?_
   refine wV (v_load one9 rfl (H4.at (by repeat constructor) rfl)) ?_
   refine wO g49 ?_
   refine wV (v_eql0 rfl rfl) ?_
   refine wV (v_pick_t rfl g49 rfl) ?_
   refine wA ?_
   refine wl_nil ?_
   first
     | exact ⟨_, (sc rfl (sc rfl (sc rfl (sc rfl (sn _))))), ⟨dec_eq ⟨fun hd => by (have h_ := oT hd; unfold nodeOk; omega), fun hh => decide_eq_true (by unfold nodeOk at hh; omega)⟩, H4.turn (by repeat constructor)⟩⟩
     | exact ⟨_, (sc rfl (sc rfl (sc rfl (sc rfl (sn _))))), ⟨(dec_f fun hh => by unfold nodeOk at hh; omega).symm, H4.turn (by repeat constructor)⟩⟩
  have c1p := oF c1
  refine wcR ?_
  refine wV (v_eql rfl rfl) ?_
  refine wA ?_
  refine wl_nil ?_
  refine wc_cond rfl (fun c2 => ?_) (fun c2 => ?_)
  ·have c2p := oT c2
   refine wc_region ?_
   refine wM ?_
   refine wM ?_
   refine wl_guard rfl rfl rfl (fun g57 => ?_) (fun g57 => ?_)
   rotate_left
   ·have g57p := oF g57
    refine wF g57 ?_
    refine wF g57 ?_
    refine wV (v_pick_f rfl g57 rfl) ?_
    refine wM ?_
    refine wF rfl ?_
    refine wF rfl ?_
    refine wF rfl ?_
    refine wF rfl ?_
    refine wV (v_pick_f rfl rfl rfl) ?_
    refine wA ?_
    refine wl_nil ?_
    first
      | exact ⟨_, (sc rfl (sc rfl (sc rfl (sc rfl (sn _))))), ⟨dec_eq ⟨fun hd => by (have h_ := oT hd; unfold nodeOk; omega), fun hh => decide_eq_true (by unfold nodeOk at hh; omega)⟩, H4.turn (by repeat constructor)⟩⟩
      | exact ⟨_, (sc rfl (sc rfl (sc rfl (sc rfl (sn _))))), ⟨(dec_f fun hh => by unfold nodeOk at hh; omega).symm, H4.turn (by repeat constructor)⟩⟩
   have g57p := oT g57
   refine wV (v_fb (o2 := 1) fa69_1 rfl rfl) ?_
   refine wO g57 ?_
   refine wV (v_load one3 rfl (H4.at (by repeat constructor) rfl)) ?_
   refine wO g57 ?_
   refine wV (v_eql rfl rfl) ?_
   refine wV (v_pick_t rfl g57 rfl) ?_
   refine wM ?_
   refine wl_guard rfl rfl rfl (fun g62 => ?_) (fun g62 => ?_)
   rotate_left
   ·have g62p := oF g62
    refine wF g62 ?_
    refine wF g62 ?_
    refine wF g62 ?_
    refine wV (v_pick_f rfl g62 rfl) ?_
    refine wA ?_
    refine wl_nil ?_
    first
      | exact ⟨_, (sc rfl (sc rfl (sc rfl (sc rfl (sn _))))), ⟨dec_eq ⟨fun hd => by (have h_ := oT hd; unfold nodeOk; omega), fun hh => decide_eq_true (by unfold nodeOk at hh; omega)⟩, H4.turn (by repeat constructor)⟩⟩
      | exact ⟨_, (sc rfl (sc rfl (sc rfl (sc rfl (sn _))))), ⟨(dec_f fun hh => by unfold nodeOk at hh; omega).symm, H4.turn (by repeat constructor)⟩⟩
   have g62p := oT g62
   refine wV (v_fb (o2 := 2) fa69_2 rfl rfl) ?_
   refine wO g62 ?_
   refine wV (v_load one9 rfl (H4.at (by repeat constructor) rfl)) ?_
   refine wO g62 ?_
   refine wV (v_lens Try.underlying9 rfl) ?_
   refine wO g62 ?_
   refine wV (v_leq rfl rfl) ?_
   refine wV (v_pick_t rfl g62 rfl) ?_
   refine wA ?_
   refine wl_nil ?_
   first
     | exact ⟨_, (sc rfl (sc rfl (sc rfl (sc rfl (sn _))))), ⟨dec_eq ⟨fun hd => by (have h_ := oT hd; unfold nodeOk; omega), fun hh => decide_eq_true (by unfold nodeOk at hh; omega)⟩, H4.turn (by repeat constructor)⟩⟩
     | exact ⟨_, (sc rfl (sc rfl (sc rfl (sc rfl (sn _))))), ⟨(dec_f fun hh => by unfold nodeOk at hh; omega).symm, H4.turn (by repeat constructor)⟩⟩
  have c2p := oF c2
  refine wcR ?_
  refine wV (v_eql rfl rfl) ?_
  refine wA ?_
  refine wl_nil ?_
  refine wc_cond rfl (fun c3 => ?_) (fun c3 => ?_)
  rotate_left
  ·have c3p := oF c3
   refine wc_skip ?_
   first
     | exact ⟨_, (sc rfl (sc rfl (sc rfl (sc rfl (sn _))))), ⟨dec_eq ⟨fun hd => by (have h_ := oT hd; unfold nodeOk; omega), fun hh => decide_eq_true (by unfold nodeOk at hh; omega)⟩, H4.turn (by repeat constructor)⟩⟩
     | exact ⟨_, (sc rfl (sc rfl (sc rfl (sc rfl (sn _))))), ⟨(dec_f fun hh => by unfold nodeOk at hh; omega).symm, H4.turn (by repeat constructor)⟩⟩
  have c3p := oT c3
  refine wc_region ?_
  refine wV (v_fb (o2 := 1) fa69_1 rfl rfl) ?_
  refine wV (v_load one3 rfl (H4.at (by repeat constructor) rfl)) ?_
  refine wV (v_eql rfl rfl) ?_
  refine wM ?_
  refine wl_guard rfl rfl rfl (fun g73 => ?_) (fun g73 => ?_)
  rotate_left
  ·have g73p := oF g73
   refine wF g73 ?_
   refine wF g73 ?_
   refine wF g73 ?_
   refine wV (v_pick_f rfl g73 rfl) ?_
   refine wM ?_
   refine wF rfl ?_
   refine wF rfl ?_
   refine wF rfl ?_
   refine wF rfl ?_
   refine wV (v_pick_f rfl rfl rfl) ?_
   refine wA ?_
   refine wl_nil ?_
   first
     | exact ⟨_, (sc rfl (sc rfl (sc rfl (sc rfl (sn _))))), ⟨dec_eq ⟨fun hd => by (have h_ := oT hd; unfold nodeOk; omega), fun hh => decide_eq_true (by unfold nodeOk at hh; omega)⟩, H4.turn (by repeat constructor)⟩⟩
     | exact ⟨_, (sc rfl (sc rfl (sc rfl (sc rfl (sn _))))), ⟨(dec_f fun hh => by unfold nodeOk at hh; omega).symm, H4.turn (by repeat constructor)⟩⟩
  have g73p := oT g73
  refine wV (v_fb (o2 := 2) fa69_2 rfl rfl) ?_
  refine wO g73 ?_
  refine wV (v_load one9 rfl (H4.at (by repeat constructor) rfl)) ?_
  refine wO g73 ?_
  refine wV (v_lens Try.underlying9 rfl) ?_
  refine wO g73 ?_
  refine wV (v_geq rfl rfl) ?_
  refine wV (v_pick_t rfl g73 rfl) ?_
  refine wM ?_
  refine wl_guard rfl rfl rfl (fun g79 => ?_) (fun g79 => ?_)
  rotate_left
  ·have g79p := oF g79
   refine wF g79 ?_
   refine wF g79 ?_
   refine wF g79 ?_
   refine wV (v_pick_f rfl g79 rfl) ?_
   refine wA ?_
   refine wl_nil ?_
   first
     | exact ⟨_, (sc rfl (sc rfl (sc rfl (sc rfl (sn _))))), ⟨dec_eq ⟨fun hd => by (have h_ := oT hd; unfold nodeOk; omega), fun hh => decide_eq_true (by unfold nodeOk at hh; omega)⟩, H4.turn (by repeat constructor)⟩⟩
     | exact ⟨_, (sc rfl (sc rfl (sc rfl (sc rfl (sn _))))), ⟨(dec_f fun hh => by unfold nodeOk at hh; omega).symm, H4.turn (by repeat constructor)⟩⟩
  have g79p := oT g79
  refine wV (v_fb (o2 := 2) fa69_2 rfl rfl) ?_
  refine wO g79 ?_
  refine wV (v_load one9 rfl (H4.at (by repeat constructor) rfl)) ?_
  refine wO g79 ?_
  refine wV (v_lens Try.underlying9 rfl) ?_
  refine wO g79 ?_
  refine wV (v_leq rfl rfl) ?_
  refine wV (v_pick_t rfl g79 rfl) ?_
  refine wA ?_
  refine wl_nil ?_
  first
    | exact ⟨_, (sc rfl (sc rfl (sc rfl (sc rfl (sn _))))), ⟨dec_eq ⟨fun hd => by (have h_ := oT hd; unfold nodeOk; omega), fun hh => decide_eq_true (by unfold nodeOk at hh; omega)⟩, H4.turn (by repeat constructor)⟩⟩
    | exact ⟨_, (sc rfl (sc rfl (sc rfl (sc rfl (sn _))))), ⟨(dec_f fun hh => by unfold nodeOk at hh; omega).symm, H4.turn (by repeat constructor)⟩⟩

theorem parts_calls : ∀ t : Ac, PartsOk t := Tr.ind fun x kids ih => fun w0 w L B b k n syms hk hr hn HH => parts_step (t := .mk x kids) hk hr hn HH ih
end Go.Proofs.Ytgdemplcpcacaaa.PartsW

/-! Which rows of texts are kinds, or rules' names. -/
namespace Go.Proofs.Ytgdemplcpcacaaa.KindsW
open Go Go.RowKit Go.Proofs.YtgdemplcpcacaaaFx Go.Proofs.Ytgdemplcpcacaaa.NameW
theorem en82 : Enters Try.prog 82 := enters Try.func82 (by kernel_rfl) rfl
theorem one9 : One Try.prog 9 := one_of Try.underlying9 rfl (by kernel_rfl)
theorem sz9 : ∀ W, (sizeOf 9).run Try.prog W = .ok 1 W := size_of (by kernel_rfl)
theorem zv4 : ∀ W, (zeroValue 4).run Try.prog W = .ok (.bool false) W := zero_of (by kernel_rfl)

noncomputable abbrev KS : KeyK Try.prog 9 ByteArray := keyStr Try.underlying9

set_option maxHeartbeats 1600000 in
set_option maxRecDepth 100000 in
theorem kinds_calls {A : Option Addr} {c : Nat} {l : List ByteArray} {w : World} (hr : Rd kStr w A l) (hl : l.length ≤ 1099511627776) (hs : ∀ s ∈ l, s.size ≤ 1099511627776) :
    Calls Try.prog 60 #[.slice A l.length c] w fun e w' => ∃ v, e = .returned v ∧ v = .int .i64 (if dec (KindsOk l) then 0 else 70) ∧ Holds w [] w' := by
  refine calls_of Try.func60 rfl Try.ntmps60 rfl ?_
  have H := Holds.start w
  refine wcR ?_
  refine wA ?_
  refine wl_nil ?_
  refine wc_seq ?_
  refine wcR ?_
  refine wM ?_
  refine wV (v_len Try.underlying40 rfl) ?_
  refine wV (v_lss rfl rfl) ?_
  refine wM ?_
  refine wl_guard rfl rfl rfl (fun g9 => ?_) (fun g9 => ?_)
  rotate_left
  ·have g9p := oT g9
   refine wF g9 ?_
   refine wF g9 ?_
   refine wV (v_pick_t rfl g9 rfl) ?_
   refine wM ?_
   refine wF rfl ?_
   refine wF rfl ?_
   refine wF rfl ?_
   refine wF rfl ?_
   refine wV (v_pick_t rfl rfl rfl) ?_
   refine wM ?_
   refine wF rfl ?_
   refine wF rfl ?_
   refine wF rfl ?_
   refine wF rfl ?_
   refine wV (v_pick_t rfl rfl rfl) ?_
   refine wl_nil ?_
   refine wc_cond_t rfl ?_
   refine wcR ?_
   refine wA ?_
   refine wl_nil ?_
   refine wc_ret ?_
   first
     | exact ⟨_, res1 rfl rfl, by rw [dec_f fun hh => of_ndec g36p (hh.2 i (by omega)).1]; rfl, H.pm (Pm.nil _)⟩
     | exact ⟨_, res1 rfl rfl, by rw [dec_f fun hh => (dist_iff (by omega)).1 (hh.2 i (by omega)).2 (of_dec c2)]; rfl, H.pm (Pm.nil _)⟩
     | exact ⟨_, res1 rfl rfl, by rw [dec_t ⟨by assumption, fun j hj => ha j (by omega)⟩]; rfl, H.pm (Pm.nil _)⟩
     | exact ⟨_, res1 rfl rfl, by rw [dec_f fun hh => by obtain ⟨⟨h1, h2, h3, h4⟩, _⟩ := hh; first | omega | exact absurd h3 (by assumption) | exact absurd h4 (by assumption)]; rfl, H.pm (Pm.nil _)⟩
  have g9p := oF g9
  refine wM ?_
  refine wO g9 ?_
  refine wV (v_len Try.underlying40 rfl) ?_
  refine wO g9 ?_
  refine wV (v_gtr rfl rfl) ?_
  refine wV (v_pick_f rfl g9 rfl) ?_
  refine wM ?_
  refine wl_guard rfl rfl rfl (fun g14 => ?_) (fun g14 => ?_)
  rotate_left
  ·have g14p := oT g14
   refine wF g14 ?_
   refine wF g14 ?_
   refine wF g14 ?_
   refine wV (v_pick_t rfl g14 rfl) ?_
   refine wM ?_
   refine wF rfl ?_
   refine wF rfl ?_
   refine wF rfl ?_
   refine wF rfl ?_
   refine wV (v_pick_t rfl rfl rfl) ?_
   refine wl_nil ?_
   refine wc_cond_t rfl ?_
   refine wcR ?_
   refine wA ?_
   refine wl_nil ?_
   refine wc_ret ?_
   first
     | exact ⟨_, res1 rfl rfl, by rw [dec_f fun hh => of_ndec g36p (hh.2 i (by omega)).1]; rfl, H.pm (Pm.nil _)⟩
     | exact ⟨_, res1 rfl rfl, by rw [dec_f fun hh => (dist_iff (by omega)).1 (hh.2 i (by omega)).2 (of_dec c2)]; rfl, H.pm (Pm.nil _)⟩
     | exact ⟨_, res1 rfl rfl, by rw [dec_t ⟨by assumption, fun j hj => ha j (by omega)⟩]; rfl, H.pm (Pm.nil _)⟩
     | exact ⟨_, res1 rfl rfl, by rw [dec_f fun hh => by obtain ⟨⟨h1, h2, h3, h4⟩, _⟩ := hh; first | omega | exact absurd h3 (by assumption) | exact absurd h4 (by assumption)]; rfl, H.pm (Pm.nil _)⟩
  have g14p := oF g14
  refine wM ?_
  refine wO g14 ?_
  refine wV (v_idx Try.underlying40 sz9 hr.ad rfl rfl (by omega) (by omega)) ?_
  refine wO g14 ?_
  refine wV (v_load one9 rfl (H.cell (hr.at1sN (i := 0) (by omega)))) ?_
  refine wO g14 ?_
  refine wV (v_neqs rfl rfl) ?_
  refine wV (v_pick_f rfl g14 rfl) ?_
  refine wM ?_
  refine wl_guard rfl rfl rfl (fun g20 => ?_) (fun g20 => ?_)
  rotate_left
  ·have g20p := of_nd_t g20
   refine wF g20 ?_
   refine wF g20 ?_
   refine wF g20 ?_
   refine wV (v_pick_t rfl g20 rfl) ?_
   refine wl_nil ?_
   refine wc_cond_t rfl ?_
   refine wcR ?_
   refine wA ?_
   refine wl_nil ?_
   refine wc_ret ?_
   first
     | exact ⟨_, res1 rfl rfl, by rw [dec_f fun hh => of_ndec g36p (hh.2 i (by omega)).1]; rfl, H.pm (Pm.nil _)⟩
     | exact ⟨_, res1 rfl rfl, by rw [dec_f fun hh => (dist_iff (by omega)).1 (hh.2 i (by omega)).2 (of_dec c2)]; rfl, H.pm (Pm.nil _)⟩
     | exact ⟨_, res1 rfl rfl, by rw [dec_t ⟨by assumption, fun j hj => ha j (by omega)⟩]; rfl, H.pm (Pm.nil _)⟩
     | exact ⟨_, res1 rfl rfl, by rw [dec_f fun hh => by obtain ⟨⟨h1, h2, h3, h4⟩, _⟩ := hh; first | omega | exact absurd h3 (by assumption) | exact absurd h4 (by assumption)]; rfl, H.pm (Pm.nil _)⟩
  have g20p := of_nd_f g20
  refine wM ?_
  refine wO g20 ?_
  refine wV (v_idx Try.underlying40 sz9 hr.ad rfl rfl (by omega) (by omega)) ?_
  refine wO g20 ?_
  refine wV (v_load one9 rfl (H.cell (hr.at1sN (i := 1) (by omega)))) ?_
  refine wO g20 ?_
  refine wV (v_neqs rfl rfl) ?_
  refine wV (v_pick_f rfl g20 rfl) ?_
  refine wl_nil ?_
  refine wc_cond rfl (fun c0 => ?_) (fun c0 => ?_)
  ·have c0p := of_nd_t c0
   refine wcR ?_
   refine wA ?_
   refine wl_nil ?_
   refine wc_ret ?_
   first
     | exact ⟨_, res1 rfl rfl, by rw [dec_f fun hh => of_ndec g36p (hh.2 i (by omega)).1]; rfl, H.pm (Pm.nil _)⟩
     | exact ⟨_, res1 rfl rfl, by rw [dec_f fun hh => (dist_iff (by omega)).1 (hh.2 i (by omega)).2 (of_dec c2)]; rfl, H.pm (Pm.nil _)⟩
     | exact ⟨_, res1 rfl rfl, by rw [dec_t ⟨by assumption, fun j hj => ha j (by omega)⟩]; rfl, H.pm (Pm.nil _)⟩
     | exact ⟨_, res1 rfl rfl, by rw [dec_f fun hh => by obtain ⟨⟨h1, h2, h3, h4⟩, _⟩ := hh; first | omega | exact absurd h3 (by assumption) | exact absurd h4 (by assumption)]; rfl, H.pm (Pm.nil _)⟩
  have c0p := of_nd_f c0
  have hfirst : 2 ≤ l.length ∧ l.length ≤ 1024 ∧ l.getD 0 ByteArray.empty = ⟨#[101, 110, 100]⟩ ∧ l.getD 1 ByteArray.empty = ⟨#[101, 114, 114, 111, 114]⟩ := ⟨by omega, by omega, by assumption, by assumption⟩
  refine wc_skip ?_
  refine wcR ?_
  refine wl_mkmap KS Value.bool H rfl ?_
  intro bm w1 hbm H1
  refine wA ?_
  refine wl_nil ?_
  refine wc_seq ?_
  refine wcR ?_
  refine wM ?_
  refine wV (v_len Try.underlying40 rfl) ?_
  refine wM ?_
  refine wl_nil ?_
  refine wc_block ?_
  refine wc_loop (σ := Nat) (fun s => [(0, .slice A l.length c), (3, .map (some bm)), (27, .slice A l.length c), (28, .int .i64 l.length), (29, .int .i64 s)]) (fun s W => s ≤ l.length ∧ (∀ j, j < s → NameOk 64 (l.getD j ByteArray.empty) ∧ Dist l j) ∧ Holds w [Mp KS Value.bool bm s (metF (l.take s))] W) (fun s => l.length - s) 0 (sc rfl (sc rfl (sc rfl (sc rfl (sc rfl (sn _)))))) ⟨Nat.zero_le _, upto_zero, by rw [metF_nil] at H1; exact H1⟩ ?_
  rintro i W0 ⟨hi, ha, H⟩
  refine wcR ?_
  refine wV (v_lss rfl rfl) ?_
  refine wl_nil ?_
  refine wc_seq ?_
  refine wc_cond rfl (fun c1 => ?_) (fun c1 => ?_)
  rotate_left
  ·have c1p := oF c1
   refine wc_exit ?_
   refine wcR ?_
   refine wA ?_
   refine wl_nil ?_
   refine wc_ret ?_
   first
     | exact ⟨_, res1 rfl rfl, by rw [dec_f fun hh => of_ndec g36p (hh.2 i (by omega)).1]; rfl, H.pm (Pm.nil _)⟩
     | exact ⟨_, res1 rfl rfl, by rw [dec_f fun hh => (dist_iff (by omega)).1 (hh.2 i (by omega)).2 (of_dec c2)]; rfl, H.pm (Pm.nil _)⟩
     | exact ⟨_, res1 rfl rfl, by rw [dec_t ⟨by assumption, fun j hj => ha j (by omega)⟩]; rfl, H.pm (Pm.nil _)⟩
     | exact ⟨_, res1 rfl rfl, by rw [dec_f fun hh => by obtain ⟨⟨h1, h2, h3, h4⟩, _⟩ := hh; first | omega | exact absurd h3 (by assumption) | exact absurd h4 (by assumption)]; rfl, H.pm (Pm.nil _)⟩
  have c1p := oT c1
  refine wc_skip ?_
  refine wc_seq ?_
  refine wc_block ?_
  refine wcR ?_
  refine wV (v_idx Try.underlying40 sz9 hr.ad rfl rfl (by omega) (by omega)) ?_
  refine wV (v_load one9 rfl (H.cell (hr.at1sN (i := i) (by omega)))) ?_
  refine wA ?_
  refine wl_nil ?_
  refine wc_seq ?_
  refine wcR ?_
  refine wM ?_
  refine wl_call en82 rfl rfl (named_calls (hs _ (getD_mem (z := ByteArray.empty) (show i < l.length by omega)))) ?_
  rintro _ w2 ⟨rfl, Hc⟩
  have H3 := H.call0 Hc
  refine wV (v_not rfl) ?_
  refine wM ?_
  refine wl_guard rfl rfl rfl (fun g36 => ?_) (fun g36 => ?_)
  rotate_left
  ·have g36p := of_n_t g36
   refine wF g36 ?_
   refine wF g36 ?_
   refine wV (v_pick_t rfl g36 rfl) ?_
   refine wl_nil ?_
   refine wc_cond_t rfl ?_
   refine wcR ?_
   refine wA ?_
   refine wl_nil ?_
   refine wc_ret ?_
   first
     | exact ⟨_, res1 rfl rfl, by rw [dec_f fun hh => of_ndec g36p (hh.2 i (by omega)).1]; rfl, H3.pm (Pm.nil _)⟩
     | exact ⟨_, res1 rfl rfl, by rw [dec_f fun hh => (dist_iff (by omega)).1 (hh.2 i (by omega)).2 (of_dec c2)]; rfl, H3.pm (Pm.nil _)⟩
     | exact ⟨_, res1 rfl rfl, by rw [dec_t ⟨by assumption, fun j hj => ha j (by omega)⟩]; rfl, H3.pm (Pm.nil _)⟩
     | exact ⟨_, res1 rfl rfl, by rw [dec_f fun hh => by obtain ⟨⟨h1, h2, h3, h4⟩, _⟩ := hh; first | omega | exact absurd h3 (by assumption) | exact absurd h4 (by assumption)]; rfl, H3.pm (Pm.nil _)⟩
  have g36p := of_n_f g36
  refine wM ?_
  refine wO g36 ?_
  refine wM ?_
  refine wO g36 ?_
  refine wV (v_look' H3 (by repeat constructor) Try.underlying122 zv4 (show KS.ok (l.getD i ByteArray.empty) from Nat.le_trans (hs _ (getD_mem (z := ByteArray.empty) (show i < l.length by omega))) (by decide)) rfl rfl (metF_get _ _)) ?_
  refine wV (v_pick_f rfl g36 rfl) ?_
  refine wl_nil ?_
  refine wc_cond rfl (fun c2 => ?_) (fun c2 => ?_)
  ·refine wcR ?_
   refine wA ?_
   refine wl_nil ?_
   refine wc_ret ?_
   first
     | exact ⟨_, res1 rfl rfl, by rw [dec_f fun hh => of_ndec g36p (hh.2 i (by omega)).1]; rfl, H3.pm (Pm.nil _)⟩
     | exact ⟨_, res1 rfl rfl, by rw [dec_f fun hh => (dist_iff (by omega)).1 (hh.2 i (by omega)).2 (of_dec c2)]; rfl, H3.pm (Pm.nil _)⟩
     | exact ⟨_, res1 rfl rfl, by rw [dec_t ⟨by assumption, fun j hj => ha j (by omega)⟩]; rfl, H3.pm (Pm.nil _)⟩
     | exact ⟨_, res1 rfl rfl, by rw [dec_f fun hh => by obtain ⟨⟨h1, h2, h3, h4⟩, _⟩ := hh; first | omega | exact absurd h3 (by assumption) | exact absurd h4 (by assumption)]; rfl, H3.pm (Pm.nil _)⟩
  refine wc_skip ?_
  refine wc_region ?_
  refine wM ?_
  refine wM ?_
  refine wl_mapset H3 (by repeat constructor) Try.underlying122 (show KS.ok (l.getD i ByteArray.empty) from Nat.le_trans (hs _ (getD_mem (z := ByteArray.empty) (show i < l.length by omega))) (by decide)) (by unfold maxLen; omega) rfl rfl rfl ?_
  intro w5 H5
  refine wl_nil ?_
  refine wc_region ?_
  refine wV (v_addi rfl rfl (by omega)) ?_
  refine wM ?_
  refine wl_nil ?_
  exact ⟨i + 1, (sc rfl (sc rfl (sc rfl (sc rfl (sc rfl (sn _)))))), ⟨by omega, upto_succ ha ⟨of_dec g36p, (dist_iff (by omega)).2 (of_ndec c2)⟩, by rw [metF_succ (by omega)] at H5; exact H5.pm (by repeat constructor)⟩, by omega⟩
end Go.Proofs.Ytgdemplcpcacaaa.KindsW
