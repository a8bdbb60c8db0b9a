/- The law on bytes. -/
import Derived.Test.YtkpehkadammppaaProg
import Derived.Test.YtkpehkadammppaaReadW
import Derived.Test.YtkpehkadammppaaRReadW
import Derived.Test.YtkpehkadammppaaTabA
import Derived.Test.YtkpehkadammppaaAliveW
import Derived.Test.YtkpehkadammppaaEq2
import Derived.Test.YtkpehkadammppaaChks
set_option linter.unusedVariables false
set_option linter.unusedSimpArgs false
namespace Go.Proofs.Ytkpehkadammppaa.TWrites
open Go Go.RowKit Go.Proofs.YtkpehkadammppaaFx Go.Proofs.Ytkpehkadammppaa.ReadW Go.Proofs.Ytkpehkadammppaa.RReadW Go.Proofs.Ytkpehkadammppaa.TabA Go.Proofs.Ytkpehkadammppaa.AliveW Go.Proofs.Ytkpehkadammppaa.BytesW
theorem agg25 : Agg Try.prog 25 2 := agg_of Try.underlying25 (by kernel_rfl)
theorem agg70 : Agg Try.prog 70 2 := agg_of Try.underlying70 (by kernel_rfl)
theorem ba70 : BuildAt Try.prog 70 [.int .i64 0, .int .i64 0] [(0, 1), (1, 1)] := build_at Try.underlying70 (by kernel_rfl) (by kernel_rfl)
theorem en14 : Enters Try.prog 14 := enters Try.func14 (by kernel_rfl) rfl
theorem en15 : Enters Try.prog 15 := enters Try.func15 (by kernel_rfl) rfl
theorem en27 : Enters Try.prog 27 := enters Try.func27 (by kernel_rfl) rfl
theorem en28 : Enters Try.prog 28 := enters Try.func28 (by kernel_rfl) rfl
theorem en29 : Enters Try.prog 29 := enters Try.func29 (by kernel_rfl) rfl
theorem en30 : Enters Try.prog 30 := enters Try.func30 (by kernel_rfl) rfl
theorem en31 : Enters Try.prog 31 := enters Try.func31 (by kernel_rfl) rfl
theorem eqm70 : EqlMv Try.prog 70 := eql_mv2 (e := 28) (e2 := 3) Try.underlying70 (by kernel_rfl) (by kernel_rfl) Try.underlying28 Try.underlying3 rfl rfl
theorem sz25 : ∀ W, (sizeOf 25).run Try.prog W = .ok 2 W := size_of (by kernel_rfl)
theorem sz70 : ∀ W, (sizeOf 70).run Try.prog W = .ok 2 W := size_of (by kernel_rfl)
theorem zv25 : ∀ W, (zeroValue 25).run Try.prog W = .ok (.agg #[.slice none 0 0, .slice none 0 0]) W := zero_of (by kernel_rfl)
theorem zv70 : ∀ W, (zeroValue 70).run Try.prog W = .ok (.agg #[.int .i64 0, .int .i64 0]) W := zero_of (by kernel_rfl)

theorem rdT_ok {bs : List Int} (hB : Bytes bs) (hl : bs.length ≤ 1048573) : (rdT bs).ok := by
  cases h : readP bs with
  | none =>
    rw [(rd_none h).1]
    exact ⟨by decide, by decide, fun r hr => by simp at hr, fun r hr => by simp at hr⟩
  | some t =>
    rw [(rd_some h).1]
    have h1 := h
    unfold readP at h1
    rw [Option.bind_eq_some_iff] at h1
    obtain ⟨⟨⟨s, k, u⟩, t', r⟩, h2, h3⟩ := h1
    obtain ⟨hby, htb⟩ := readP_some hB h
    split at h3
    · injection h3 with h3
      dsimp only at h3
      subst h3
      obtain ⟨_, l1, l2, l3, l4⟩ := pAll_is hB h2
      obtain ⟨g1, g2, g3⟩ := tbB_ge hby
      rw [htb] at g1 g2 g3
      have hk : (t'.mv.getD 0 []).length = k := (l3 _ (getD_mem hby.1.1)).1
      have hu : (t'.go.getD 0 []).length = u := (l4 _ (getD_mem (by have := hby.1.2.2.1; have := hby.1.1; omega))).1
      refine ⟨by omega, by omega, fun r hr => ⟨by have := (l3 r hr).1; omega, fun m hm => ?_⟩, fun r hr => ⟨by have := (l4 r hr).1; omega, fun x hx => ?_⟩⟩
      · obtain ⟨m1, m2, m3, m4⟩ := (l3 r hr).2 m hm
        exact ⟨⟨by omega, by omega⟩, ⟨by omega, by omega⟩⟩
      · obtain ⟨m1, m2⟩ := (l4 r hr).2 x hx
        exact ⟨by omega, by omega⟩
    · cases h3
theorem fault_eq (bs : List Int) : (decide ((⟨rdE bs, 0⟩ : Mv) = ⟨0, 0⟩) == (readP bs).isSome) = true := by
  unfold rdE
  cases (readP bs).isSome
  · simp
  · simp

set_option maxRecDepth 100000 in
theorem equal_calls {A B : Option Addr} {ca cb : Nat} {xs ys : List Int} {w : World} (hx : Rd (kInt .u8) w A xs) (hy : Rd (kInt .u8) w B ys) (bx : Bytes xs) (by' : Bytes ys) :
    Calls Try.prog 31 #[.slice A xs.length ca, .slice B ys.length cb] w fun e w' => ∃ v, e = .returned v ∧ v = .bool (decide (xs = ys)) ∧ Holds w [] w' := by
  refine calls_of Try.func31 rfl Try.ntmps31 rfl ?_
  have H := Holds.start w
  refine wc_seq ?_
  refine wc_region ?_
  refine wl_v rfl rfl rfl (v_assign rfl) ?_
  refine wl_nil ?_
  refine wc_seq ?_
  refine wc_region ?_
  refine wl_v rfl rfl rfl (v_move rfl) ?_
  refine wl_v rfl rfl rfl (v_b2s Try.underlying64 Try.underlying5 Try.underlying9 hx rfl) ?_
  refine wl_v rfl rfl rfl (v_move rfl) ?_
  refine wl_v rfl rfl rfl (v_b2s Try.underlying64 Try.underlying5 Try.underlying9 hy rfl) ?_
  refine wl_v rfl rfl rfl (v_eqls rfl rfl) ?_
  refine wl_v rfl rfl rfl (v_assign rfl) ?_
  refine wl_nil ?_
  refine wc_ret ?_
  exact ⟨_, res1 rfl rfl, congrArg Value.bool (decide_eq_decide.2 ⟨fun h => strOf_inj bx by' h, fun h => by rw [h]⟩), H⟩

set_option maxHeartbeats 1600000 in
set_option maxRecDepth 100000 in
theorem tableWrites_calls {A B R : Option Addr} {ca cb cr : Nat} {t : Tb} {bs : List Int} {w : World} (hx : t.rd w A B) (hs : BSm t) (hr : Rd (kInt .u8) w R bs) (hB : Bytes bs) (hl : bs.length ≤ 1048573) (hcap : bs.length ≤ cr) :
    Calls Try.prog 8 #[t.val A B ca cb, .slice R bs.length cr] w fun e w' => ∃ v, e = .returned v ∧ v = .bool true ∧ Holds w [] w' := by
  have hok := rdT_ok hB hl
  have hbb : Bytes (bytesA t) := by
    unfold bytesA
    split
    · exact tbB_bytes t
    · exact fun x hx => by simp at hx
  refine calls_of Try.func8 rfl Try.ntmps8 rfl ?_
  have H := Holds.start w
  refine wc_seq ?_
  refine wc_region ?_
  refine wl_box (cs := [_, _]) H rfl rfl rfl ?_
  intro b2 w1 hb2 H2
  refine wl_v rfl rfl rfl (v_assign rfl) ?_
  refine wl_nil ?_
  refine wc_seq ?_
  refine wc_region ?_
  refine wl_v rfl rfl rfl (v_loadN agg25 rfl rfl (H2.ats (by repeat constructor))) ?_
  refine wl_call en27 rfl rfl (bytes_calls (hx.below H2.old) hs) ?_
  rintro _ w3 ⟨A15, z15, rfl, Hc⟩
  have H4 := H2.call Hc
  refine wl_v rfl rfl rfl (v_move rfl) ?_
  refine wl_v rfl rfl rfl (v_extract rfl rfl) ?_
  refine wl_v rfl rfl rfl (v_extract rfl rfl) ?_
  refine wl_v rfl rfl rfl (v_assign rfl) ?_
  refine wl_v rfl rfl rfl (v_assign rfl) ?_
  refine wl_nil ?_
  refine wc_seq ?_
  refine wc_region ?_
  refine wl_v rfl rfl rfl (v_loadN agg25 rfl rfl (H4.ats (by repeat constructor))) ?_
  refine wl_call en28 rfl rfl (rbytes_calls (hx.below H4.old) hs) ?_
  rintro _ w5 ⟨A20, z20, rfl, Hc⟩
  have H6 := H4.call Hc
  refine wl_v rfl rfl rfl (v_move rfl) ?_
  refine wl_v rfl rfl rfl (v_extract rfl rfl) ?_
  refine wl_v rfl rfl rfl (v_extract rfl rfl) ?_
  refine wl_v rfl rfl rfl (v_assign rfl) ?_
  refine wl_v rfl rfl rfl (v_assign rfl) ?_
  refine wl_nil ?_
  refine wc_seq ?_
  refine wc_region ?_
  refine wl_v rfl rfl rfl (v_move rfl) ?_
  refine wl_call en29 rfl rfl (read_calls (hr.below H6.old) hB hl hcap) ?_
  rintro _ w7 ⟨v1, v2, rfl, Hc⟩
  have H8 := H6.call Hc
  obtain ⟨A1, k1, rfl, _⟩ := H8.rr (f := fMv) (e := 38) (e2 := 48) (v := v1) (xss := (rdT bs).mv) (by repeat constructor)
  obtain ⟨A2, k2, rfl, _⟩ := H8.rr (f := fInt .i64) (e := 39) (e2 := 3) (v := v2) (xss := (rdT bs).go) (by repeat constructor)
  refine wl_v rfl rfl rfl (v_move rfl) ?_
  refine wl_v rfl rfl rfl (v_extract rfl rfl) ?_
  refine wl_v rfl rfl rfl (v_extract rfl rfl) ?_
  refine wl_alloc (cs := [.slice none 0 0, .slice none 0 0]) H8 rfl zv25 rfl ?_
  intro b9 w9 hb9 H10
  refine wl_alloc (cs := [.int .i64 0, .int .i64 0]) H10 rfl zv70 rfl ?_
  intro b10 w11 hb10 H12
  refine wl_store (vs := [_, _]) H12 (by repeat constructor) sz25 rfl rfl rfl rfl rfl (by (repeat constructor)) ?_
  intro w13 H14 hw13
  refine wl_store (vs := [_, _]) H14 (by repeat constructor) sz70 rfl rfl rfl rfl rfl (by (repeat constructor)) ?_
  intro w15 H16 hw15
  refine wl_nil ?_
  refine wc_seq ?_
  refine wc_region ?_
  refine wl_v rfl rfl rfl (v_move rfl) ?_
  refine wl_call en30 rfl rfl (rread_calls (hr.below H16.old) hB hl) ?_
  rintro _ w17 ⟨v1, v2, rfl, Hc⟩
  have H18 := H16.call Hc
  obtain ⟨A3, k3, rfl, _⟩ := H18.rr (f := fMv) (e := 38) (e2 := 48) (v := v1) (xss := (rdT bs).mv) (by repeat constructor)
  obtain ⟨A4, k4, rfl, _⟩ := H18.rr (f := fInt .i64) (e := 39) (e2 := 3) (v := v2) (xss := (rdT bs).go) (by repeat constructor)
  refine wl_v rfl rfl rfl (v_move rfl) ?_
  refine wl_v rfl rfl rfl (v_extract rfl rfl) ?_
  refine wl_v rfl rfl rfl (v_extract rfl rfl) ?_
  refine wl_alloc (cs := [.slice none 0 0, .slice none 0 0]) H18 rfl zv25 rfl ?_
  intro b11 w19 hb11 H20
  refine wl_store (vs := [_, _]) H20 (by repeat constructor) sz25 rfl rfl rfl rfl rfl (by (repeat constructor)) ?_
  intro w21 H22 hw21
  refine wl_v rfl rfl rfl (v_assign rfl) ?_
  refine wl_nil ?_
  refine wc_seq ?_
  refine wc_region ?_
  refine wl_v rfl rfl rfl (v_move rfl) ?_
  refine wl_v rfl rfl rfl (v_move rfl) ?_
  refine wl_call en31 rfl rfl (equal_calls (H22.rrd (f := fInt .u8) (e := 5) (A := A15) (xs := bytesA t) (by repeat constructor)) (H22.rrd (f := fInt .u8) (e := 5) (A := A20) (xs := bytesA t) (by repeat constructor)) hbb hbb) ?_
  rintro _ w23 ⟨rfl, Hc⟩
  have H24 := H22.call Hc
  refine wl_v rfl rfl rfl (v_move rfl) ?_
  refine wl_guard rfl rfl rfl (fun g36 => ?_) (fun g36 => ?_)
  · have g36p := of_decide_eq_true g36
    refine wl_v rfl rfl rfl (v_move rfl) ?_
    refine wl_on' rfl rfl g36 ?_
    refine wl_v rfl rfl rfl (v_move rfl) ?_
    refine wl_on' rfl rfl g36 ?_
    refine wl_v rfl rfl rfl (v_eql rfl rfl) ?_
    refine wl_v rfl rfl rfl (v_pick_t rfl g36 rfl) ?_
    refine wl_v rfl rfl rfl (v_move rfl) ?_
    refine wl_guard rfl rfl rfl (fun g41 => ?_) (fun g41 => ?_)
    · have g41p := of_decide_eq_true g41
      refine wl_v rfl rfl rfl (v_loadN agg25 rfl rfl (H24.ats (by repeat constructor))) ?_
      refine wl_on' rfl rfl g41 ?_
      refine wl_v rfl rfl rfl (v_loadN agg25 rfl rfl (H24.ats (by repeat constructor))) ?_
      refine wl_on' rfl rfl g41 ?_
      refine wl_call en14 rfl rfl (same_calls ⟨H24.rrR (f := fMv) (e := 38) (e2 := 48) (A := A1) (xss := (rdT bs).mv) (by repeat constructor), H24.rrR (f := fInt .i64) (e := 39) (e2 := 3) (A := A2) (xss := (rdT bs).go) (by repeat constructor)⟩ ⟨H24.rrR (f := fMv) (e := 38) (e2 := 48) (A := A3) (xss := (rdT bs).mv) (by repeat constructor), H24.rrR (f := fInt .i64) (e := 39) (e2 := 3) (A := A4) (xss := (rdT bs).go) (by repeat constructor)⟩ hok hok) ?_
      rintro _ w25 ⟨rfl, Hc⟩
      have H26 := H24.call Hc
      refine wl_v rfl rfl rfl (v_pick_t rfl g41 rfl) ?_
      refine wl_v rfl rfl rfl (v_move rfl) ?_
      refine wl_guard rfl rfl rfl (fun g46 => ?_) (fun g46 => ?_)
      · have g46p := of_decide_eq_true g46
        refine wl_v rfl rfl rfl (v_loadN agg70 rfl rfl (H26.ats (by repeat constructor))) ?_
        refine wl_on' rfl rfl g46 ?_
        refine wl_v rfl rfl rfl (v_bld ba70 rfl (by repeat constructor)) ?_
        refine wl_on' rfl rfl g46 ?_
        refine wl_v rfl rfl rfl (v_eqlm (a := ⟨rdE bs, 0⟩) (b := ⟨0, 0⟩) eqm70 rfl rfl) ?_
        refine wl_on' rfl rfl g46 ?_
        refine wl_v rfl rfl rfl (v_move rfl) ?_
        refine wl_on' rfl rfl g46 ?_
        refine wl_v rfl rfl rfl (v_eqlb Try.underlying4 rfl rfl) ?_
        refine wl_v rfl rfl rfl (v_pick_t rfl g46 rfl) ?_
        refine wl_v rfl rfl rfl (v_move rfl) ?_
        refine wl_guard rfl rfl rfl (fun g53 => ?_) (fun g53 => ?_)
        · refine wl_v rfl rfl rfl (v_move rfl) ?_
          refine wl_on' rfl rfl g53 ?_
          refine wl_v rfl rfl rfl (v_move rfl) ?_
          refine wl_guard rfl rfl rfl (fun g55 => ?_) (fun g55 => ?_)
          · refine wl_v rfl rfl rfl (v_loadN agg70 rfl rfl (H26.ats (by repeat constructor))) ?_
            refine wl_on' rfl rfl g55 ?_
            refine wl_v rfl rfl rfl (v_bld ba70 rfl (by repeat constructor)) ?_
            refine wl_on' rfl rfl g55 ?_
            refine wl_v rfl rfl rfl (v_eqlm (a := ⟨rdE bs, 0⟩) (b := ⟨170, 0⟩) eqm70 rfl rfl) ?_
            refine wl_on' rfl rfl g53 ?_
            refine wl_v rfl rfl rfl (v_pick_f rfl g55 rfl) ?_
            refine wl_v rfl rfl rfl (v_pick_t rfl g53 rfl) ?_
            refine wl_v rfl rfl rfl (v_move rfl) ?_
            refine wl_guard rfl rfl rfl (fun g61 => ?_) (fun g61 => ?_)
            · have g61p := of_decide_eq_true g61
              refine wl_call en15 rfl rfl (alive_calls) ?_
              rintro _ w27 ⟨rfl, Hc⟩
              have H28 := H26.call Hc
              refine wl_v rfl rfl rfl (v_pick_t rfl g61 rfl) ?_
              refine wl_v rfl rfl rfl (v_assign rfl) ?_
              refine wl_nil ?_
              refine wc_ret ?_
              exact ⟨_, res1 rfl rfl, rfl, H28.pm (Pm.nil _)⟩
            · have g61p := of_decide_eq_false g61
              exact absurd (by unfold rdE; rw [g55]; rfl) g61p
          · refine wl_off rfl rfl g55 rfl ?_
            refine wl_off rfl rfl g55 rfl ?_
            refine wl_on' rfl rfl g53 ?_
            refine wl_v rfl rfl rfl (v_pick_t rfl g55 rfl) ?_
            refine wl_v rfl rfl rfl (v_pick_t rfl g53 rfl) ?_
            refine wl_v rfl rfl rfl (v_move rfl) ?_
            refine wl_on' rfl rfl rfl ?_
            refine wl_call en15 rfl rfl (alive_calls) ?_
            rintro _ w29 ⟨rfl, Hc⟩
            have H30 := H26.call Hc
            refine wl_v rfl rfl rfl (v_pick_t rfl rfl rfl) ?_
            refine wl_v rfl rfl rfl (v_assign rfl) ?_
            refine wl_nil ?_
            refine wc_ret ?_
            exact ⟨_, res1 rfl rfl, rfl, H30.pm (Pm.nil _)⟩
        · rw [fault_eq] at g53; cases g53
      · have g46p := of_decide_eq_false g46
        exact absurd rfl g46p
    · have g41p := of_decide_eq_false g41
      exact absurd rfl g41p
  · have g36p := of_decide_eq_false g36
    exact absurd rfl g36p
end Go.Proofs.Ytkpehkadammppaa.TWrites
