/- The table of one state. -/
import Derived.Test.YtkpehkadammppaaPack
import Derived.Test.YtkpehkadammppaaOrd
set_option linter.unusedVariables false
namespace Go.Proofs.YtkpehkadammppaaFx
open Go Go.RowKit
theorem Holds.rawAt {W0 w : World} {L : List Ch} {e sz n c N : Nat} {A : Option Addr} {cs : List Value} (H : Holds W0 L w) (U : Upd L (Raw e sz (.slice A n c) N cs) (Raw e sz (.slice A n c) N cs) L) : ∀ j u, cs[j]? = some u → w.cell? ((adr A).add j) = some u := by
  obtain ⟨A', c', h, _, _, hc⟩ := own_slice (H.raw U)
  injection h with h1 _ _
  subst h1
  exact hc
/-- A row of one row, opened. -/
theorem Holds.rr1 {α : Type} {f : Fk α} {W0 w : World} {L : List Ch} {e e2 : Nat} {v : Value} {xs : List α} (H : Holds W0 (RR f e e2 v [xs] :: L) w) : ∃ A c B c', v = .slice A 1 c ∧ (0 < 1 → A = some (adr A)) ∧ Holds W0 (Raw e 1 (.slice A 1 c) 1 [.slice B xs.length c'] :: Row f e2 (.slice B xs.length c') xs :: L) w := by
  obtain ⟨vs, hv, H2⟩ := H.rrOpen
  match vs, hv with
  | [u], _ =>
    have H3 : Holds W0 (Raw e 1 v 1 [u] :: Row f e2 u xs :: L) w := H2
    obtain ⟨B, c', rfl⟩ := H3.rform (f := f) (e := e2) (.there _ (.here _ _ _))
    obtain ⟨A, c, rfl, _, hA, _⟩ := own_slice (H3.raw (.here _ _ _))
    exact ⟨A, c, B, c', rfl, hA, H3⟩
theorem rd_blk {α : Type} {f : Fk α} {W0 w : World} {L : List Ch} {b e : Nat} {xs : List α} {cs : List Value} (H : Holds W0 L w) (U : Upd L (Blk b e cs) (Blk b e cs) L) (hcs : cs = xs.flatMap f.enc) : Rd f.kn w (some ⟨b, 0, none⟩) xs :=
  ⟨fun _ => rfl, fun j x hx => ⟨f.enc x, rfl, fun i u hu => H.ats U _ u (by rw [hcs]; exact flat_get f xs j x hx i u hu)⟩⟩
theorem rd_one {α : Type} {d : Kn α} {W0 w : World} {L : List Ch} {b e c : Nat} {A : Option Addr} {xs : List α} (H : Holds W0 L w) (U : Upd L (Blk b e [.slice A xs.length c]) (Blk b e [.slice A xs.length c]) L) (hc : xs.length ≤ c) (hr : Rd d w A xs) : Rd d.sl w (some ⟨b, 0, none⟩) [xs] :=
  ⟨fun _ => rfl, fun j x hx => by
    cases j with
    | zero =>
      simp only [List.getElem?_cons_zero, Option.some.injEq] at hx
      subst hx
      exact ⟨_, ⟨A, c, rfl, hc, hr⟩, fun i u hu => by
        cases i with
        | zero =>
          simp only [List.getElem?_cons_zero, Option.some.injEq] at hu
          subst hu
          exact H.ats U 0 _ rfl
        | succ i => simp at hu⟩
    | succ j => simp at hx⟩
theorem Holds.pk {W0 w : World} {a : PkA} {p : Pk} (H : Holds W0 (OwnP a p) w) : p.rd w a := by
  unfold OwnP at H
  exact ⟨H.rrd (by repeat constructor), H.rrd (by repeat constructor), H.rrd (by repeat constructor), H.rrd (by repeat constructor), H.rrd (by repeat constructor), H.rrd (by repeat constructor), H.rrd (by repeat constructor)⟩
def aT : Tb := ⟨[[⟨2, 0⟩, ⟨0, 0⟩, ⟨2, 0⟩]], [[0]]⟩
theorem aT_ok : aT.ok := ⟨by decide, by decide, fun r hr => by
    have : r = [⟨2, 0⟩, ⟨0, 0⟩, ⟨2, 0⟩] := by simpa [aT] using hr
    subst this
    exact ⟨by decide, fun m hm => by simp only [List.mem_cons, List.not_mem_nil, or_false] at hm; rcases hm with rfl | rfl | rfl <;> (unfold I64; decide)⟩, fun r hr => by
    have : r = [0] := by simpa [aT] using hr
    subst this
    exact ⟨by decide, fun m hm => by simp at hm; subst hm; unfold I64; decide⟩⟩
theorem aT_rd {W0 w : World} {b11 b12 b13 b14 : Nat} (H : Holds W0 [Blk b12 38 [.slice (some ⟨b11, 0, none⟩) 3 3], Blk b11 48 [.int .i64 2, .int .i64 0, .int .i64 0, .int .i64 0, .int .i64 2, .int .i64 0], Blk b14 39 [.slice (some ⟨b13, 0, none⟩) 1 1], Blk b13 3 [.int .i64 0]] w) : aT.rd w (some ⟨b12, 0, none⟩) (some ⟨b14, 0, none⟩) :=
  ⟨rd_one (A := some ⟨b11, 0, none⟩) (c := 3) (e := 38) H (.here _ _ _) (by decide) (rd_blk (f := fMv) (e := 48) H (.there _ (.here _ _ _)) rfl), rd_one (A := some ⟨b13, 0, none⟩) (c := 1) (e := 39) H (.there _ (.there _ (.here _ _ _))) (by decide) (rd_blk (f := fInt .i64) (e := 3) H (.there _ (.there _ (.there _ (.here _ _ _)))) rfl)⟩
theorem aT_rect : Rect aT := ⟨by decide, by decide, by decide, fun s hs => by
  have : s = 0 := by have : aT.mv.length = 1 := rfl; omega
  subst this
  exact ⟨rfl, rfl⟩⟩
def aD : Tb := ⟨[[⟨2, 0⟩, ⟨2, 0⟩, ⟨2, 0⟩]], [[0]]⟩
theorem aT_df : dfAns aT = aD ∧ dfErr aT = 0 := by
  obtain ⟨h1, h2⟩ := dfAns_t (dec_t aT_rect)
  rw [h1, h2]
  exact ⟨by decide, rfl⟩
theorem aT_good : TGood aT 3 1 1 := ⟨by decide, by decide, by decide, fun s hs => by
  have : s = 0 := by have : aT.mv.length = 1 := rfl; omega
  subst this
  refine ⟨rfl, rfl, fun j hj => ?_, fun j hj => ?_⟩
  · have hj : j < 3 := hj
    rcases (by omega : j = 0 ∨ j = 1 ∨ j = 2) with rfl | rfl | rfl
    · exact .inr (.inl ⟨rfl, by decide, by decide⟩)
    · exact .inr (.inr ⟨.inl rfl, rfl⟩)
    · exact .inr (.inl ⟨rfl, by decide, by decide⟩)
  · have hj : j < 1 := hj
    have : j = 0 := by omega
    subst this
    exact ⟨by decide, by decide⟩⟩
theorem aT_check : checkF aT 3 1 1 = 0 := checkF_ok (by omega) aT_good
def aP : Pk := packF aT 3 1 [0] [0]
theorem aP_is : pkAns aT 3 1 1 [0] [0] = aP := by rw [pkAns, if_pos aT_check]; rfl
theorem aP_mv : lookMv aP 0 2 = ⟨2, 0⟩ := by decide
theorem aP_go : lookGo aP 0 0 = 0 := by decide
theorem aP_ok : aP.ok := ⟨by unfold I64; decide, by unfold I64; decide, by decide, by decide, by decide, by decide, by decide, by decide, by decide, fun x hx => by
  have : aP.base = [0] := by decide
  rw [this] at hx; simp at hx; subst hx; unfold I64; decide, fun x hx => by
  have : aP.gbase = [0] := by decide
  rw [this] at hx; simp at hx; subst hx; unfold I64; decide⟩
end Go.Proofs.YtkpehkadammppaaFx
