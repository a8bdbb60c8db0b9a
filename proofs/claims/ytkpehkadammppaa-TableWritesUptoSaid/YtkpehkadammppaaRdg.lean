/- How a reading of bytes goes on: what is so of its state. -/
import Derived.Test.YtkpehkadammppaaParse
set_option linter.unusedVariables false
namespace Go.Proofs.YtkpehkadammppaaFx
open Go Go.RowKit
/-- One number more. -/
structure Nx (b0 : List Int) (bad0 : Bool) (n : Nat) (b1 : List Int) (bad1 : Bool) : Prop where
  good : bad1 = false → bad0 = false ∧ num b0 = some (n, b1) ∧ b1.length < b0.length
  bad : bad1 = true → bad0 = true ∨ num b0 = none
  le : n ≤ 2147483647
  byt : Bytes b1
  len : b1.length ≤ b0.length
theorem numS_nx {b0 : List Int} (bad : Bool) (hB : Bytes b0) : Nx b0 bad (numS b0 bad).1 (numS b0 bad).2.1 (numS b0 bad).2.2 := by
  cases h : num b0 with
  | none =>
    rw [numS_none h]
    exact ⟨fun h => (by cases h), fun _ => .inr h, Nat.zero_le _, hB, Nat.le_refl _⟩
  | some x =>
    obtain ⟨n, r⟩ := x
    obtain ⟨h1, h2, h3⟩ := num_rest hB h
    rw [numS_some h]
    exact ⟨fun hb => ⟨hb, h, h2⟩, fun hb => .inl hb, h3, h1, Nat.le_of_lt h2⟩
theorem nxtS_nx {bs : List Int} {a : Nat} (bad : Bool) (hB : Bytes bs) (ha : a ≤ bs.length) : Nx (bs.drop a) bad (nxtS bs a bad).1 (bs.drop (nxtS bs a bad).2.1) (nxtS bs a bad).2.2 ∧ (nxtS bs a bad).2.1 ≤ bs.length := by
  cases bad
  · cases h : num (bs.drop a) with
    | none =>
      rw [nxtS_none h]
      exact ⟨⟨fun h => (by cases h), fun _ => .inr h, Nat.zero_le _, hB.drop _, Nat.le_refl _⟩, ha⟩
    | some x =>
      obtain ⟨n, r⟩ := x
      obtain ⟨h1, h2, h3⟩ := num_rest (hB.drop a) h
      obtain ⟨e1, e2⟩ := nxt_at ha h
      rw [nxtS_some h]
      dsimp only
      rw [e1]
      exact ⟨⟨fun _ => ⟨rfl, h, h2⟩, fun hb => (by cases hb), h3, h1, Nat.le_of_lt h2⟩, by omega⟩
  · rw [nxtS_bad]
    exact ⟨⟨fun h => (by cases h), fun _ => .inl rfl, Nat.zero_le _, hB.drop _, Nat.le_refl _⟩, ha⟩
/-- Moves read so far. -/
structure PM (k : Nat) (b0 : List Int) (ms : List Mv) (b1 : List Int) (bad : Bool) : Prop where
  byt : Bytes b1
  len : b1.length ≤ b0.length
  sz : 2 * ms.length ≤ b0.length + 2
  ok : ∀ m ∈ ms, I64 m.d ∧ I64 m.n
  good : bad = false → ms.length ≤ k ∧ pMvs k b0 = (pMvs (k - ms.length) b1).map (preM ms) ∧ 2 * ms.length + b1.length ≤ b0.length
  bad : bad = true → pMvs k b0 = none
theorem map_id' {α : Type} {f : α → α} (o : Option α) (h : ∀ x, f x = x) : o.map f = o := by cases o <;> simp [h]
theorem PM.start {b0 : List Int} (k : Nat) (hB : Bytes b0) : PM k b0 [] b0 false :=
  ⟨hB, Nat.le_refl _, by simp, fun m hm => (by simp at hm), fun _ => ⟨Nat.zero_le _, (map_id' _ fun x => rfl).symm, by simp⟩, fun h => (by cases h)⟩
theorem i64_nat {n : Nat} (h : n ≤ 2147483647) : I64 (n : Int) := ⟨by omega, by omega⟩
theorem PM.next {k : Nat} {b0 b1 b2 b3 : List Int} {ms : List Mv} {d n : Nat} {bad2 bad3 : Bool} (h : PM k b0 ms b1 false) (hk : ms.length < k) (q1 : Nx b1 false d b2 bad2) (q2 : Nx b2 bad2 n b3 bad3) : PM k b0 (ms ++ [⟨d, n⟩]) b3 bad3 := by
  obtain ⟨g1, g2, g3⟩ := h.good rfl
  have l1 := q1.len
  have l2 := q2.len
  obtain ⟨kk, hkk⟩ : ∃ kk, k - ms.length = kk + 1 := ⟨k - ms.length - 1, by omega⟩
  refine ⟨q2.byt, by omega, by rw [List.length_append, List.length_singleton]; omega, fun m hm => ?_, fun hb => ?_, fun hb => ?_⟩
  · rcases List.mem_append.1 hm with h1 | h1
    · exact h.ok m h1
    · rw [List.mem_singleton.1 h1]
      exact ⟨i64_nat q1.le, i64_nat q2.le⟩
  · obtain ⟨e1, e2, e3⟩ := q2.good hb
    obtain ⟨_, e4, e5⟩ := q1.good e1
    rw [List.length_append, List.length_singleton]
    refine ⟨by omega, ?_, by omega⟩
    rw [g2, hkk, pMvs_step e4 e2]
    congr 2
    omega
  · rw [g2, hkk]
    rcases q2.bad hb with h1 | h1
    · rcases q1.bad h1 with h2 | h2
      · cases h2
      · rw [pMvs_no1 h2]; rfl
    · rcases Bool.eq_false_or_eq_true bad2 with h3 | h3
      · rcases q1.bad h3 with h2 | h2
        · cases h2
        · rw [pMvs_no1 h2]; rfl
      · obtain ⟨_, e4, _⟩ := q1.good h3
        rw [pMvs_no2 e4 h1]; rfl
/-- Gotos read so far. -/
structure PG (u : Nat) (b0 : List Int) (bad0 : Bool) (gs : List Int) (b1 : List Int) (bad : Bool) : Prop where
  byt : Bytes b1
  len : b1.length ≤ b0.length
  sz : gs.length ≤ b0.length + 1
  ok : ∀ x ∈ gs, I64 x
  good : bad = false → bad0 = false ∧ gs.length ≤ u ∧ pGos u b0 = (pGos (u - gs.length) b1).map (preG gs) ∧ gs.length + b1.length ≤ b0.length
  bad : bad = true → bad0 = true ∨ pGos u b0 = none
theorem PG.start {b0 : List Int} (u : Nat) (bad0 : Bool) (hB : Bytes b0) : PG u b0 bad0 [] b0 bad0 :=
  ⟨hB, Nat.le_refl _, by simp, fun m hm => (by simp at hm), fun hb => ⟨hb, Nat.zero_le _, (map_id' _ fun x => rfl).symm, by simp⟩, fun h => .inl h⟩
theorem PG.next {u : Nat} {b0 b1 b2 : List Int} {gs : List Int} {d : Nat} {bad0 bad2 : Bool} (h : PG u b0 bad0 gs b1 false) (hk : gs.length < u) (q1 : Nx b1 false d b2 bad2) : PG u b0 bad0 (gs ++ [(d : Int) - 1]) b2 bad2 := by
  obtain ⟨g0, g1, g2, g3⟩ := h.good rfl
  have l1 := q1.len
  have ll := q1.le
  obtain ⟨kk, hkk⟩ : ∃ kk, u - gs.length = kk + 1 := ⟨u - gs.length - 1, by omega⟩
  refine ⟨q1.byt, by omega, by rw [List.length_append, List.length_singleton]; omega, fun m hm => ?_, fun hb => ?_, fun hb => ?_⟩
  · rcases List.mem_append.1 hm with h1 | h1
    · exact h.ok m h1
    · rw [List.mem_singleton.1 h1]
      exact ⟨by omega, by omega⟩
  · obtain ⟨_, e4, e5⟩ := q1.good hb
    rw [List.length_append, List.length_singleton]
    refine ⟨g0, by omega, ?_, by omega⟩
    rw [g2, hkk, pGos_step e4]
    congr 2
    omega
  · rcases q1.bad hb with h2 | h2
    · cases h2
    · refine .inr ?_
      rw [g2, hkk, pGos_no h2]; rfl
/-- Rows read so far. -/
structure PR (bs : List Int) (n k u : Nat) (t : Tb) (b1 : List Int) (bad : Bool) : Prop where
  byt : Bytes b1
  len : b1.length ≤ bs.length
  go : t.go.length = t.mv.length
  sz : t.mv.length ≤ bs.length + 1
  okm : ∀ r ∈ t.mv, r.length ≤ bs.length + 2 ∧ ∀ m ∈ r, I64 m.d ∧ I64 m.n
  okg : ∀ r ∈ t.go, r.length ≤ bs.length + 2 ∧ ∀ x ∈ r, I64 x
  good : bad = false → t.mv.length ≤ n ∧ pAll bs = ((pRows k u (n - t.mv.length) b1).map (preT t)).map (fun x => ((n, k, u), x)) ∧ (t.mv.length + b1.length ≤ bs.length ∨ n ≤ bs.length)
  bad : bad = true → ∀ x, pAll bs = some x → x.1.2.1 = 0
theorem PR.start {bs b1 b2 b3 : List Int} {n k u : Nat} {bad1 bad2 bad3 : Bool} (q1 : Nx bs false n b1 bad1) (q2 : Nx b1 bad1 k b2 bad2) (q3 : Nx b2 bad2 u b3 bad3) : PR bs n k u ⟨[], []⟩ b3 bad3 := by
  have l1 := q1.len
  have l2 := q2.len
  have l3 := q3.len
  have hno : ∀ b : Bool, b = false ∨ b = true := fun b => by cases b <;> simp
  refine ⟨q3.byt, by omega, rfl, by simp, fun r hr => (by simp at hr), fun r hr => (by simp at hr), fun hb => ?_, fun hb x hx => ?_⟩
  · obtain ⟨e1, e2, e3⟩ := q3.good hb
    obtain ⟨e4, e5, e6⟩ := q2.good e1
    obtain ⟨_, e7, e8⟩ := q1.good e4
    refine ⟨Nat.zero_le _, ?_, .inl (by simp; omega)⟩
    unfold pAll
    rw [e7]
    simp only [Option.bind_some, e5, e2]
    rw [map_id' (f := preT ⟨[], []⟩) _ fun x => rfl]
    rfl
  · exfalso
    unfold pAll at hx
    rcases hno bad1 with h1 | h1
    · obtain ⟨_, e7, _⟩ := q1.good h1
      rw [e7] at hx
      simp only [Option.bind_some] at hx
      rcases hno bad2 with h2 | h2
      · obtain ⟨_, e5, _⟩ := q2.good h2
        rw [e5] at hx
        simp only [Option.bind_some] at hx
        rcases q3.bad hb with h3 | h3
        · rw [h2] at h3; cases h3
        · rw [h3] at hx; cases hx
      · rcases q2.bad h2 with h3 | h3
        · rw [h1] at h3; cases h3
        · rw [h3] at hx; cases hx
    · rcases q1.bad h1 with h3 | h3
      · cases h3
      · rw [h3] at hx; cases hx
/-- A row more; the program calls rows of no kind bad. -/
theorem PR.next {bs b1 b2 b3 : List Int} {n k u : Nat} {t : Tb} {ms : List Mv} {gs : List Int} {bad2 bad3 bad4 : Bool} (h : PR bs n k u t b1 false) (hn : t.mv.length < n) (hm : PM k b1 ms b2 bad2) (hmk : bad2 = false → k ≤ ms.length) (hg : PG u b2 bad2 gs b3 bad3) (hgk : bad3 = false → u ≤ gs.length)
    (h4 : bad4 = false → bad3 = false ∧ (k ≠ 0 ∨ n ≤ bs.length)) (h5 : bad4 = true → bad3 = true ∨ k = 0) : PR bs n k u ⟨t.mv ++ [ms], t.go ++ [gs]⟩ b3 bad4 := by
  obtain ⟨g1, g2, g3⟩ := h.good rfl
  have l0 := h.len
  have l1 := hm.len
  have l2 := hg.len
  have lm := hm.sz
  have lg := hg.sz
  have hgo := h.go
  obtain ⟨kk, hkk⟩ : ∃ kk, n - t.mv.length = kk + 1 := ⟨n - t.mv.length - 1, by omega⟩
  refine ⟨hg.byt, by omega, by simp [hgo], ?_, fun r hr => ?_, fun r hr => ?_, fun hb => ?_, fun hb x hx => ?_⟩
  · show (t.mv ++ [ms]).length ≤ _
    rw [List.length_append, List.length_singleton]
    omega
  · rcases List.mem_append.1 hr with h1 | h1
    · exact h.okm r h1
    · rw [List.mem_singleton.1 h1]
      exact ⟨by omega, hm.ok⟩
  · rcases List.mem_append.1 hr with h1 | h1
    · exact h.okg r h1
    · rw [List.mem_singleton.1 h1]
      exact ⟨by omega, hg.ok⟩
  · obtain ⟨e1, e0⟩ := h4 hb
    obtain ⟨e2, e3, e4, e5⟩ := hg.good e1
    obtain ⟨e6, e7, e8⟩ := hm.good e2
    have hmk' := hmk e2
    have hgk' := hgk e1
    have hm1 : pMvs k b1 = some (ms, b2) := by
      rw [e7, show k - ms.length = 0 by omega]
      simp [pMvs, preM]
    have hg1 : pGos u b2 = some (gs, b3) := by
      rw [e4, show u - gs.length = 0 by omega]
      simp [pGos, preG]
    show (t.mv ++ [ms]).length ≤ n ∧ pAll bs = ((pRows k u (n - (t.mv ++ [ms]).length) b3).map _).map _ ∧ ((t.mv ++ [ms]).length + b3.length ≤ bs.length ∨ n ≤ bs.length)
    rw [List.length_append, List.length_singleton]
    refine ⟨by omega, ?_, by omega⟩
    rw [g2, hkk, pRows_step hm1 hg1]
    congr 3
    omega
  · rcases h5 hb with h6 | h6
    · rw [g2, hkk] at hx
      have hno : pRows k u (kk + 1) b1 = none := by
        rcases Bool.eq_false_or_eq_true bad2 with h7 | h7
        · exact pRows_no1 (hm.bad h7)
        · obtain ⟨e6, e7, e8⟩ := hm.good h7
          have hm1 : pMvs k b1 = some (ms, b2) := by
            rw [e7, show k - ms.length = 0 by have := hmk h7; omega]
            simp [pMvs, preM]
          rcases hg.bad h6 with h8 | h8
          · rw [h7] at h8; cases h8
          · exact pRows_no2 hm1 h8
      rw [hno] at hx
      cases hx
    · rw [g2] at hx
      obtain ⟨y, _, rfl⟩ := Option.map_eq_some_iff.1 hx
      exact h6
theorem readP_bad {bs : List Int} (hB : Bytes bs) (h : ∀ x, pAll bs = some x → x.1.2.1 = 0) : readP bs = none := by
  unfold readP
  cases hp : pAll bs with
  | none => rfl
  | some x =>
    obtain ⟨⟨s, k, u⟩, t, r⟩ := x
    have hk := h _ hp
    dsimp only at hk
    subst hk
    obtain ⟨_, _, _, h4, _⟩ := pAll_is hB hp
    simp only [Option.bind_some]
    rw [dec_f]
    · rfl
    · rintro ⟨_, r1, r2, _⟩
      have := (h4 _ (getD_mem (z := []) r1)).1
      omega
theorem PR.all {bs b1 : List Int} {n k u : Nat} {t : Tb} (h : PR bs n k u t b1 false) (hn : n ≤ t.mv.length) : pAll bs = some ((n, k, u), t, b1) := by
  obtain ⟨g1, g2, g3⟩ := h.good rfl
  rw [g2, show n - t.mv.length = 0 by omega]
  simp [pRows, preT]
theorem PR.fin {bs b1 : List Int} {n k u : Nat} {t : Tb} (h : PR bs n k u t b1 false) (hn : n ≤ t.mv.length) : readP bs = if dec (b1 = [] ∧ Rect t) then some t else none := by
  rw [readP, h.all hn]
  rfl
theorem PR.finR {bs b1 : List Int} {n k u : Nat} {t : Tb} (h : PR bs n k u t b1 false) (hn : n ≤ t.mv.length) (h1 : n ≤ bs.length ∧ k ≤ bs.length ∧ u ≤ bs.length) : readR bs = if dec (ByOk t ∧ tbB t = bs) then some t else none := by
  rw [readR, h.all hn]
  simp only [Option.bind_some]
  rw [dec_iff (show ((n ≤ bs.length ∧ k ≤ bs.length ∧ u ≤ bs.length) ∧ ByOk t ∧ tbB t = bs) ↔ (ByOk t ∧ tbB t = bs) from ⟨fun h => h.2, fun h => ⟨h1, h⟩⟩)]
theorem PR.long {bs b1 : List Int} {n k u : Nat} {t : Tb} (h : PR bs n k u t b1 false) (h1 : ¬ (n ≤ bs.length ∧ k ≤ bs.length ∧ u ≤ bs.length)) : readR bs = none := by
  obtain ⟨g1, g2, g3⟩ := h.good rfl
  rw [readR, g2]
  cases (pRows k u (n - t.mv.length) b1).map (preT t) with
  | none => rfl
  | some x =>
    simp only [Option.map_some, Option.bind_some]
    rw [dec_f fun h => h1 h.1]
    rfl
theorem PR.tok {bs b1 : List Int} {n k u : Nat} {t : Tb} {bad : Bool} (h : PR bs n k u t b1 bad) (hl : bs.length ≤ 1048573) : BSm t := by
  have h1 := h.sz
  have h2 := h.go
  exact ⟨⟨by omega, by omega, fun r hr => ⟨by have := (h.okm r hr).1; omega, (h.okm r hr).2⟩, fun r hr => ⟨by have := (h.okg r hr).1; omega, (h.okg r hr).2⟩⟩, by omega, fun r hr => by have := (h.okm r hr).1; omega, fun r hr => by have := (h.okg r hr).1; omega⟩
noncomputable def rdT (bs : List Int) : Tb := (readP bs).getD ⟨[], []⟩
noncomputable def rdE (bs : List Int) : Int := if (readP bs).isSome then 0 else 170
theorem rd_none {bs : List Int} (h : readP bs = none) : rdT bs = ⟨[], []⟩ ∧ rdE bs = 170 := by rw [rdT, rdE, h]; exact ⟨rfl, rfl⟩
theorem rd_some {bs : List Int} {t : Tb} (h : readP bs = some t) : rdT bs = t ∧ rdE bs = 0 := by rw [rdT, rdE, h]; exact ⟨rfl, rfl⟩
end Go.Proofs.YtkpehkadammppaaFx
