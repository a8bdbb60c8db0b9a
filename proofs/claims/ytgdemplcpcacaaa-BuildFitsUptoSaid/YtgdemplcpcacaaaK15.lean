/- Grammars that came in, as they read. Derivations, nodes and data that came in, as they read. Whether all actions fit their types: the document's answer. -/
import Derived.Test.YtgdemplcpcacaaaK14
import Derived.Test.YtgdemplcpcacaaaK02
import Derived.Test.YtgdemplcpcacaaaK03
import Derived.Test.YtgdemplcpcacaaaProg
set_option linter.unusedVariables false
set_option linter.unusedSimpArgs false
/-! Grammars that came in, as they read. -/
namespace Go.Proofs.YtgdemplcpcacaaaFx
open Go Go.RowKit Go.ChangeShapes Go.WideShapes Go.ChangeAt Go.Deep
open Go.Proofs.Ytgdemplcpcacaaa (Rows.uptoBulk Rows.uptoBulkAll Rows.uptoSmall)
/-- Read where the bulk is at most N. -/
structure RdsN (P : Program) (t : TypeId) {α : Type} (K : Kn α) (B : α → Nat → Prop) (N : Nat) : Prop where
  sz : P.cellsOf t = K.sz
  rd : ∀ {H : Type} {enc : TypeId × Value → H} {w : World} {base : Nat} {spare : Nat → Bool} {held : Bool} {fuel : Nat} {cs : List Value} {x : DataW H × List MemPlace}, DataW.trod enc P w base spare held fuel t cs = some x → Rows.uptoBulk x.1 ≤ N → ∃ a, K.K w a cs ∧ B a (Rows.uptoBulk x.1)
section
variable {P : Program} {t e : TypeId}
theorem Rds.n {α : Type} {K : Kn α} {B : α → Nat → Prop} (h : Rds P t K B) (N : Nat) : RdsN P t K B N := ⟨h.sz, fun hx _ => h.rd hx⟩
theorem rdsN_sl {α : Type} {K : Kn α} {B : α → Nat → Prop} {N : Nat} (μ : α → Nat) (hμ : ∀ a n, B a n → μ a ≤ n) (ht : P.underlying t = some (.slice e)) (hc : P.cellsOf t = 1) (he : RdsN P e K B N) : RdsN P t K.sl (fun xs n => ((xs.map μ).sum + 1 ≤ n ∧ xs.length + 1 ≤ n) ∧ ∀ x ∈ xs, ∃ m, m ≤ n ∧ B x m) (N + 1) := ⟨hc, fun {H enc w base spare held fuel cs x} h hN => by
  rcases open_slice ht h with ⟨rfl, rfl⟩ | ⟨a, len, cap, m, n, D, Pl, rfl, _, hl, hm, hmm, rfl, hx⟩
  · exact ⟨[], ⟨none, 0, rfl, Nat.le_refl _, Rd.nil _ _ _⟩, by simp [Rows.uptoBulk], fun x hx => by simp at hx⟩
  · have hlm : len ≤ m := by rw [hmm]; split <;> omega
    have hDi : ∀ i, i < len → Rows.uptoBulk (D i) ≤ N := fun i hi => by
      have h1 := bulk_part (d := D i) (l := (List.range len).map D) (List.mem_map.2 ⟨i, List.mem_range.2 hi, rfl⟩)
      simp only [Rows.uptoBulk] at hN
      omega
    have hex : ∀ i, i < len → ∃ a' : α, (∃ cs', w.cells? base (a.add (i * P.cellsOf e)) (P.cellsOf e) = some cs' ∧ K.K w a' cs') ∧ B a' (Rows.uptoBulk (D i)) := fun i hi => by
      obtain ⟨cs', h1, h2⟩ := hx i (by omega)
      obtain ⟨a', h3, h4⟩ := he.rd h2 (hDi i hi)
      exact ⟨a', ⟨cs', h1, h3⟩, h4⟩
    refine ⟨List.ofFn fun i : Fin len => Classical.choose (hex i.1 i.2), ⟨some a, cap, by rw [List.length_ofFn], by rw [List.length_ofFn]; exact hl, fun _ => rfl, fun j y hy => ?_⟩, ⟨?_, ?_⟩, fun y hy => ?_⟩
    · rw [List.getElem?_ofFn] at hy
      split at hy
      · rename_i hj
        simp only [Option.some.injEq] at hy
        subst hy
        obtain ⟨⟨cs', h1, h2⟩, _⟩ := Classical.choose_spec (hex j hj)
        refine ⟨cs', h2, fun i u hu => ?_⟩
        obtain ⟨_, h5, h6⟩ := World.cells?_some h1
        have hi : i < P.cellsOf e := by rw [← h5]; exact (List.getElem?_eq_some_iff.1 hu).1
        have := h6 i hi
        rw [hu, add_add, he.sz] at this
        exact this
      · simp at hy
    · have h1 : ((List.ofFn fun i : Fin len => Classical.choose (hex i.1 i.2)).map μ).sum ≤ (((List.range len).map D).map Rows.uptoBulk).sum := sum_le (by simp) fun j h1 h2 => by
        simp only [List.getElem_map, List.getElem_ofFn, List.getElem_range]
        have hj : j < len := by simpa using h1
        exact hμ _ _ (Classical.choose_spec (hex j hj)).2
      rw [← bulk_sum] at h1
      simp only [Rows.uptoBulk]
      omega
    · rw [List.length_ofFn]
      have h1 := bulk_len ((List.range len).map D)
      rw [List.length_map, List.length_range] at h1
      simp only [Rows.uptoBulk]
      omega
    · obtain ⟨i, hi⟩ := (List.mem_ofFn ..).1 hy
      subst hi
      refine ⟨Rows.uptoBulk (D i.1), ?_, (Classical.choose_spec (hex i.1 i.2)).2⟩
      have h1 := bulk_part (d := D i.1) (l := (List.range len).map D) (List.mem_map.2 ⟨i.1, List.mem_range.2 i.2, rfl⟩)
      simp only [Rows.uptoBulk]
      omega⟩
/-- A struct's fields. -/
theorem fields_of {H : Type} {enc : TypeId × Value → H} {w : World} {base : Nat} {spare : Nat → Bool} {held : Bool} {fuel : Nat} {cs : List Value} {x : DataW H × List MemPlace} {fs : Array Field} (ht : P.underlying t = some (.struct fs)) (h : DataW.trod enc P w base spare held fuel t cs = some x) :
    ∃ (xs : List (DataW H × List MemPlace)) (n : Nat), Rows.uptoBulk x.1 = Rows.uptoBulkAll (xs.map (·.1)) + 1 ∧ cs.length = P.cellsOf t ∧ xs.length = fs.size ∧ ∀ (i : Nat) (f : Field), fs[i]? = some f → ∃ y, xs[i]? = some y ∧ DataW.trod enc P w base spare held n f.type ((cs.drop f.offset).take (P.cellsOf f.type)) = some y := by
  obtain ⟨xs, n, _, rfl, hl, hlen, hf⟩ := DataW.trod_struct ht h
  refine ⟨xs, n, rfl, hl, hlen, fun i f hif => ?_⟩
  have hi : i < xs.length := by rw [hlen]; exact (Array.getElem?_eq_some_iff.1 hif).1
  have := hf i f hif
  rw [List.getElem?_eq_getElem hi] at this
  exact ⟨_, List.getElem?_eq_getElem hi, this⟩
end
theorem cnts_sum {α : Type} : ∀ ts : List (Tr α), Tr.cnts ts = (ts.map Tr.cnt).sum
  | [] => rfl
  | t :: r => by rw [Tr.cnts, cnts_sum r, List.map_cons, List.sum_cons]
theorem four_len {cs : List Value} (h : cs.length = 4) : ∃ a b c d, cs = [a, b, c, d] := by
  match cs, h with
  | [a, b, c, d], _ => exact ⟨a, b, c, d, rfl⟩
theorem five_len {cs : List Value} (h : cs.length = 5) : ∃ a b c d e, cs = [a, b, c, d, e] := by
  match cs, h with
  | [a, b, c, d, e], _ => exact ⟨a, b, c, d, e, rfl⟩
theorem seven_len {cs : List Value} (h : cs.length = 7) : ∃ a b c d e f g, cs = [a, b, c, d, e, f, g] := by
  match cs, h with
  | [a, b, c, d, e, f, g], _ => exact ⟨a, b, c, d, e, f, g, rfl⟩
theorem part_le {H : Type} {xs : List (DataW H × List MemPlace)} {i : Nat} {y : DataW H × List MemPlace} (h : xs[i]? = some y) : Rows.uptoBulk y.1 ≤ Rows.uptoBulkAll (xs.map (·.1)) :=
  bulk_part (List.mem_map.2 ⟨y, List.mem_of_getElem? h, rfl⟩)
section
variable {P : Program} {ti tz ta ts tr tp tk tc tq tg : TypeId}
/-- The types of a grammar's parts: int, string, action, actions, numbers, production, texts, levels, productions, grammar. -/
structure GTypes (P : Program) (ti tz ta ts tr tp : TypeId) : Prop where
  i : Rds P ti (kInt .i64) (fun a n => (Lit.int .i64 a).wf = true ∧ 1 ≤ n)
  z : Rds P tz kStr (fun a n => a.size + 1 ≤ n)
  a : ∃ f0 f1 f2 f3 : Field, P.underlying ta = some (.struct #[f0, f1, f2, f3]) ∧ (f0.type, f0.offset) = (ti, 0) ∧ (f1.type, f1.offset) = (ti, 1) ∧ (f2.type, f2.offset) = (tz, 2) ∧ (f3.type, f3.offset) = (ts, 3)
  ca : P.cellsOf ta = 4
  s : P.underlying ts = some (.slice ta)
  cs : P.cellsOf ts = 1
  r : Rds P tr (kInt .i64).sl (fun xs n => xs.length + 1 ≤ n ∧ ∀ x ∈ xs, ∃ m, m ≤ n ∧ (Lit.int .i64 x).wf = true ∧ 1 ≤ m)
  p : ∃ f0 f1 f2 f3 : Field, P.underlying tp = some (.struct #[f0, f1, f2, f3]) ∧ (f0.type, f0.offset) = (ti, 0) ∧ (f1.type, f1.offset) = (tr, 1) ∧ (f2.type, f2.offset) = (ti, 2) ∧ (f3.type, f3.offset) = (ta, 3)
  cp : P.cellsOf tp = 7
theorem rdsN_tr (T : GTypes P ti tz ta ts tr tp) : ∀ N, RdsN P ta (kTr fAc) (fun a n => a.cnt ≤ n) N := fun N => by
  induction N using Nat.strongRecOn with
  | ind N ih =>
    refine ⟨T.ca, fun {H enc w base spare held fuel cs x} h hN => ?_⟩
    obtain ⟨f0, f1, f2, f3, hu, h0, h1, h2, h3⟩ := T.a
    simp only [Prod.mk.injEq] at h0 h1 h2 h3
    obtain ⟨xs, n, hb, hl, hlen, hf⟩ := fields_of hu h
    rw [T.ca] at hl
    obtain ⟨c0, c1, c2, c3, rfl⟩ := four_len hl
    obtain ⟨y0, i0, e0⟩ := hf 0 f0 rfl
    obtain ⟨y1, i1, e1⟩ := hf 1 f1 rfl
    obtain ⟨y2, i2, e2⟩ := hf 2 f2 rfl
    obtain ⟨y3, i3, e3⟩ := hf 3 f3 rfl
    have s1 : P.cellsOf ti = 1 := T.i.sz
    have s2 : P.cellsOf tz = 1 := T.z.sz
    rw [h0.1, h0.2, s1] at e0
    rw [h1.1, h1.2, s1] at e1
    rw [h2.1, h2.2, s2] at e2
    rw [h3.1, h3.2, T.cs] at e3
    obtain ⟨a0, k0, _⟩ := T.i.rd e0
    obtain ⟨a1, k1, _⟩ := T.i.rd e1
    obtain ⟨a2, k2, _⟩ := T.z.rd e2
    have p3 := part_le i3
    have q3 := bulk_one y3.1
    obtain ⟨M, hM⟩ : ∃ M, Rows.uptoBulk y3.1 = M + 1 := ⟨Rows.uptoBulk y3.1 - 1, by omega⟩
    obtain ⟨kids, ⟨A, c, hc, hle, hr⟩, ⟨hsum, _⟩, _⟩ := (rdsN_sl Tr.cnt (fun a n h => h) T.s T.cs (ih M (by omega))).rd e3 (by omega)
    have g0 : [c0] = [Value.int .i64 a0] := k0
    have g1 : [c1] = [Value.int .i64 a1] := k1
    have g2 : [c2] = [Value.string a2] := k2
    have g3 : [c3] = [Value.slice A kids.length c] := hc
    simp only [List.cons.injEq, and_true] at g0 g1 g2 g3
    subst g0 g1 g2 g3
    refine ⟨.mk ⟨a0, a1, a2⟩ kids, Tr.K.mk (f := fAc) (x := ⟨a0, a1, a2⟩) hle hr, ?_⟩
    rw [Tr.cnt, cnts_sum]
    omega
theorem rdsN_pr (T : GTypes P ti tz ta ts tr tp) (N : Nat) : RdsN P tp kPr (fun p n => p.right.length ≤ n ∧ p.act.cnt ≤ n) N := ⟨T.cp, fun {H enc w base spare held fuel cs x} h hN => by
  obtain ⟨f0, f1, f2, f3, hu, h0, h1, h2, h3⟩ := T.p
  simp only [Prod.mk.injEq] at h0 h1 h2 h3
  obtain ⟨xs, n, hb, hl, hlen, hf⟩ := fields_of hu h
  rw [T.cp] at hl
  obtain ⟨c0, c1, c2, c3, c4, c5, c6, rfl⟩ := seven_len hl
  obtain ⟨y0, i0, e0⟩ := hf 0 f0 rfl
  obtain ⟨y1, i1, e1⟩ := hf 1 f1 rfl
  obtain ⟨y2, i2, e2⟩ := hf 2 f2 rfl
  obtain ⟨y3, i3, e3⟩ := hf 3 f3 rfl
  have s1 : P.cellsOf ti = 1 := T.i.sz
  have s2 : P.cellsOf tr = 1 := T.r.sz
  rw [h0.1, h0.2, s1] at e0
  rw [h1.1, h1.2, s2] at e1
  rw [h2.1, h2.2, s1] at e2
  rw [h3.1, h3.2, T.ca] at e3
  have p1 := part_le i1
  have p3 := part_le i3
  obtain ⟨a0, k0, _⟩ := T.i.rd e0
  obtain ⟨a1, ⟨A, c, hc, hle, hr⟩, b1, _⟩ := T.r.rd e1
  obtain ⟨a2, k2, _⟩ := T.i.rd e2
  obtain ⟨a3, k3, b3⟩ := (rdsN_tr T (Rows.uptoBulk y3.1)).rd e3 (Nat.le_refl _)
  obtain ⟨B, k, hB, hBl, hBr⟩ := Tr.K.open k3
  have g0 : [c0] = [Value.int .i64 a0] := k0
  have g1 : [c1] = [Value.slice A a1.length c] := hc
  have g2 : [c2] = [Value.int .i64 a2] := k2
  have g3 : [c3, c4, c5, c6] = [Value.int .i64 a3.x.kind, .int .i64 a3.x.at_, .string a3.x.name, .slice B a3.kids.length k] := hB
  simp only [List.cons.injEq, and_true] at g0 g1 g2 g3
  obtain ⟨r1, r2, r3, r4⟩ := g3
  subst g0 g1 g2 r1 r2 r3 r4
  exact ⟨⟨a0, a1, a2, a3⟩, ⟨A, c, B, k, rfl, ⟨hle, hBl⟩, hr, hBr⟩, by dsimp only; omega, by dsimp only; omega⟩⟩
/-- A grammar: its row of productions, its texts, its levels. -/
structure GTypes2 (P : Program) (ti tp tk tc tq tg : TypeId) : Prop where
  k : Rds P tk kStr.sl (fun xs n => xs.length + 1 ≤ n ∧ ∀ x ∈ xs, ∃ m, m ≤ n ∧ x.size + 1 ≤ m)
  c : Rds P tc fMv.kn.sl (fun xs n => xs.length + 1 ≤ n ∧ ∀ x ∈ xs, ∃ m, m ≤ n ∧ (I64 x.d ∧ I64 x.n) ∧ 1 ≤ m)
  q : P.underlying tq = some (.slice tp)
  cq : P.cellsOf tq = 1
  g : ∃ f0 f1 f2 f3 f4 : Field, P.underlying tg = some (.struct #[f0, f1, f2, f3, f4]) ∧ (f0.type, f0.offset) = (tk, 0) ∧ (f1.type, f1.offset) = (tc, 1) ∧ (f2.type, f2.offset) = (tk, 2) ∧ (f3.type, f3.offset) = (tq, 3) ∧ (f4.type, f4.offset) = (ti, 4)
  cg : P.cellsOf tg = 5
theorem rd_pl (T : GTypes P ti tz ta ts tr tp) (T2 : GTypes2 P ti tp tk tc tq tg) {H : Type} {enc : TypeId × Value → H} {w : World} {base : Nat} {spare : Nat → Bool} {held : Bool} {fuel : Nat} {cs : List Value} {x : DataW H × List MemPlace} (h : DataW.trod enc P w base spare held fuel tg cs = some x) (hN : Rows.uptoBulk x.1 ≤ 1048576) :
    ∃ (g : Pl) (a : PlA), cs = g.cs a ∧ g.rd w a ∧ g.ok ∧ (g.kinds.length ≤ a.ck ∧ g.precs.length ≤ a.cp ∧ g.rules.length ≤ a.cr ∧ g.prods.length ≤ a.cq) ∧ I64 g.start ∧ (g.prods.length + 1 ≤ Rows.uptoBulk x.1) := by
  obtain ⟨f0, f1, f2, f3, f4, hu, h0, h1, h2, h3, h4⟩ := T2.g
  simp only [Prod.mk.injEq] at h0 h1 h2 h3 h4
  obtain ⟨xs, n, hb, hl, hlen, hf⟩ := fields_of hu h
  rw [T2.cg] at hl
  obtain ⟨c0, c1, c2, c3, c4, rfl⟩ := five_len hl
  obtain ⟨y0, i0, e0⟩ := hf 0 f0 rfl
  obtain ⟨y1, i1, e1⟩ := hf 1 f1 rfl
  obtain ⟨y2, i2, e2⟩ := hf 2 f2 rfl
  obtain ⟨y3, i3, e3⟩ := hf 3 f3 rfl
  obtain ⟨y4, i4, e4⟩ := hf 4 f4 rfl
  have s1 : P.cellsOf tk = 1 := T2.k.sz
  have s2 : P.cellsOf tc = 1 := T2.c.sz
  have s3 : P.cellsOf ti = 1 := T.i.sz
  rw [h0.1, h0.2, s1] at e0
  rw [h1.1, h1.2, s2] at e1
  rw [h2.1, h2.2, s1] at e2
  rw [h3.1, h3.2, T2.cq] at e3
  rw [h4.1, h4.2, s3] at e4
  have p0 := part_le i0
  have p1 := part_le i1
  have p2 := part_le i2
  have p3 := part_le i3
  have q3 := bulk_one y3.1
  obtain ⟨M, hM⟩ : ∃ M, Rows.uptoBulk y3.1 = M + 1 := ⟨Rows.uptoBulk y3.1 - 1, by omega⟩
  obtain ⟨a0, ⟨A0, z0, k0, l0, r0⟩, b0, d0⟩ := T2.k.rd e0
  obtain ⟨a1, ⟨A1, z1, k1, l1, r1⟩, b1, d1⟩ := T2.c.rd e1
  obtain ⟨a2, ⟨A2, z2, k2, l2, r2⟩, b2, d2⟩ := T2.k.rd e2
  obtain ⟨a3, ⟨A3, z3, k3, l3, r3⟩, ⟨_, b3⟩, d3⟩ := (rdsN_sl (fun p : Pr => 0) (fun a n h => Nat.zero_le _) T2.q T2.cq (rdsN_pr T M)).rd e3 (by omega)
  obtain ⟨a4, k4, b4, _⟩ := T.i.rd e4
  have g0 : [c0] = [Value.slice A0 a0.length z0] := k0
  have g1 : [c1] = [Value.slice A1 a1.length z1] := k1
  have g2 : [c2] = [Value.slice A2 a2.length z2] := k2
  have g3 : [c3] = [Value.slice A3 a3.length z3] := k3
  have g4 : [c4] = [Value.int .i64 a4] := k4
  simp only [List.cons.injEq, and_true] at g0 g1 g2 g3 g4
  subst g0 g1 g2 g3 g4
  refine ⟨⟨a0, a1, a2, a3, a4⟩, ⟨A0, z0, A1, z1, A2, z2, A3, z3⟩, rfl, ⟨r0, r1, r2, r3⟩, ⟨?_, ?_, ?_, ?_, ?_, ?_, ?_, ?_⟩, ⟨l0, l1, l2, l3⟩, i64_wf b4, by dsimp only; omega⟩
  · dsimp only; omega
  · intro s hs
    obtain ⟨m, m1, m2⟩ := d0 s hs
    omega
  · dsimp only; omega
  · dsimp only; omega
  · intro s hs
    obtain ⟨m, m1, m2⟩ := d2 s hs
    omega
  · dsimp only; omega
  · intro p hp
    obtain ⟨m, m1, m2, m3⟩ := d3 p hp
    omega
  · intro p hp
    obtain ⟨m, m1, m2, m3⟩ := d3 p hp
    omega
end
end Go.Proofs.YtgdemplcpcacaaaFx

/-! Derivations, nodes and data that came in, as they read. -/
namespace Go.Proofs.YtgdemplcpcacaaaFx
open Go Go.RowKit Go.ChangeShapes Go.WideShapes Go.ChangeAt Go.Deep
open Go.Proofs.Ytgdemplcpcacaaa (Rows.uptoBulk Rows.uptoBulkAll Rows.uptoSmall)
theorem three_len {cs : List Value} (h : cs.length = 3) : ∃ a b c, cs = [a, b, c] := by
  match cs, h with
  | [a, b, c], _ => exact ⟨a, b, c, rfl⟩
section
variable {P : Program} {ti tz ta ts td tc tcs tds tzs tg tw tr tt : TypeId} {N : Nat}
abbrev RInt (P : Program) (ti : TypeId) : Prop := Rds P ti (kInt .i64) (fun a n => (Lit.int .i64 a).wf = true ∧ 1 ≤ n)
abbrev RStr (P : Program) (tz : TypeId) : Prop := Rds P tz kStr (fun a n => a.size + 1 ≤ n)
/-- Derivations. -/
structure DvTypes (P : Program) (ti ta ts : TypeId) : Prop where
  i : RInt P ti
  a : ∃ f0 f1 f2 : Field, P.underlying ta = some (.struct #[f0, f1, f2]) ∧ (f0.type, f0.offset) = (ti, 0) ∧ (f1.type, f1.offset) = (ti, 1) ∧ (f2.type, f2.offset) = (ts, 2)
  ca : P.cellsOf ta = 3
  s : P.underlying ts = some (.slice ta)
  cs : P.cellsOf ts = 1
theorem rdsN_dv (T : DvTypes P ti ta ts) : ∀ N, RdsN P ta (kTr fDv) (fun a n => a.cnt ≤ n) N := fun N => by
  induction N using Nat.strongRecOn with
  | ind N ih =>
    refine ⟨T.ca, fun {H enc w base spare held fuel cs x} h hN => ?_⟩
    obtain ⟨f0, f1, f2, hu, h0, h1, h2⟩ := T.a
    simp only [Prod.mk.injEq] at h0 h1 h2
    obtain ⟨xs, n, hb, hl, hlen, hf⟩ := fields_of hu h
    rw [T.ca] at hl
    obtain ⟨c0, c1, c2, rfl⟩ := three_len hl
    obtain ⟨y0, i0, e0⟩ := hf 0 f0 rfl
    obtain ⟨y1, i1, e1⟩ := hf 1 f1 rfl
    obtain ⟨y2, i2, e2⟩ := hf 2 f2 rfl
    have s1 : P.cellsOf ti = 1 := T.i.sz
    rw [h0.1, h0.2, s1] at e0
    rw [h1.1, h1.2, s1] at e1
    rw [h2.1, h2.2, T.cs] at e2
    obtain ⟨a0, k0, _⟩ := T.i.rd e0
    obtain ⟨a1, k1, _⟩ := T.i.rd e1
    have p3 := part_le i2
    have q3 := bulk_one y2.1
    obtain ⟨M, hM⟩ : ∃ M, Rows.uptoBulk y2.1 = M + 1 := ⟨Rows.uptoBulk y2.1 - 1, by omega⟩
    obtain ⟨kids, ⟨A, c, hc, hle, hr⟩, ⟨hsum, _⟩, _⟩ := (rdsN_sl Tr.cnt (fun a n h => h) T.s T.cs (ih M (by omega))).rd e2 (by omega)
    have g0 : [c0] = [Value.int .i64 a0] := k0
    have g1 : [c1] = [Value.int .i64 a1] := k1
    have g2 : [c2] = [Value.slice A kids.length c] := hc
    simp only [List.cons.injEq, and_true] at g0 g1 g2
    subst g0 g1 g2
    refine ⟨.mk ⟨a0, a1⟩ kids, Tr.K.mk (f := fDv) (x := ⟨a0, a1⟩) hle hr, ?_⟩
    rw [Tr.cnt, cnts_sum]
    omega
/-- Nodes. -/
structure NdTypes (P : Program) (ti tz ta ts : TypeId) : Prop where
  i : RInt P ti
  z : RStr P tz
  a : ∃ f0 f1 f2 f3 : Field, P.underlying ta = some (.struct #[f0, f1, f2, f3]) ∧ (f0.type, f0.offset) = (ti, 0) ∧ (f1.type, f1.offset) = (tz, 1) ∧ (f2.type, f2.offset) = (ti, 2) ∧ (f3.type, f3.offset) = (ts, 3)
  ca : P.cellsOf ta = 4
  s : P.underlying ts = some (.slice ta)
  cs : P.cellsOf ts = 1
def ndSm (n : Nat) (x : NdP) (k : Nat) : Prop := x.name.size ≤ n ∧ k ≤ n
theorem Tr.All.imp {α : Type} {p q : α → Nat → Prop} (h : ∀ x k, p x k → q x k) : ∀ t : Tr α, t.All p → t.All q := Tr.ind fun x kids ih ha => by
  obtain ⟨h1, h2⟩ := (Tr.All_eq _).1 ha
  exact (Tr.All_eq _).2 ⟨h _ _ h1, (Tr.Alls_iff _).2 fun t ht => ih t ht ((Tr.Alls_iff _).1 h2 t ht)⟩
theorem rdsN_nd (T : NdTypes P ti tz ta ts) : ∀ N, RdsN P ta (kTr fNd) (fun a n => a.cnt ≤ n ∧ a.All (ndSm n)) N := fun N => by
  induction N using Nat.strongRecOn with
  | ind N ih =>
    refine ⟨T.ca, fun {H enc w base spare held fuel cs x} h hN => ?_⟩
    obtain ⟨f0, f1, f2, f3, hu, h0, h1, h2, h3⟩ := T.a
    simp only [Prod.mk.injEq] at h0 h1 h2 h3
    obtain ⟨xs, n, hb, hl, hlen, hf⟩ := fields_of hu h
    rw [T.ca] at hl
    obtain ⟨c0, c1, c2, c3, rfl⟩ := four_len hl
    obtain ⟨y0, i0, e0⟩ := hf 0 f0 rfl
    obtain ⟨y1, i1, e1⟩ := hf 1 f1 rfl
    obtain ⟨y2, i2, e2⟩ := hf 2 f2 rfl
    obtain ⟨y3, i3, e3⟩ := hf 3 f3 rfl
    have s1 : P.cellsOf ti = 1 := T.i.sz
    have s2 : P.cellsOf tz = 1 := T.z.sz
    rw [h0.1, h0.2, s1] at e0
    rw [h1.1, h1.2, s2] at e1
    rw [h2.1, h2.2, s1] at e2
    rw [h3.1, h3.2, T.cs] at e3
    obtain ⟨a0, k0, _⟩ := T.i.rd e0
    obtain ⟨a1, k1, b1⟩ := T.z.rd e1
    obtain ⟨a2, k2, _⟩ := T.i.rd e2
    have p1 := part_le i1
    have p3 := part_le i3
    have q3 := bulk_one y3.1
    obtain ⟨M, hM⟩ : ∃ M, Rows.uptoBulk y3.1 = M + 1 := ⟨Rows.uptoBulk y3.1 - 1, by omega⟩
    obtain ⟨kids, ⟨A, c, hc, hle, hr⟩, ⟨hsum, hkl⟩, hel⟩ := (rdsN_sl Tr.cnt (fun a n h => h.1) T.s T.cs (ih M (by omega))).rd e3 (by omega)
    have g0 : [c0] = [Value.int .i64 a0] := k0
    have g1 : [c1] = [Value.string a1] := k1
    have g2 : [c2] = [Value.int .i64 a2] := k2
    have g3 : [c3] = [Value.slice A kids.length c] := hc
    simp only [List.cons.injEq, and_true] at g0 g1 g2 g3
    subst g0 g1 g2 g3
    refine ⟨.mk ⟨a0, a1, a2⟩ kids, Tr.K.mk (f := fNd) (x := ⟨a0, a1, a2⟩) hle hr, ?_, (Tr.All_eq _).2 ⟨⟨show a1.size ≤ _ by omega, show kids.length ≤ _ by omega⟩, (Tr.Alls_iff _).2 fun t ht => ?_⟩⟩
    · rw [Tr.cnt, cnts_sum]
      omega
    · obtain ⟨m, hm, _, hall⟩ := hel t ht
      exact Tr.All.imp (fun y k hy => ⟨by have := hy.1; omega, by have := hy.2; omega⟩) t hall
/-- Constructors, data. -/
structure DtTypes (P : Program) (tz tzs tc tcs td tds : TypeId) : Prop where
  z : RStr P tz
  zs : Rds P tzs kStr.sl (fun xs n => xs.length + 1 ≤ n ∧ ∀ x ∈ xs, ∃ m, m ≤ n ∧ x.size + 1 ≤ m)
  c : ∃ f0 f1 : Field, P.underlying tc = some (.struct #[f0, f1]) ∧ (f0.type, f0.offset) = (tz, 0) ∧ (f1.type, f1.offset) = (tzs, 1)
  cc : P.cellsOf tc = 2
  cs : P.underlying tcs = some (.slice tc)
  ccs : P.cellsOf tcs = 1
  d : ∃ f0 f1 : Field, P.underlying td = some (.struct #[f0, f1]) ∧ (f0.type, f0.offset) = (tz, 0) ∧ (f1.type, f1.offset) = (tcs, 1)
  cd : P.cellsOf td = 2
  ds : P.underlying tds = some (.slice td)
  cds : P.cellsOf tds = 1
def CtSm (n : Nat) (c : Ct) : Prop := c.name.size ≤ n ∧ c.fields.length ≤ n ∧ ∀ s ∈ c.fields, s.size ≤ n
theorem rds_ct (T : DtTypes P tz tzs tc tcs td tds) : Rds P tc kCt (fun a n => CtSm n a) := ⟨T.cc, fun {H enc w base spare held fuel cs x} h => by
  obtain ⟨f0, f1, hu, h0, h1⟩ := T.c
  simp only [Prod.mk.injEq] at h0 h1
  obtain ⟨xs, n, hb, hl, hlen, hf⟩ := fields_of hu h
  rw [T.cc] at hl
  obtain ⟨c0, c1, rfl⟩ := two_len hl
  obtain ⟨y0, i0, e0⟩ := hf 0 f0 rfl
  obtain ⟨y1, i1, e1⟩ := hf 1 f1 rfl
  have s0 : P.cellsOf tz = 1 := T.z.sz
  have s1 : P.cellsOf tzs = 1 := T.zs.sz
  rw [h0.1, h0.2, s0] at e0
  rw [h1.1, h1.2, s1] at e1
  obtain ⟨a0, k0, b0⟩ := T.z.rd e0
  obtain ⟨a1, ⟨A, c, k1, l1, r1⟩, b1, d1⟩ := T.zs.rd e1
  have p0 := part_le i0
  have p1 := part_le i1
  have g0 : [c0] = [Value.string a0] := k0
  have g1 : [c1] = [Value.slice A a1.length c] := k1
  simp only [List.cons.injEq, and_true] at g0 g1
  subst g0 g1
  exact ⟨⟨a0, a1⟩, ⟨A, c, rfl, l1, r1⟩, by dsimp only; omega, by dsimp only; omega, fun s hs => by obtain ⟨m, hm, h2⟩ := d1 s hs; omega⟩⟩
theorem rds_dt (T : DtTypes P tz tzs tc tcs td tds) : Rds P td kDt (fun a n => a.name.size ≤ n ∧ a.ctors.length ≤ n ∧ ∀ c ∈ a.ctors, CtSm n c) := ⟨T.cd, fun {H enc w base spare held fuel cs x} h => by
  obtain ⟨f0, f1, hu, h0, h1⟩ := T.d
  simp only [Prod.mk.injEq] at h0 h1
  obtain ⟨xs, n, hb, hl, hlen, hf⟩ := fields_of hu h
  rw [T.cd] at hl
  obtain ⟨c0, c1, rfl⟩ := two_len hl
  obtain ⟨y0, i0, e0⟩ := hf 0 f0 rfl
  obtain ⟨y1, i1, e1⟩ := hf 1 f1 rfl
  have s0 : P.cellsOf tz = 1 := T.z.sz
  rw [h0.1, h0.2, s0] at e0
  rw [h1.1, h1.2, T.ccs] at e1
  obtain ⟨a0, k0, b0⟩ := T.z.rd e0
  obtain ⟨a1, ⟨A, c, k1, l1, r1⟩, b1, d1⟩ := (rds_sl T.cs T.ccs (rds_ct T)).rd e1
  have p0 := part_le i0
  have p1 := part_le i1
  have g0 : [c0] = [Value.string a0] := k0
  have g1 : [c1] = [Value.slice A a1.length c] := k1
  simp only [List.cons.injEq, and_true] at g0 g1
  subst g0 g1
  exact ⟨⟨a0, a1⟩, ⟨A, c, rfl, l1, r1⟩, by dsimp only; omega, by dsimp only; omega, fun c hc => by obtain ⟨m, hm, h2, h3, h4⟩ := d1 c hc; exact ⟨by omega, by omega, fun s hs => by have := h4 s hs; omega⟩⟩⟩
theorem flatd_len : ∀ l : List Dt, (flat l).length = (l.map fun d => d.ctors.length).sum
  | [] => rfl
  | d :: r => by
    have := flatd_len r
    rw [show flat (d :: r) = ctsOf d d.ctors ++ flat r from rfl, List.length_append, this, List.map_cons, List.sum_cons]
    unfold ctsOf
    rw [List.length_map]
/-- Rows of data. -/
theorem rdsN_dts (T : DtTypes P tz tzs tc tcs td tds) (hN : N ≤ 1048576) : RdsN P tds kDt.sl (fun l n => DOk l ∧ l.length + 1 ≤ n) N := ⟨T.cds, fun {H enc w base spare held fuel cs x} h hx => by
  obtain ⟨l, hk, ⟨h1, h2⟩, h3⟩ := (rdsN_sl (fun d : Dt => d.ctors.length) (fun a n h => h.2.1) T.ds T.cds ((rds_dt T).n N)).rd h (by omega)
  refine ⟨l, hk, ⟨by omega, fun d hd => ?_, by rw [flatd_len]; omega, fun p hp => ?_⟩, h2⟩
  · obtain ⟨m, hm, h4, _⟩ := h3 d hd
    omega
  · obtain ⟨d, hd, hp2⟩ := List.mem_flatMap.1 hp
    obtain ⟨c, hc, rfl⟩ := List.mem_map.1 hp2
    obtain ⟨m, hm, _, _, h4⟩ := h3 d hd
    obtain ⟨h5, h6, h7⟩ := h4 c hc
    exact ⟨by dsimp only; omega, by dsimp only; omega, fun s hs => by have := h7 s hs; omega⟩⟩
/-- What is given: a grammar, data, types. -/
structure GvTypes (P : Program) (tg tds tzs tw : TypeId) : Prop where
  g : ∃ f0 f1 f2 : Field, P.underlying tw = some (.struct #[f0, f1, f2]) ∧ (f0.type, f0.offset) = (tg, 0) ∧ (f1.type, f1.offset) = (tds, 5) ∧ (f2.type, f2.offset) = (tzs, 6)
  cg : P.cellsOf tw = 7
structure Gv where
  g : Pl
  l : List Dt
  ty : List ByteArray
structure GvA where
  a : PlA
  l : Option Addr
  cl : Nat
  t : Option Addr
  ct : Nat
abbrev Gv.cs (x : Gv) (a : GvA) : List Value := [.slice a.a.k x.g.kinds.length a.a.ck, .slice a.a.p x.g.precs.length a.a.cp, .slice a.a.r x.g.rules.length a.a.cr, .slice a.a.q x.g.prods.length a.a.cq, .int .i64 x.g.start, .slice a.l x.l.length a.cl, .slice a.t x.ty.length a.ct]
structure Gv.ok (x : Gv) (a : GvA) : Prop where
  g : x.g.ok
  l : DOk x.l
  tl : x.ty.length ≤ 1048576
  ts : ∀ s ∈ x.ty, s.size ≤ 1048576
  q : x.g.prods.length ≤ 1048576
  st : I64 x.g.start
  cap : x.g.kinds.length ≤ a.a.ck ∧ x.g.precs.length ≤ a.a.cp ∧ x.g.rules.length ≤ a.a.cr ∧ x.g.prods.length ≤ a.a.cq
  cl : x.l.length ≤ a.cl
  ct : x.ty.length ≤ a.ct
structure Gv.rd (x : Gv) (w : World) (a : GvA) : Prop where
  g : x.g.rd w a.a
  l : Rd kDt w a.l x.l
  t : Rd kStr w a.t x.ty
theorem Gv.rd.below {x : Gv} {w w' : World} {a : GvA} (h : x.rd w a) (hb : Below w.heap.size w w') : x.rd w' a := ⟨h.g.below hb, h.l.below hb, h.t.below hb⟩
variable {tp tk tpc tq : TypeId}
theorem rd_gv (T : GTypes P ti tz ta ts tr tp) (T2 : GTypes2 P ti tp tk tpc tq tg) (D : DtTypes P tz tk tc tcs td tds) (G : GvTypes P tg tds tk tw) {H : Type} {enc : TypeId × Value → H} {w : World} {base : Nat} {spare : Nat → Bool} {held : Bool} {fuel : Nat} {cs : List Value} {x : DataW H × List MemPlace} (h : DataW.trod enc P w base spare held fuel tw cs = some x) (hN : Rows.uptoBulk x.1 ≤ 1048576) :
    ∃ (g : Gv) (a : GvA), cs = g.cs a ∧ g.rd w a ∧ g.ok a := by
  obtain ⟨f0, f1, f2, hu, h0, h1, h2⟩ := G.g
  simp only [Prod.mk.injEq] at h0 h1 h2
  obtain ⟨xs, n, hb, hl, hlen, hf⟩ := fields_of hu h
  rw [G.cg] at hl
  obtain ⟨c0, c1, c2, c3, c4, c5, c6, rfl⟩ := seven_len hl
  obtain ⟨y0, i0, e0⟩ := hf 0 f0 rfl
  obtain ⟨y1, i1, e1⟩ := hf 1 f1 rfl
  obtain ⟨y2, i2, e2⟩ := hf 2 f2 rfl
  have s2 : P.cellsOf tk = 1 := T2.k.sz
  rw [h0.1, h0.2, T2.cg] at e0
  rw [h1.1, h1.2, D.cds] at e1
  rw [h2.1, h2.2, s2] at e2
  have p0 := part_le i0
  have p1 := part_le i1
  have p2 := part_le i2
  obtain ⟨g, a, hcs, hr, hok, hcap, hst, hpr⟩ := rd_pl T T2 e0 (by omega)
  obtain ⟨l, ⟨A1, k1, g1, l1, r1⟩, hl1, _⟩ := (rdsN_dts D (Nat.le_refl _)).rd e1 (by omega)
  obtain ⟨ty, ⟨A2, k2, g2, l2, r2⟩, b2, d2⟩ := T2.k.rd e2
  have g0 : [c0, c1, c2, c3, c4] = g.cs a := hcs
  have g1' : [c5] = [Value.slice A1 l.length k1] := g1
  have g2' : [c6] = [Value.slice A2 ty.length k2] := g2
  simp only [List.cons.injEq, and_true] at g0 g1' g2'
  obtain ⟨q0, q1, q2, q3, q4⟩ := g0
  subst q0 q1 q2 q3 q4 g1' g2'
  exact ⟨⟨g, l, ty⟩, ⟨a, A1, k1, A2, k2⟩, rfl, ⟨hr, r1, r2⟩, hok, hl1, by dsimp only; omega, fun s hs => by obtain ⟨m, hm, h3⟩ := d2 s hs; omega, by dsimp only; omega, hst, hcap, l1, l2⟩
/-- A tree over a row. -/
structure TeTypes (P : Program) (td tr tt : TypeId) : Prop where
  g : ∃ f0 f1 : Field, P.underlying tt = some (.struct #[f0, f1]) ∧ (f0.type, f0.offset) = (td, 0) ∧ (f1.type, f1.offset) = (tr, 3)
  cg : P.cellsOf tt = 4
theorem rd_te (T : DvTypes P ti td ts) (hr : Rds P tr (kInt .i64).sl (fun xs n => xs.length + 1 ≤ n ∧ ∀ x ∈ xs, ∃ m, m ≤ n ∧ (Lit.int .i64 x).wf = true ∧ 1 ≤ m)) (G : TeTypes P td tr tt) {H : Type} {enc : TypeId × Value → H} {w : World} {base : Nat} {spare : Nat → Bool} {held : Bool} {fuel : Nat} {cs : List Value} {x : DataW H × List MemPlace} (h : DataW.trod enc P w base spare held fuel tt cs = some x) (hN : Rows.uptoBulk x.1 ≤ 1048576) :
    ∃ (d : Dv) (row : List Int) (B A : Option Addr) (k c : Nat), cs = [.int .i64 d.x.prod, .int .i64 d.x.tok, .slice B d.kids.length k, .slice A row.length c] ∧ Rd (kTr fDv) w B d.kids ∧ Rd (kInt .i64) w A row ∧ d.cnt ≤ 1048576 ∧ row.length ≤ 1048576 ∧ (d.kids.length ≤ k ∧ row.length ≤ c) ∧ ∀ x ∈ row, I64 x := by
  obtain ⟨f0, f1, hu, h0, h1⟩ := G.g
  simp only [Prod.mk.injEq] at h0 h1
  obtain ⟨xs, n, hb, hl, hlen, hf⟩ := fields_of hu h
  rw [G.cg] at hl
  obtain ⟨c0, c1, c2, c3, rfl⟩ := four_len hl
  obtain ⟨y0, i0, e0⟩ := hf 0 f0 rfl
  obtain ⟨y1, i1, e1⟩ := hf 1 f1 rfl
  have s1 : P.cellsOf tr = 1 := hr.sz
  rw [h0.1, h0.2, T.ca] at e0
  rw [h1.1, h1.2, s1] at e1
  have p0 := part_le i0
  have p1 := part_le i1
  obtain ⟨d, hd, hcn⟩ := (rdsN_dv T (Rows.uptoBulk y0.1)).rd e0 (Nat.le_refl _)
  obtain ⟨row, ⟨A, c, hc, hle, hrr⟩, b1, d1⟩ := hr.rd e1
  obtain ⟨B, k, hB, hBl, hBr⟩ := Tr.K.open hd
  have g1 : [c3] = [Value.slice A row.length c] := hc
  have g0 : [c0, c1, c2] = [Value.int .i64 d.x.prod, .int .i64 d.x.tok, .slice B d.kids.length k] := hB
  simp only [List.cons.injEq, and_true] at g0 g1
  obtain ⟨q0, q1, q2⟩ := g0
  subst q0 q1 q2 g1
  exact ⟨d, row, B, A, k, c, rfl, hBr, hrr, by omega, by omega, ⟨hBl, hle⟩, fun x hx => by obtain ⟨m, _, hw, _⟩ := d1 x hx; exact i64_wf hw⟩
end
end Go.Proofs.YtgdemplcpcacaaaFx

/-! Whether all actions fit their types: the document's answer. -/
namespace Go.Proofs.Ytgdemplcpcacaaa.RChk
open Go Go.RowKit Go.Proofs.YtgdemplcpcacaaaFx Go.Proofs.Ytgdemplcpcacaaa.RCtor Go.Proofs.Ytgdemplcpcacaaa.RDatas Go.Proofs.Ytgdemplcpcacaaa.RCheck
theorem agg130 : Agg Try.prog 130 7 := agg_of Try.underlying130 (by kernel_rfl)
theorem agg44 : Agg Try.prog 44 5 := agg_of Try.underlying44 (by kernel_rfl)
theorem agg69 : Agg Try.prog 69 4 := agg_of Try.underlying69 (by kernel_rfl)
theorem ba130 : BuildAt Try.prog 130 [.slice none 0 0, .slice none 0 0, .slice none 0 0, .slice none 0 0, .int .i64 0, .slice none 0 0, .slice none 0 0] [(0, 5), (5, 1), (6, 1)] := build_at Try.underlying130 (by kernel_rfl) (by kernel_rfl)
theorem en42 : Enters Try.prog 42 := enters Try.func42 (by kernel_rfl) rfl
theorem en50 : Enters Try.prog 50 := enters Try.func50 (by kernel_rfl) rfl
theorem en51 : Enters Try.prog 51 := enters Try.func51 (by kernel_rfl) rfl
theorem en52 : Enters Try.prog 52 := enters Try.func52 (by kernel_rfl) rfl
theorem en76 : Enters Try.prog 76 := enters Try.func76 (by kernel_rfl) rfl
theorem en77 : Enters Try.prog 77 := enters Try.func77 (by kernel_rfl) rfl
theorem fa130_0 : FieldAt Try.prog 130 0 0 := field_at (sz := 4) Try.underlying130 rfl (by kernel_rfl) rfl
theorem fa130_1 : FieldAt Try.prog 130 1 5 := field_at (sz := 0) Try.underlying130 rfl (by kernel_rfl) rfl
theorem fa130_2 : FieldAt Try.prog 130 2 6 := field_at (sz := 0) Try.underlying130 rfl (by kernel_rfl) rfl
theorem fa44_0 : FieldAt Try.prog 44 0 0 := field_at (sz := 0) Try.underlying44 rfl (by kernel_rfl) rfl
theorem fa44_2 : FieldAt Try.prog 44 2 2 := field_at (sz := 0) Try.underlying44 rfl (by kernel_rfl) rfl
theorem fa44_3 : FieldAt Try.prog 44 3 3 := field_at (sz := 0) Try.underlying44 rfl (by kernel_rfl) rfl
theorem fa69_0 : FieldAt Try.prog 69 0 0 := field_at (sz := 0) Try.underlying69 rfl (by kernel_rfl) rfl
theorem fa69_1 : FieldAt Try.prog 69 1 1 := field_at (sz := 0) Try.underlying69 rfl (by kernel_rfl) rfl
theorem fa69_2 : FieldAt Try.prog 69 2 2 := field_at (sz := 0) Try.underlying69 rfl (by kernel_rfl) rfl
theorem fa69_3 : FieldAt Try.prog 69 3 3 := field_at (sz := 0) Try.underlying69 rfl (by kernel_rfl) rfl
theorem fa73_0 : FieldAt Try.prog 73 0 0 := field_at (sz := 0) Try.underlying73 rfl (by kernel_rfl) rfl
theorem fa73_1 : FieldAt Try.prog 73 1 1 := field_at (sz := 0) Try.underlying73 rfl (by kernel_rfl) rfl
theorem fa73_3 : FieldAt Try.prog 73 3 3 := field_at (sz := 3) Try.underlying73 rfl (by kernel_rfl) rfl
theorem fa80_1 : FieldAt Try.prog 80 1 1 := field_at (sz := 0) Try.underlying80 rfl (by kernel_rfl) rfl
theorem mixed : Try.prog.follows .mixedOrders = true := by kernel_rfl
theorem one3 : One Try.prog 3 := one_of Try.underlying3 rfl (by kernel_rfl)
theorem one40 : One Try.prog 40 := one_of Try.underlying40 rfl (by kernel_rfl)
theorem one42 : One Try.prog 42 := one_of Try.underlying42 rfl (by kernel_rfl)
theorem one45 : One Try.prog 45 := one_of Try.underlying45 rfl (by kernel_rfl)
theorem one51 : One Try.prog 51 := one_of Try.underlying51 rfl (by kernel_rfl)
theorem one67 : One Try.prog 67 := one_of Try.underlying67 rfl (by kernel_rfl)
theorem one9 : One Try.prog 9 := one_of Try.underlying9 rfl (by kernel_rfl)
theorem sz130 : ∀ W, (sizeOf 130).run Try.prog W = .ok 7 W := size_of (by kernel_rfl)
theorem sz3 : ∀ W, (sizeOf 3).run Try.prog W = .ok 1 W := size_of (by kernel_rfl)
theorem sz69 : ∀ W, (sizeOf 69).run Try.prog W = .ok 4 W := size_of (by kernel_rfl)
theorem sz73 : ∀ W, (sizeOf 73).run Try.prog W = .ok 7 W := size_of (by kernel_rfl)
theorem sz80 : ∀ W, (sizeOf 80).run Try.prog W = .ok 2 W := size_of (by kernel_rfl)
theorem sz9 : ∀ W, (sizeOf 9).run Try.prog W = .ok 1 W := size_of (by kernel_rfl)
theorem zv130 : ∀ W, (zeroValue 130).run Try.prog W = .ok (.agg #[.slice none 0 0, .slice none 0 0, .slice none 0 0, .slice none 0 0, .int .i64 0, .slice none 0 0, .slice none 0 0]) W := zero_of (by kernel_rfl)
theorem zv80 : ∀ W, (zeroValue 80).run Try.prog W = .ok (.agg #[.string ⟨#[]⟩, .slice none 0 0]) W := zero_of (by kernel_rfl)

set_option maxRecDepth 100000 in
theorem symbol_calls {x : Gv} {a : GvA} {s : Int} {w : World} (hx : x.rd w a) (hk : x.ok a) (hs : 0 ≤ s ∧ s < x.g.kinds.length + x.ty.length) : Calls Try.prog 76 #[.agg #[.slice a.a.k x.g.kinds.length a.a.ck, .slice a.a.p x.g.precs.length a.a.cp, .slice a.a.r x.g.rules.length a.a.cr, .slice a.a.q x.g.prods.length a.a.cq, .int .i64 x.g.start, .slice a.l x.l.length a.cl, .slice a.t x.ty.length a.ct], .int .i64 s] w fun e w' => ∃ v, e = .returned v ∧ v = .string (symT x.g x.ty s) ∧ Holds w [] w' := by
  have hgk := hk.g.k
  have htl := hk.tl
  have hty := hx.t
  refine calls_of Try.func76 rfl Try.ntmps76 rfl ?_
  have H := Holds.start w
  refine wcR ?_
  refine wl_box (cs := [_, _, _, _, _, _, _]) H rfl rfl rfl ?_
  intro b2 w1 hb2 H2
  refine wA ?_
  refine wl_nil ?_
  refine wc_seq ?_
  refine wcR ?_
  refine wM ?_
  refine wV (v_fb (o2 := 0) fa130_0 rfl rfl) ?_
  refine wV (v_fb (o2 := 0) fa44_0 rfl rfl) ?_
  refine wV (v_load one40 rfl (H2.at (by repeat constructor) rfl)) ?_
  refine wV (v_len Try.underlying40 rfl) ?_
  refine wV (v_lss rfl rfl) ?_
  refine wl_nil ?_
  refine wc_cond rfl (fun c0 => ?_) (fun c0 => ?_)
  ·have c0p := oT c0
   refine wcR ?_
   refine wA ?_
   refine wl_nil ?_
   refine wc_ret ?_
   first
     | (have q_ := c0p
        first
          | exact ⟨_, res1 rfl rfl, by rw [symT, if_pos c0p], H2.pm (by repeat (first | exact Pm.nil _ | constructor))⟩
          | exact ⟨_, res1 rfl rfl, by rw [symT, if_neg c0p]; rfl, H2.pm (by repeat (first | exact Pm.nil _ | constructor))⟩)
  have c0p := oF c0
  refine wc_skip ?_
  refine wcR ?_
  refine wV (v_fb (o2 := 6) fa130_2 rfl rfl) ?_
  refine wV (v_load one40 rfl (H2.at (by repeat constructor) rfl)) ?_
  refine wM ?_
  refine wV (v_fb (o2 := 0) fa130_0 rfl rfl) ?_
  refine wV (v_fb (o2 := 0) fa44_0 rfl rfl) ?_
  refine wV (v_load one40 rfl (H2.at (by repeat constructor) rfl)) ?_
  refine wV (v_len Try.underlying40 rfl) ?_
  refine wV (v_subi rfl rfl (by omega)) ?_
  refine wV (v_idx Try.underlying40 sz9 hty.ad rfl rfl (by omega) (by omega)) ?_
  refine wV (v_load one9 rfl (H2.cell (hty.at1s (by omega) (by omega)))) ?_
  refine wA ?_
  refine wl_nil ?_
  refine wc_ret ?_
  first
    | (have q_ := c0p
       first
         | exact ⟨_, res1 rfl rfl, by rw [symT, if_pos c0p], H2.pm (by repeat (first | exact Pm.nil _ | constructor))⟩
         | exact ⟨_, res1 rfl rfl, by rw [symT, if_neg c0p]; rfl, H2.pm (by repeat (first | exact Pm.nil _ | constructor))⟩)

def FitsOk (x : Gv) (a : GvA) (t : Ac) : Prop := ∀ (w : World) (A B : Option Addr) (cr k : Nat) (row : List Int) (hx : x.rd w a) (hr : Rd (kTr fAc) w B t.kids) (hR : Rd (kInt .i64) w A row) (hrl : row.length ≤ 64) (hrow : ∀ j, j < row.length → 0 ≤ row.getD j 0 ∧ row.getD j 0 < x.g.kinds.length + x.ty.length) (hall : t.All (nodeOk row.length)) (hcn : t.cnt ≤ 1099511627776), Calls Try.prog 52 #[.agg #[.slice a.a.k x.g.kinds.length a.a.ck, .slice a.a.p x.g.precs.length a.a.cp, .slice a.a.r x.g.rules.length a.a.cr, .slice a.a.q x.g.prods.length a.a.cq, .int .i64 x.g.start, .slice a.l x.l.length a.cl, .slice a.t x.ty.length a.ct], .agg #[.int .i64 t.x.kind, .int .i64 t.x.at_, .string t.x.name, .slice B t.kids.length k], .slice A row.length cr] w fun e w' => ∃ v, e = .returned v ∧ v = .tuple #[.string (typ (flat x.l) (row.map (symT x.g x.ty)) t).1, .int .i64 (typ (flat x.l) (row.map (symT x.g x.ty)) t).2] ∧ Holds w [] w'

set_option maxHeartbeats 6400000 in
set_option maxRecDepth 100000 in
theorem fits_step {x : Gv} {a : GvA} {t : Ac} {w : World} {A B : Option Addr} {cr k : Nat} {row : List Int} (hk : x.ok a) (hx : x.rd w a) (hr : Rd (kTr fAc) w B t.kids) (hR : Rd (kInt .i64) w A row) (hrl : row.length ≤ 64) (hrow : ∀ j, j < row.length → 0 ≤ row.getD j 0 ∧ row.getD j 0 < x.g.kinds.length + x.ty.length) (hall : t.All (nodeOk row.length)) (hcn : t.cnt ≤ 1099511627776) (ih : ∀ t' ∈ t.kids, FitsOk x a t') : Calls Try.prog 52 #[.agg #[.slice a.a.k x.g.kinds.length a.a.ck, .slice a.a.p x.g.precs.length a.a.cp, .slice a.a.r x.g.rules.length a.a.cr, .slice a.a.q x.g.prods.length a.a.cq, .int .i64 x.g.start, .slice a.l x.l.length a.cl, .slice a.t x.ty.length a.ct], .agg #[.int .i64 t.x.kind, .int .i64 t.x.at_, .string t.x.name, .slice B t.kids.length k], .slice A row.length cr] w fun e w' => ∃ v, e = .returned v ∧ v = .tuple #[.string (typ (flat x.l) (row.map (symT x.g x.ty)) t).1, .int .i64 (typ (flat x.l) (row.map (symT x.g x.ty)) t).2] ∧ Holds w [] w' := by
  obtain ⟨hn, hks⟩ := (Tr.All_eq t).1 hall
  have hcnt := Tr.cnt_eq t
  have hkl := Tr.cnts_len t.kids
  have hs0 := ba_size0 t.x.name
  refine calls_of Try.func52 rfl Try.ntmps52 rfl ?_
  have H := Holds.start w
  refine wcR ?_
  refine wl_box (cs := [_, _, _, _, _, _, _]) H rfl rfl rfl ?_
  intro b3 w1 hb3 H2
  refine wl_box (cs := [_, _, _, _]) H2 rfl rfl rfl ?_
  intro b4 w3 hb4 H4
  refine wA ?_
  refine wA ?_
  refine wl_nil ?_
  refine wc_cut (σ := Bool) (fun q => [(2, .slice A row.length cr), (3, .pointer (some ⟨b3, 0, none⟩)), (4, .pointer (some ⟨b4, 0, none⟩)), (8, .bool q)]) (fun q W => q = dec (t.x.name = s0 ∧ t.kids.length = 0) ∧ Holds w [Blk b4 69 [.int .i64 t.x.kind, .int .i64 t.x.at_, .string t.x.name, .slice B t.kids.length k], Blk b3 130 [.slice a.a.k x.g.kinds.length a.a.ck, .slice a.a.p x.g.precs.length a.a.cp, .slice a.a.r x.g.rules.length a.a.cr, .slice a.a.q x.g.prods.length a.a.cq, .int .i64 x.g.start, .slice a.l x.l.length a.cl, .slice a.t x.ty.length a.ct]] W) ?_ ?_
  ·refine wc_region ?_
   refine wV (v_fb (o2 := 2) fa69_2 rfl rfl) ?_
   refine wV (v_load one9 rfl (H4.at (by repeat constructor) rfl)) ?_
   refine wV (v_eqls rfl rfl) ?_
   refine wM ?_
   refine wl_guard rfl rfl rfl (fun g18 => ?_) (fun g18 => ?_)
   rotate_left
   ·have g18p := oF g18
    refine wF g18 ?_
    refine wF g18 ?_
    refine wF g18 ?_
    refine wV (v_pick_f rfl g18 rfl) ?_
    refine wA ?_
    refine wl_nil ?_
    first
      | exact ⟨_, (sc rfl (sc rfl (sc rfl (sc rfl (sn _))))), ⟨dec_eq ⟨fun hd => ⟨g18p, by have h_ := oT hd; omega⟩, fun hh => decide_eq_true (by have h_ := hh.2; omega)⟩, H4⟩⟩
      | exact ⟨_, (sc rfl (sc rfl (sc rfl (sc rfl (sn _))))), ⟨(dec_f fun hh => g18p hh.1).symm, H4⟩⟩
   have g18p := oT g18
   refine wV (v_fb (o2 := 3) fa69_3 rfl rfl) ?_
   refine wO g18 ?_
   refine wV (v_load one67 rfl (H4.at (by repeat constructor) rfl)) ?_
   refine wO g18 ?_
   refine wV (v_len Try.underlying67 rfl) ?_
   refine wO g18 ?_
   refine wV (v_eql rfl rfl) ?_
   refine wV (v_pick_t rfl g18 rfl) ?_
   refine wA ?_
   refine wl_nil ?_
   first
     | exact ⟨_, (sc rfl (sc rfl (sc rfl (sc rfl (sn _))))), ⟨dec_eq ⟨fun hd => ⟨g18p, by have h_ := oT hd; omega⟩, fun hh => decide_eq_true (by have h_ := hh.2; omega)⟩, H4⟩⟩
     | exact ⟨_, (sc rfl (sc rfl (sc rfl (sc rfl (sn _))))), ⟨(dec_f fun hh => g18p hh.1).symm, H4⟩⟩
  rintro q Wm ⟨hq0, H⟩
  refine wc_seq ?_
  refine wcR ?_
  refine wV (v_fb (o2 := 0) fa69_0 rfl rfl) ?_
  refine wV (v_load one3 rfl (H.at (by repeat constructor) rfl)) ?_
  refine wl_nil ?_
  refine wc_block ?_
  refine wcR ?_
  refine wV (v_eql rfl rfl) ?_
  refine wA ?_
  refine wl_nil ?_
  refine wc_cond rfl (fun c0 => ?_) (fun c0 => ?_)
  ·have c0p := oT c0
   refine wc_seq ?_
   refine wcR ?_
   refine wM ?_
   refine wV (v_not rfl) ?_
   refine wM ?_
   refine wl_guard rfl rfl rfl (fun g30 => ?_) (fun g30 => ?_)
   rotate_left
   ·have g30p := of_n_t g30
    exact absurd (show t.x.name = s0 ∧ t.kids.length = 0 from ⟨hs0.2 (by unfold nodeOk at hn; omega), by unfold nodeOk at hn; omega⟩) (of_ndec (hq0.symm.trans (of_n_t g30)))
   have g30p := of_n_f g30
   refine wV (v_fb (o2 := 1) fa69_1 rfl rfl) ?_
   refine wO g30 ?_
   refine wV (v_load one3 rfl (H.at (by repeat constructor) rfl)) ?_
   refine wO g30 ?_
   refine wV (v_neq rfl rfl) ?_
   refine wV (v_pick_f rfl g30 rfl) ?_
   refine wl_nil ?_
   refine wc_cond rfl (fun c1 => ?_) (fun c1 => ?_)
   ·have c1p := of_nd_t c1
    exact absurd hn (by have h_ := c1p; unfold nodeOk; omega)
   have c1p := of_nd_f c1
   refine wc_skip ?_
   refine wcR ?_
   refine wA ?_
   refine wA ?_
   refine wl_nil ?_
   refine wc_ret ?_
   first
     | (have q_ := c11p
        have c10q := c10p
        have e_ : typs (flat x.l) (row.map (symT x.g x.ty)) (t.kids.take (i + 1)) p.2.fields = 210 := by rw [hss, typ1, if_pos g124p, if_neg (show ¬ _ = p.2.fields.getD i s0 from c10p)]
        have e2_ := typs_stop (P := flat x.l) (sy := (row.map (symT x.g x.ty))) t.kids p.2.fields (i + 1) (by rw [e_]; decide)
        exact ⟨_, res2 rfl rfl rfl, by rw [typ_node c6p hp, if_pos (by omega), e2_, e_]; rfl, H.pm (by repeat (first | exact Pm.nil _ | constructor))⟩)
     | (have q_ := c11p
        have e_ : typs (flat x.l) (row.map (symT x.g x.ty)) (t.kids.take (i + 1)) p.2.fields = (typ (flat x.l) (row.map (symT x.g x.ty)) (t.kids.getD i ac0)).2 := by rw [hss, typ1, if_neg c11p]
        have e2_ := typs_stop (P := flat x.l) (sy := (row.map (symT x.g x.ty))) t.kids p.2.fields (i + 1) (by rw [e_]; exact c11p)
        exact ⟨_, res2 rfl rfl rfl, by rw [typ_node c6p hp, if_pos (by omega), e2_, e_, if_neg c11p]; rfl, H.pm (by repeat (first | exact Pm.nil _ | constructor))⟩)
     | (have q_ := c9p
        rw [List.take_of_length_le (by omega)] at hty
        exact ⟨_, res2 rfl rfl rfl, by rw [typ_node c6p hp, if_pos (by omega), if_pos hty, e1_], H.pm (by repeat (first | exact Pm.nil _ | constructor))⟩)
     | (have q_ := g92p
        have q2_ := c6p
        first
          | exact ⟨_, res2 rfl rfl rfl, by rw [typ_node_no c6p (opt_none g92p)], H.pm (by repeat (first | exact Pm.nil _ | constructor))⟩
          | exact ⟨_, res2 rfl rfl rfl, by rw [typ_node c6p hp, if_neg (by omega)], H.pm (by repeat (first | exact Pm.nil _ | constructor))⟩)
     | (have q_ := c4p
        have q2_ := c5p
        exact ⟨_, res2 rfl rfl rfl, by rw [typ_text c4p], H.pm (by repeat (first | exact Pm.nil _ | constructor))⟩)
     | exact ⟨_, res2 rfl rfl rfl, by rw [e3_], H.pm (by repeat (first | exact Pm.nil _ | constructor))⟩
     | (have q_ := c0p
        exact absurd hn (by unfold nodeOk; omega))
     | exact ⟨_, res2 rfl rfl rfl, by rw [typ_none (by omega) (by omega) (by omega)], H.pm (by repeat (first | exact Pm.nil _ | constructor))⟩
     | exact absurd hn (by unfold nodeOk; omega)
  have c0p := oF c0
  refine wcR ?_
  refine wV (v_eql rfl rfl) ?_
  refine wA ?_
  refine wl_nil ?_
  refine wc_cond rfl (fun c2 => ?_) (fun c2 => ?_)
  ·have c2p := oT c2
   refine wc_seq ?_
   refine wc_seq ?_
   refine wc_tree [0, 1, 2, 3, 4, 5, 6, 7, 8, 9, 10, 11, 12, 13, 14, 15, 16, 17, 18, 19, 20, 22, 23] (fun W => Holds w [Blk b4 69 [.int .i64 t.x.kind, .int .i64 t.x.at_, .string t.x.name, .slice B t.kids.length k], Blk b3 130 [.slice a.a.k x.g.kinds.length a.a.ck, .slice a.a.p x.g.precs.length a.a.cp, .slice a.a.r x.g.rules.length a.a.cr, .slice a.a.q x.g.prods.length a.a.cq, .int .i64 x.g.start, .slice a.l x.l.length a.cl, .slice a.t x.ty.length a.ct]] W) mixed ?_
   have Hd := H.drew
   have HSd : Holds w [Blk b4 69 [.int .i64 t.x.kind, .int .i64 t.x.at_, .string t.x.name, .slice B t.kids.length k], Blk b3 130 [.slice a.a.k x.g.kinds.length a.a.ck, .slice a.a.p x.g.precs.length a.a.cp, .slice a.a.r x.g.rules.length a.a.cr, .slice a.a.q x.g.prods.length a.a.cq, .int .i64 x.g.start, .slice a.l x.l.length a.cl, .slice a.t x.ty.length a.ct]] _ := Hd.pm (by repeat constructor)
   refine wjV (k := 0) rfl HSd (fun W HW => v_move rfl) ?_
   refine wjV (k := 1) rfl HSd (fun W HW => v_not rfl) ?_
   refine wjV (k := 2) rfl HSd (fun W HW => v_move rfl) ?_
   refine wj_guard (dj := 39) rfl (fun g39 => ?_) (fun g39 => ?_)
   ·have g39p := of_n_t g39
    exact absurd (show t.x.name = s0 ∧ t.kids.length = 0 from ⟨hs0.2 (by unfold nodeOk at hn; omega), by unfold nodeOk at hn; omega⟩) (of_ndec (hq0.symm.trans (of_n_t g39)))
   have g39p := of_n_f g39
   refine wj_vg (k := 3) rfl (by kernel_rfl) (fun _ _ _ h => h) rfl rfl g39 HSd rfl (fun W HW => v_fb (o2 := 1) fa69_1 rfl rfl) ?_
   refine wj_vg (k := 4) rfl (by kernel_rfl) (fun _ _ _ h => h) rfl rfl g39 HSd rfl (fun W HW => v_load one3 rfl (HW.at (by repeat constructor) rfl)) ?_
   refine wj_vg (k := 5) rfl (by kernel_rfl) (fun _ _ _ h => h) rfl rfl g39 HSd rfl (fun W HW => v_lss rfl rfl) ?_
   refine wjV (k := 6) rfl HSd (fun W HW => v_pick_f rfl g39 rfl) ?_
   refine wjV (k := 7) rfl HSd (fun W HW => v_move rfl) ?_
   refine wj_guard (dj := 44) rfl (fun g44 => ?_) (fun g44 => ?_)
   ·have g44p := oT g44
    exact absurd hn (by have h_ := g44p; unfold nodeOk; omega)
   have g44p := oF g44
   refine wj_vg (k := 8) rfl (by kernel_rfl) (fun _ _ _ h => h) rfl rfl g44 HSd rfl (fun W HW => v_fb (o2 := 1) fa69_1 rfl rfl) ?_
   refine wj_vg (k := 9) rfl (by kernel_rfl) (fun _ _ _ h => h) rfl rfl g44 HSd rfl (fun W HW => v_load one3 rfl (HW.at (by repeat constructor) rfl)) ?_
   refine wj_vg (k := 10) rfl (by kernel_rfl) (fun _ _ _ h => h) rfl rfl g44 HSd rfl (fun W HW => v_move rfl) ?_
   refine wj_vg (k := 11) rfl (by kernel_rfl) (fun _ _ _ h => h) rfl rfl g44 HSd rfl (fun W HW => v_len Try.underlying51 rfl) ?_
   refine wj_vg (k := 12) rfl (by kernel_rfl) (fun _ _ _ h => h) rfl rfl g44 HSd rfl (fun W HW => v_geq rfl rfl) ?_
   refine wjV (k := 13) rfl HSd (fun W HW => v_pick_f rfl g44 rfl) ?_
   refine wjV (k := 14) rfl HSd (fun W HW => v_move rfl) ?_
   refine wj_guard (dj := 51) rfl (fun g51 => ?_) (fun g51 => ?_)
   ·have g51p := oT g51
    exact absurd hn (by have h_ := g51p; unfold nodeOk; omega)
   have g51p := oF g51
   have hatr : 0 ≤ t.x.at_ ∧ t.x.at_ < row.length := by omega
   refine wj_vg (k := 15) rfl (by kernel_rfl) (fun _ _ _ h => h) rfl rfl g51 HSd rfl (fun W HW => v_loadN agg130 rfl rfl (HW.ats (by repeat constructor))) ?_
   refine wj_vg (k := 16) rfl (by kernel_rfl) (fun _ _ _ h => h) rfl rfl g51 HSd rfl (fun W HW => v_move rfl) ?_
   refine wj_vg (k := 17) rfl (by kernel_rfl) (fun _ _ _ h => h) rfl rfl g51 HSd rfl (fun W HW => v_fb (o2 := 1) fa69_1 rfl rfl) ?_
   refine wj_vg (k := 18) rfl (by kernel_rfl) (fun _ _ _ h => h) rfl rfl g51 HSd rfl (fun W HW => v_load one3 rfl (HW.at (by repeat constructor) rfl)) ?_
   refine wj_vg (k := 19) rfl (by kernel_rfl) (fun _ _ _ h => h) rfl rfl g51 HSd rfl (fun W HW => v_idx Try.underlying51 sz3 hR.ad rfl rfl (by omega) (by omega)) ?_
   refine wj_vg (k := 20) rfl (by kernel_rfl) (fun _ _ _ h => h) rfl rfl g51 HSd rfl (fun W HW => v_load one3 rfl (HW.cell (hR.at1 (by omega) (by omega)))) ?_
   refine wj_t (k := 21) rfl (by kernel_rfl) ?_
   refine wO g51 ?_
   refine wl_call en76 rfl rfl (symbol_calls (hx.below Hd.old) hk (s := row.getD t.x.at_.toNat 0) (hrow _ (by omega))) ?_
   rintro _ w5 ⟨rfl, Hc⟩
   have H6 := Hd.call0 Hc
   have HS7 : Holds w [Blk b4 69 [.int .i64 t.x.kind, .int .i64 t.x.at_, .string t.x.name, .slice B t.kids.length k], Blk b3 130 [.slice a.a.k x.g.kinds.length a.a.ck, .slice a.a.p x.g.precs.length a.a.cp, .slice a.a.r x.g.rules.length a.a.cr, .slice a.a.q x.g.prods.length a.a.cq, .int .i64 x.g.start, .slice a.l x.l.length a.cl, .slice a.t x.ty.length a.ct]] _ := H6.pm (by repeat constructor)
   refine wl_nil (tn ⟨fun _ => HS7, ?_⟩)
   refine wj_vg (k := 22) rfl (by kernel_rfl) (fun _ _ _ h => h) rfl rfl g51 HS7 rfl (fun W HW => v_eqls rfl rfl) ?_
   refine wjV (k := 23) rfl HS7 (fun W HW => v_pick_f rfl g51 rfl) ?_
   refine wj_done (by kernel_rfl) ?_
   refine wc_cond rfl (fun c3 => ?_) (fun c3 => ?_)
   ·have c3p := oT c3
    have e3_ : (typ (flat x.l) (row.map (symT x.g x.ty)) t) = (s0, 210) := by rw [typ_pick c2p, if_pos ((show (row.map (symT x.g x.ty)).getD t.x.at_.toNat s0 = symT x.g x.ty (row.getD t.x.at_.toNat 0) from getD_map _ 0 s0 (by omega)).trans c3p)]
    refine wcR ?_
    refine wA ?_
    refine wA ?_
    refine wl_nil ?_
    refine wc_ret ?_
    first
      | (have q_ := c11p
         have c10q := c10p
         have e_ : typs (flat x.l) (row.map (symT x.g x.ty)) (t.kids.take (i + 1)) p.2.fields = 210 := by rw [hss, typ1, if_pos g124p, if_neg (show ¬ _ = p.2.fields.getD i s0 from c10p)]
         have e2_ := typs_stop (P := flat x.l) (sy := (row.map (symT x.g x.ty))) t.kids p.2.fields (i + 1) (by rw [e_]; decide)
         exact ⟨_, res2 rfl rfl rfl, by rw [typ_node c6p hp, if_pos (by omega), e2_, e_]; rfl, H6.pm (by repeat (first | exact Pm.nil _ | constructor))⟩)
      | (have q_ := c11p
         have e_ : typs (flat x.l) (row.map (symT x.g x.ty)) (t.kids.take (i + 1)) p.2.fields = (typ (flat x.l) (row.map (symT x.g x.ty)) (t.kids.getD i ac0)).2 := by rw [hss, typ1, if_neg c11p]
         have e2_ := typs_stop (P := flat x.l) (sy := (row.map (symT x.g x.ty))) t.kids p.2.fields (i + 1) (by rw [e_]; exact c11p)
         exact ⟨_, res2 rfl rfl rfl, by rw [typ_node c6p hp, if_pos (by omega), e2_, e_, if_neg c11p]; rfl, H6.pm (by repeat (first | exact Pm.nil _ | constructor))⟩)
      | (have q_ := c9p
         rw [List.take_of_length_le (by omega)] at hty
         exact ⟨_, res2 rfl rfl rfl, by rw [typ_node c6p hp, if_pos (by omega), if_pos hty, e1_], H6.pm (by repeat (first | exact Pm.nil _ | constructor))⟩)
      | (have q_ := g92p
         have q2_ := c6p
         first
           | exact ⟨_, res2 rfl rfl rfl, by rw [typ_node_no c6p (opt_none g92p)], H6.pm (by repeat (first | exact Pm.nil _ | constructor))⟩
           | exact ⟨_, res2 rfl rfl rfl, by rw [typ_node c6p hp, if_neg (by omega)], H6.pm (by repeat (first | exact Pm.nil _ | constructor))⟩)
      | (have q_ := c4p
         have q2_ := c5p
         exact ⟨_, res2 rfl rfl rfl, by rw [typ_text c4p], H6.pm (by repeat (first | exact Pm.nil _ | constructor))⟩)
      | exact ⟨_, res2 rfl rfl rfl, by rw [e3_], H6.pm (by repeat (first | exact Pm.nil _ | constructor))⟩
      | (have q_ := c0p
         exact absurd hn (by unfold nodeOk; omega))
      | exact ⟨_, res2 rfl rfl rfl, by rw [typ_none (by omega) (by omega) (by omega)], H6.pm (by repeat (first | exact Pm.nil _ | constructor))⟩
      | exact absurd hn (by unfold nodeOk; omega)
   have c3p := oF c3
   have e3_ : (typ (flat x.l) (row.map (symT x.g x.ty)) t) = (symT x.g x.ty (row.getD t.x.at_.toNat 0), 0) := by rw [typ_pick c2p, (show (row.map (symT x.g x.ty)).getD t.x.at_.toNat s0 = symT x.g x.ty (row.getD t.x.at_.toNat 0) from getD_map _ 0 s0 (by omega)), if_neg c3p]
   refine wc_skip ?_
   refine wc_seq ?_
   refine wc_tree [0, 1, 2, 3, 4, 5, 7, 8] (fun W => Holds w [Blk b4 69 [.int .i64 t.x.kind, .int .i64 t.x.at_, .string t.x.name, .slice B t.kids.length k], Blk b3 130 [.slice a.a.k x.g.kinds.length a.a.ck, .slice a.a.p x.g.precs.length a.a.cp, .slice a.a.r x.g.rules.length a.a.cr, .slice a.a.q x.g.prods.length a.a.cq, .int .i64 x.g.start, .slice a.l x.l.length a.cl, .slice a.t x.ty.length a.ct]] W) mixed ?_
   have Hd := H6.drew
   have HSd : Holds w [Blk b4 69 [.int .i64 t.x.kind, .int .i64 t.x.at_, .string t.x.name, .slice B t.kids.length k], Blk b3 130 [.slice a.a.k x.g.kinds.length a.a.ck, .slice a.a.p x.g.precs.length a.a.cp, .slice a.a.r x.g.rules.length a.a.cr, .slice a.a.q x.g.prods.length a.a.cq, .int .i64 x.g.start, .slice a.l x.l.length a.cl, .slice a.t x.ty.length a.ct]] _ := Hd.pm (by repeat constructor)
   refine wjV (k := 0) rfl HSd (fun W HW => v_loadN agg130 rfl rfl (HW.ats (by repeat constructor))) ?_
   refine wjV (k := 1) rfl HSd (fun W HW => v_move rfl) ?_
   refine wjV (k := 2) rfl HSd (fun W HW => v_fb (o2 := 1) fa69_1 rfl rfl) ?_
   refine wjV (k := 3) rfl HSd (fun W HW => v_load one3 rfl (HW.at (by repeat constructor) rfl)) ?_
   refine wjV (k := 4) rfl HSd (fun W HW => v_idx Try.underlying51 sz3 hR.ad rfl rfl (by omega) (by omega)) ?_
   refine wjV (k := 5) rfl HSd (fun W HW => v_load one3 rfl (HW.cell (hR.at1 (by omega) (by omega)))) ?_
   refine wj_t (k := 6) rfl (by kernel_rfl) ?_
   refine wl_call en76 rfl rfl (symbol_calls (hx.below Hd.old) hk (s := row.getD t.x.at_.toNat 0) (hrow _ (by omega))) ?_
   rintro _ w8 ⟨rfl, Hc⟩
   have H9 := Hd.call0 Hc
   have HS10 : Holds w [Blk b4 69 [.int .i64 t.x.kind, .int .i64 t.x.at_, .string t.x.name, .slice B t.kids.length k], Blk b3 130 [.slice a.a.k x.g.kinds.length a.a.ck, .slice a.a.p x.g.precs.length a.a.cp, .slice a.a.r x.g.rules.length a.a.cr, .slice a.a.q x.g.prods.length a.a.cq, .int .i64 x.g.start, .slice a.l x.l.length a.cl, .slice a.t x.ty.length a.ct]] _ := H9.pm (by repeat constructor)
   refine wl_nil (tn ⟨fun _ => HS10, ?_⟩)
   refine wjV (k := 7) rfl HS10 (fun W HW => v_assign rfl) ?_
   refine wjV (k := 8) rfl HS10 (fun W HW => v_assign rfl) ?_
   refine wj_done (by kernel_rfl) ?_
   refine wc_ret ?_
   first
     | (have q_ := c11p
        have c10q := c10p
        have e_ : typs (flat x.l) (row.map (symT x.g x.ty)) (t.kids.take (i + 1)) p.2.fields = 210 := by rw [hss, typ1, if_pos g124p, if_neg (show ¬ _ = p.2.fields.getD i s0 from c10p)]
        have e2_ := typs_stop (P := flat x.l) (sy := (row.map (symT x.g x.ty))) t.kids p.2.fields (i + 1) (by rw [e_]; decide)
        exact ⟨_, res2 rfl rfl rfl, by rw [typ_node c6p hp, if_pos (by omega), e2_, e_]; rfl, H9.pm (by repeat (first | exact Pm.nil _ | constructor))⟩)
     | (have q_ := c11p
        have e_ : typs (flat x.l) (row.map (symT x.g x.ty)) (t.kids.take (i + 1)) p.2.fields = (typ (flat x.l) (row.map (symT x.g x.ty)) (t.kids.getD i ac0)).2 := by rw [hss, typ1, if_neg c11p]
        have e2_ := typs_stop (P := flat x.l) (sy := (row.map (symT x.g x.ty))) t.kids p.2.fields (i + 1) (by rw [e_]; exact c11p)
        exact ⟨_, res2 rfl rfl rfl, by rw [typ_node c6p hp, if_pos (by omega), e2_, e_, if_neg c11p]; rfl, H9.pm (by repeat (first | exact Pm.nil _ | constructor))⟩)
     | (have q_ := c9p
        rw [List.take_of_length_le (by omega)] at hty
        exact ⟨_, res2 rfl rfl rfl, by rw [typ_node c6p hp, if_pos (by omega), if_pos hty, e1_], H9.pm (by repeat (first | exact Pm.nil _ | constructor))⟩)
     | (have q_ := g92p
        have q2_ := c6p
        first
          | exact ⟨_, res2 rfl rfl rfl, by rw [typ_node_no c6p (opt_none g92p)], H9.pm (by repeat (first | exact Pm.nil _ | constructor))⟩
          | exact ⟨_, res2 rfl rfl rfl, by rw [typ_node c6p hp, if_neg (by omega)], H9.pm (by repeat (first | exact Pm.nil _ | constructor))⟩)
     | (have q_ := c4p
        have q2_ := c5p
        exact ⟨_, res2 rfl rfl rfl, by rw [typ_text c4p], H9.pm (by repeat (first | exact Pm.nil _ | constructor))⟩)
     | exact ⟨_, res2 rfl rfl rfl, by rw [e3_], H9.pm (by repeat (first | exact Pm.nil _ | constructor))⟩
     | (have q_ := c0p
        exact absurd hn (by unfold nodeOk; omega))
     | exact ⟨_, res2 rfl rfl rfl, by rw [typ_none (by omega) (by omega) (by omega)], H9.pm (by repeat (first | exact Pm.nil _ | constructor))⟩
     | exact absurd hn (by unfold nodeOk; omega)
  have c2p := oF c2
  refine wcR ?_
  refine wV (v_eql rfl rfl) ?_
  refine wA ?_
  refine wl_nil ?_
  refine wc_cond rfl (fun c4 => ?_) (fun c4 => ?_)
  ·have c4p := oT c4
   refine wc_seq ?_
   refine wcR ?_
   refine wV (v_fb (o2 := 1) fa69_1 rfl rfl) ?_
   refine wV (v_load one3 rfl (H.at (by repeat constructor) rfl)) ?_
   refine wV (v_neq rfl rfl) ?_
   refine wM ?_
   refine wl_guard rfl rfl rfl (fun g73 => ?_) (fun g73 => ?_)
   rotate_left
   ·have g73p := of_nd_t g73
    exact absurd hn (by have h_ := g73p; unfold nodeOk; omega)
   have g73p := of_nd_f g73
   refine wV (v_fb (o2 := 3) fa69_3 rfl rfl) ?_
   refine wO g73 ?_
   refine wV (v_load one67 rfl (H.at (by repeat constructor) rfl)) ?_
   refine wO g73 ?_
   refine wV (v_len Try.underlying67 rfl) ?_
   refine wO g73 ?_
   refine wV (v_gtr rfl rfl) ?_
   refine wV (v_pick_f rfl g73 rfl) ?_
   refine wl_nil ?_
   refine wc_cond rfl (fun c5 => ?_) (fun c5 => ?_)
   ·have c5p := oT c5
    exact absurd hn (by have h_ := c5p; unfold nodeOk; omega)
   have c5p := oF c5
   refine wc_skip ?_
   refine wcR ?_
   refine wA ?_
   refine wA ?_
   refine wl_nil ?_
   refine wc_ret ?_
   first
     | (have q_ := c11p
        have c10q := c10p
        have e_ : typs (flat x.l) (row.map (symT x.g x.ty)) (t.kids.take (i + 1)) p.2.fields = 210 := by rw [hss, typ1, if_pos g124p, if_neg (show ¬ _ = p.2.fields.getD i s0 from c10p)]
        have e2_ := typs_stop (P := flat x.l) (sy := (row.map (symT x.g x.ty))) t.kids p.2.fields (i + 1) (by rw [e_]; decide)
        exact ⟨_, res2 rfl rfl rfl, by rw [typ_node c6p hp, if_pos (by omega), e2_, e_]; rfl, H.pm (by repeat (first | exact Pm.nil _ | constructor))⟩)
     | (have q_ := c11p
        have e_ : typs (flat x.l) (row.map (symT x.g x.ty)) (t.kids.take (i + 1)) p.2.fields = (typ (flat x.l) (row.map (symT x.g x.ty)) (t.kids.getD i ac0)).2 := by rw [hss, typ1, if_neg c11p]
        have e2_ := typs_stop (P := flat x.l) (sy := (row.map (symT x.g x.ty))) t.kids p.2.fields (i + 1) (by rw [e_]; exact c11p)
        exact ⟨_, res2 rfl rfl rfl, by rw [typ_node c6p hp, if_pos (by omega), e2_, e_, if_neg c11p]; rfl, H.pm (by repeat (first | exact Pm.nil _ | constructor))⟩)
     | (have q_ := c9p
        rw [List.take_of_length_le (by omega)] at hty
        exact ⟨_, res2 rfl rfl rfl, by rw [typ_node c6p hp, if_pos (by omega), if_pos hty, e1_], H.pm (by repeat (first | exact Pm.nil _ | constructor))⟩)
     | (have q_ := g92p
        have q2_ := c6p
        first
          | exact ⟨_, res2 rfl rfl rfl, by rw [typ_node_no c6p (opt_none g92p)], H.pm (by repeat (first | exact Pm.nil _ | constructor))⟩
          | exact ⟨_, res2 rfl rfl rfl, by rw [typ_node c6p hp, if_neg (by omega)], H.pm (by repeat (first | exact Pm.nil _ | constructor))⟩)
     | (have q_ := c4p
        have q2_ := c5p
        exact ⟨_, res2 rfl rfl rfl, by rw [typ_text c4p], H.pm (by repeat (first | exact Pm.nil _ | constructor))⟩)
     | exact ⟨_, res2 rfl rfl rfl, by rw [e3_], H.pm (by repeat (first | exact Pm.nil _ | constructor))⟩
     | (have q_ := c0p
        exact absurd hn (by unfold nodeOk; omega))
     | exact ⟨_, res2 rfl rfl rfl, by rw [typ_none (by omega) (by omega) (by omega)], H.pm (by repeat (first | exact Pm.nil _ | constructor))⟩
     | exact absurd hn (by unfold nodeOk; omega)
  have c4p := oF c4
  refine wcR ?_
  refine wV (v_eql rfl rfl) ?_
  refine wA ?_
  refine wl_nil ?_
  refine wc_cond rfl (fun c6 => ?_) (fun c6 => ?_)
  rotate_left
  ·have c6p := oF c6
   refine wc_skip ?_
   refine wcR ?_
   refine wA ?_
   refine wA ?_
   refine wl_nil ?_
   refine wc_ret ?_
   first
     | (have q_ := c11p
        have c10q := c10p
        have e_ : typs (flat x.l) (row.map (symT x.g x.ty)) (t.kids.take (i + 1)) p.2.fields = 210 := by rw [hss, typ1, if_pos g124p, if_neg (show ¬ _ = p.2.fields.getD i s0 from c10p)]
        have e2_ := typs_stop (P := flat x.l) (sy := (row.map (symT x.g x.ty))) t.kids p.2.fields (i + 1) (by rw [e_]; decide)
        exact ⟨_, res2 rfl rfl rfl, by rw [typ_node c6p hp, if_pos (by omega), e2_, e_]; rfl, H.pm (by repeat (first | exact Pm.nil _ | constructor))⟩)
     | (have q_ := c11p
        have e_ : typs (flat x.l) (row.map (symT x.g x.ty)) (t.kids.take (i + 1)) p.2.fields = (typ (flat x.l) (row.map (symT x.g x.ty)) (t.kids.getD i ac0)).2 := by rw [hss, typ1, if_neg c11p]
        have e2_ := typs_stop (P := flat x.l) (sy := (row.map (symT x.g x.ty))) t.kids p.2.fields (i + 1) (by rw [e_]; exact c11p)
        exact ⟨_, res2 rfl rfl rfl, by rw [typ_node c6p hp, if_pos (by omega), e2_, e_, if_neg c11p]; rfl, H.pm (by repeat (first | exact Pm.nil _ | constructor))⟩)
     | (have q_ := c9p
        rw [List.take_of_length_le (by omega)] at hty
        exact ⟨_, res2 rfl rfl rfl, by rw [typ_node c6p hp, if_pos (by omega), if_pos hty, e1_], H.pm (by repeat (first | exact Pm.nil _ | constructor))⟩)
     | (have q_ := g92p
        have q2_ := c6p
        first
          | exact ⟨_, res2 rfl rfl rfl, by rw [typ_node_no c6p (opt_none g92p)], H.pm (by repeat (first | exact Pm.nil _ | constructor))⟩
          | exact ⟨_, res2 rfl rfl rfl, by rw [typ_node c6p hp, if_neg (by omega)], H.pm (by repeat (first | exact Pm.nil _ | constructor))⟩)
     | (have q_ := c4p
        have q2_ := c5p
        exact ⟨_, res2 rfl rfl rfl, by rw [typ_text c4p], H.pm (by repeat (first | exact Pm.nil _ | constructor))⟩)
     | exact ⟨_, res2 rfl rfl rfl, by rw [e3_], H.pm (by repeat (first | exact Pm.nil _ | constructor))⟩
     | (have q_ := c0p
        exact absurd hn (by unfold nodeOk; omega))
     | exact ⟨_, res2 rfl rfl rfl, by rw [typ_none (by omega) (by omega) (by omega)], H.pm (by repeat (first | exact Pm.nil _ | constructor))⟩
     | exact absurd hn (by unfold nodeOk; omega)
  have c6p := oT c6
  refine wcR ?_
  refine wV (v_fb (o2 := 5) fa130_1 rfl rfl) ?_
  refine wV (v_load one45 rfl (H.at (by repeat constructor) rfl)) ?_
  refine wV (v_fb (o2 := 2) fa69_2 rfl rfl) ?_
  refine wV (v_load one9 rfl (H.at (by repeat constructor) rfl)) ?_
  refine wl_call en77 rfl rfl (rctor_calls hk.l hx.l H) ?_
  rintro _ w11 ⟨q9, nm9, R9, k9, rfl, hq, Hc⟩
  refine wM ?_
  refine wV (v_extract rfl rfl) ?_
  refine wV (v_extract rfl rfl) ?_
  refine wV (v_extract rfl rfl) ?_
  refine wl_alloc (cs := [.string ⟨#[]⟩, .slice none 0 0]) Hc rfl zv80 rfl ?_
  intro b10 w12 hb10 H13
  refine wA ?_
  refine wl_store (vs := [_, _]) H13 (by repeat constructor) sz80 rfl rfl rfl rfl rfl (by (repeat constructor)) ?_
  intro w14 H15 hw14
  refine wA ?_
  refine wl_nil ?_
  refine wc_seq ?_
  refine wcR ?_
  refine wM ?_
  refine wV (v_not rfl) ?_
  refine wM ?_
  refine wl_guard rfl rfl rfl (fun g92 => ?_) (fun g92 => ?_)
  rotate_left
  ·have g92p := of_n_t g92
   refine wF g92 ?_
   refine wF g92 ?_
   refine wF g92 ?_
   refine wF g92 ?_
   refine wF g92 ?_
   refine wF g92 ?_
   refine wV (v_pick_t rfl g92 rfl) ?_
   refine wl_nil ?_
   refine wc_cond_t rfl ?_
   refine wcR ?_
   refine wA ?_
   refine wA ?_
   refine wl_nil ?_
   refine wc_ret ?_
   first
     | (have q_ := c11p
        have c10q := c10p
        have e_ : typs (flat x.l) (row.map (symT x.g x.ty)) (t.kids.take (i + 1)) p.2.fields = 210 := by rw [hss, typ1, if_pos g124p, if_neg (show ¬ _ = p.2.fields.getD i s0 from c10p)]
        have e2_ := typs_stop (P := flat x.l) (sy := (row.map (symT x.g x.ty))) t.kids p.2.fields (i + 1) (by rw [e_]; decide)
        exact ⟨_, res2 rfl rfl rfl, by rw [typ_node c6p hp, if_pos (by omega), e2_, e_]; rfl, H15.pm (by repeat (first | exact Pm.nil _ | constructor))⟩)
     | (have q_ := c11p
        have e_ : typs (flat x.l) (row.map (symT x.g x.ty)) (t.kids.take (i + 1)) p.2.fields = (typ (flat x.l) (row.map (symT x.g x.ty)) (t.kids.getD i ac0)).2 := by rw [hss, typ1, if_neg c11p]
        have e2_ := typs_stop (P := flat x.l) (sy := (row.map (symT x.g x.ty))) t.kids p.2.fields (i + 1) (by rw [e_]; exact c11p)
        exact ⟨_, res2 rfl rfl rfl, by rw [typ_node c6p hp, if_pos (by omega), e2_, e_, if_neg c11p]; rfl, H15.pm (by repeat (first | exact Pm.nil _ | constructor))⟩)
     | (have q_ := c9p
        rw [List.take_of_length_le (by omega)] at hty
        exact ⟨_, res2 rfl rfl rfl, by rw [typ_node c6p hp, if_pos (by omega), if_pos hty, e1_], H15.pm (by repeat (first | exact Pm.nil _ | constructor))⟩)
     | (have q_ := g92p
        have q2_ := c6p
        first
          | exact ⟨_, res2 rfl rfl rfl, by rw [typ_node_no c6p (opt_none g92p)], H15.pm (by repeat (first | exact Pm.nil _ | constructor))⟩
          | exact ⟨_, res2 rfl rfl rfl, by rw [typ_node c6p hp, if_neg (by omega)], H15.pm (by repeat (first | exact Pm.nil _ | constructor))⟩)
     | (have q_ := c4p
        have q2_ := c5p
        exact ⟨_, res2 rfl rfl rfl, by rw [typ_text c4p], H15.pm (by repeat (first | exact Pm.nil _ | constructor))⟩)
     | exact ⟨_, res2 rfl rfl rfl, by rw [e3_], H15.pm (by repeat (first | exact Pm.nil _ | constructor))⟩
     | (have q_ := c0p
        exact absurd hn (by unfold nodeOk; omega))
     | exact ⟨_, res2 rfl rfl rfl, by rw [typ_none (by omega) (by omega) (by omega)], H15.pm (by repeat (first | exact Pm.nil _ | constructor))⟩
     | exact absurd hn (by unfold nodeOk; omega)
  have g92p := of_n_f g92
  obtain ⟨p, hp⟩ := Option.isSome_iff_exists.1 g92p
  obtain ⟨e1_, e2_, hq1, hq2⟩ := hq p hp
  subst e2_
  refine wV (v_fb (o2 := 1) fa80_1 rfl rfl) ?_
  refine wO g92 ?_
  refine wV (v_load one40 rfl (H15.at (by repeat constructor) rfl)) ?_
  refine wO g92 ?_
  refine wV (v_len Try.underlying40 rfl) ?_
  refine wO g92 ?_
  refine wV (v_fb (o2 := 3) fa69_3 rfl rfl) ?_
  refine wO g92 ?_
  refine wV (v_load one67 rfl (H15.at (by repeat constructor) rfl)) ?_
  refine wO g92 ?_
  refine wV (v_len Try.underlying67 rfl) ?_
  refine wO g92 ?_
  refine wV (v_neq rfl rfl) ?_
  refine wV (v_pick_f rfl g92 rfl) ?_
  refine wl_nil ?_
  refine wc_cond rfl (fun c7 => ?_) (fun c7 => ?_)
  ·have c7p := of_nd_t c7
   refine wcR ?_
   refine wA ?_
   refine wA ?_
   refine wl_nil ?_
   refine wc_ret ?_
   first
     | (have q_ := c11p
        have c10q := c10p
        have e_ : typs (flat x.l) (row.map (symT x.g x.ty)) (t.kids.take (i + 1)) p.2.fields = 210 := by rw [hss, typ1, if_pos g124p, if_neg (show ¬ _ = p.2.fields.getD i s0 from c10p)]
        have e2_ := typs_stop (P := flat x.l) (sy := (row.map (symT x.g x.ty))) t.kids p.2.fields (i + 1) (by rw [e_]; decide)
        exact ⟨_, res2 rfl rfl rfl, by rw [typ_node c6p hp, if_pos (by omega), e2_, e_]; rfl, H15.pm (by repeat (first | exact Pm.nil _ | constructor))⟩)
     | (have q_ := c11p
        have e_ : typs (flat x.l) (row.map (symT x.g x.ty)) (t.kids.take (i + 1)) p.2.fields = (typ (flat x.l) (row.map (symT x.g x.ty)) (t.kids.getD i ac0)).2 := by rw [hss, typ1, if_neg c11p]
        have e2_ := typs_stop (P := flat x.l) (sy := (row.map (symT x.g x.ty))) t.kids p.2.fields (i + 1) (by rw [e_]; exact c11p)
        exact ⟨_, res2 rfl rfl rfl, by rw [typ_node c6p hp, if_pos (by omega), e2_, e_, if_neg c11p]; rfl, H15.pm (by repeat (first | exact Pm.nil _ | constructor))⟩)
     | (have q_ := c9p
        rw [List.take_of_length_le (by omega)] at hty
        exact ⟨_, res2 rfl rfl rfl, by rw [typ_node c6p hp, if_pos (by omega), if_pos hty, e1_], H15.pm (by repeat (first | exact Pm.nil _ | constructor))⟩)
     | (have q_ := g92p
        have q2_ := c6p
        first
          | exact ⟨_, res2 rfl rfl rfl, by rw [typ_node_no c6p (opt_none g92p)], H15.pm (by repeat (first | exact Pm.nil _ | constructor))⟩
          | exact ⟨_, res2 rfl rfl rfl, by rw [typ_node c6p hp, if_neg (by omega)], H15.pm (by repeat (first | exact Pm.nil _ | constructor))⟩)
     | (have q_ := c4p
        have q2_ := c5p
        exact ⟨_, res2 rfl rfl rfl, by rw [typ_text c4p], H15.pm (by repeat (first | exact Pm.nil _ | constructor))⟩)
     | exact ⟨_, res2 rfl rfl rfl, by rw [e3_], H15.pm (by repeat (first | exact Pm.nil _ | constructor))⟩
     | (have q_ := c0p
        exact absurd hn (by unfold nodeOk; omega))
     | exact ⟨_, res2 rfl rfl rfl, by rw [typ_none (by omega) (by omega) (by omega)], H15.pm (by repeat (first | exact Pm.nil _ | constructor))⟩
     | exact absurd hn (by unfold nodeOk; omega)
  have c7p := of_nd_f c7
  refine wc_skip ?_
  refine wc_seq ?_
  refine wcR ?_
  refine wV (v_fb (o2 := 1) fa69_1 rfl rfl) ?_
  refine wV (v_load one3 rfl (H15.at (by repeat constructor) rfl)) ?_
  refine wV (v_neq rfl rfl) ?_
  refine wl_nil ?_
  refine wc_cond rfl (fun c8 => ?_) (fun c8 => ?_)
  ·have c8p := of_nd_t c8
   exact absurd hn (by have h_ := c8p; unfold nodeOk; omega)
  have c8p := of_nd_f c8
  refine wc_skip ?_
  refine wc_seq ?_
  refine wcR ?_
  refine wA ?_
  refine wl_nil ?_
  refine wc_block ?_
  refine wc_loop (σ := Nat) (fun s => [(2, .slice A row.length cr), (3, .pointer (some ⟨b3, 0, none⟩)), (4, .pointer (some ⟨b4, 0, none⟩)), (9, .string nm9), (10, .pointer (some ⟨b10, 0, none⟩)), (12, .int .i64 s)]) (fun s W => (s ≤ t.kids.length ∧ typs (flat x.l) (row.map (symT x.g x.ty)) (t.kids.take s) p.2.fields = 0) ∧ Holds w [Blk b10 80 [.string p.2.name, .slice R9 p.2.fields.length k9], Blk b4 69 [.int .i64 t.x.kind, .int .i64 t.x.at_, .string t.x.name, .slice B t.kids.length k], Blk b3 130 [.slice a.a.k x.g.kinds.length a.a.ck, .slice a.a.p x.g.precs.length a.a.cp, .slice a.a.r x.g.rules.length a.a.cr, .slice a.a.q x.g.prods.length a.a.cq, .int .i64 x.g.start, .slice a.l x.l.length a.cl, .slice a.t x.ty.length a.ct]] W) (fun s => t.kids.length - s) 0 (sc rfl (sc rfl (sc rfl (sc rfl (sc rfl (sc rfl (sn _))))))) ⟨⟨Nat.zero_le _, by rw [List.take_zero]; exact typs_nil _⟩, H15⟩ ?_
  rintro i W0 ⟨⟨hi, hty⟩, H⟩
  refine wc_seq ?_
  refine wcR ?_
  refine wM ?_
  refine wV (v_fb (o2 := 3) fa69_3 rfl rfl) ?_
  refine wV (v_load one67 rfl (H.at (by repeat constructor) rfl)) ?_
  refine wV (v_len Try.underlying67 rfl) ?_
  refine wV (v_lss rfl rfl) ?_
  refine wl_nil ?_
  refine wc_cond rfl (fun c9 => ?_) (fun c9 => ?_)
  rotate_left
  ·have c9p := oF c9
   refine wc_exit ?_
   refine wcR ?_
   refine wM ?_
   refine wA ?_
   refine wA ?_
   refine wl_nil ?_
   refine wc_ret ?_
   first
     | (have q_ := c11p
        have c10q := c10p
        have e_ : typs (flat x.l) (row.map (symT x.g x.ty)) (t.kids.take (i + 1)) p.2.fields = 210 := by rw [hss, typ1, if_pos g124p, if_neg (show ¬ _ = p.2.fields.getD i s0 from c10p)]
        have e2_ := typs_stop (P := flat x.l) (sy := (row.map (symT x.g x.ty))) t.kids p.2.fields (i + 1) (by rw [e_]; decide)
        exact ⟨_, res2 rfl rfl rfl, by rw [typ_node c6p hp, if_pos (by omega), e2_, e_]; rfl, H.pm (by repeat (first | exact Pm.nil _ | constructor))⟩)
     | (have q_ := c11p
        have e_ : typs (flat x.l) (row.map (symT x.g x.ty)) (t.kids.take (i + 1)) p.2.fields = (typ (flat x.l) (row.map (symT x.g x.ty)) (t.kids.getD i ac0)).2 := by rw [hss, typ1, if_neg c11p]
        have e2_ := typs_stop (P := flat x.l) (sy := (row.map (symT x.g x.ty))) t.kids p.2.fields (i + 1) (by rw [e_]; exact c11p)
        exact ⟨_, res2 rfl rfl rfl, by rw [typ_node c6p hp, if_pos (by omega), e2_, e_, if_neg c11p]; rfl, H.pm (by repeat (first | exact Pm.nil _ | constructor))⟩)
     | (have q_ := c9p
        rw [List.take_of_length_le (by omega)] at hty
        exact ⟨_, res2 rfl rfl rfl, by rw [typ_node c6p hp, if_pos (by omega), if_pos hty, e1_], H.pm (by repeat (first | exact Pm.nil _ | constructor))⟩)
     | (have q_ := g92p
        have q2_ := c6p
        first
          | exact ⟨_, res2 rfl rfl rfl, by rw [typ_node_no c6p (opt_none g92p)], H.pm (by repeat (first | exact Pm.nil _ | constructor))⟩
          | exact ⟨_, res2 rfl rfl rfl, by rw [typ_node c6p hp, if_neg (by omega)], H.pm (by repeat (first | exact Pm.nil _ | constructor))⟩)
     | (have q_ := c4p
        have q2_ := c5p
        exact ⟨_, res2 rfl rfl rfl, by rw [typ_text c4p], H.pm (by repeat (first | exact Pm.nil _ | constructor))⟩)
     | exact ⟨_, res2 rfl rfl rfl, by rw [e3_], H.pm (by repeat (first | exact Pm.nil _ | constructor))⟩
     | (have q_ := c0p
        exact absurd hn (by unfold nodeOk; omega))
     | exact ⟨_, res2 rfl rfl rfl, by rw [typ_none (by omega) (by omega) (by omega)], H.pm (by repeat (first | exact Pm.nil _ | constructor))⟩
     | exact absurd hn (by unfold nodeOk; omega)
  have c9p := oT c9
  have hin : i < t.kids.length := by omega
  refine wc_skip ?_
  refine wc_seq ?_
  refine wc_block ?_
  refine wc_seq ?_
  refine wc_tree [0, 1, 2, 3, 4, 5, 6, 8, 9, 10, 11, 12] (fun W => Holds w [Blk b10 80 [.string p.2.name, .slice R9 p.2.fields.length k9], Blk b4 69 [.int .i64 t.x.kind, .int .i64 t.x.at_, .string t.x.name, .slice B t.kids.length k], Blk b3 130 [.slice a.a.k x.g.kinds.length a.a.ck, .slice a.a.p x.g.precs.length a.a.cp, .slice a.a.r x.g.rules.length a.a.cr, .slice a.a.q x.g.prods.length a.a.cq, .int .i64 x.g.start, .slice a.l x.l.length a.cl, .slice a.t x.ty.length a.ct]] W) mixed ?_
  have Hd := H.drew
  have HSd : Holds w [Blk b10 80 [.string p.2.name, .slice R9 p.2.fields.length k9], Blk b4 69 [.int .i64 t.x.kind, .int .i64 t.x.at_, .string t.x.name, .slice B t.kids.length k], Blk b3 130 [.slice a.a.k x.g.kinds.length a.a.ck, .slice a.a.p x.g.precs.length a.a.cp, .slice a.a.r x.g.rules.length a.a.cr, .slice a.a.q x.g.prods.length a.a.cq, .int .i64 x.g.start, .slice a.l x.l.length a.cl, .slice a.t x.ty.length a.ct]] _ := Hd.pm (by repeat constructor)
  refine wjV (k := 0) rfl HSd (fun W HW => v_loadN agg130 rfl rfl (HW.ats (by repeat constructor))) ?_
  refine wjV (k := 1) rfl HSd (fun W HW => v_fb (o2 := 3) fa69_3 rfl rfl) ?_
  refine wjV (k := 2) rfl HSd (fun W HW => v_load one67 rfl (HW.at (by repeat constructor) rfl)) ?_
  refine wjV (k := 3) rfl HSd (fun W HW => v_move rfl) ?_
  refine wjV (k := 4) rfl HSd (fun W HW => v_idx Try.underlying67 sz69 hr.ad rfl rfl (by omega) (by omega)) ?_
  obtain ⟨B117_, k117_, hc117_, hl117_, hr117_⟩ := hr.atTr ac0 (i := i) (by omega)
  refine wjV (k := 5) rfl HSd (fun W HW => v_loadN (cs := [.int .i64 (t.kids.getD i ac0).x.kind, .int .i64 (t.kids.getD i ac0).x.at_, .string (t.kids.getD i ac0).x.name, .slice B117_ (t.kids.getD i ac0).kids.length k117_]) agg69 rfl rfl (fun q_ u_ hu_ => HW.cell (hc117_ q_ u_ hu_))) ?_
  refine wjV (k := 6) rfl HSd (fun W HW => v_move rfl) ?_
  refine wj_t (k := 7) rfl (by kernel_rfl) ?_
  refine wl_call en52 rfl rfl (ih _ (getD_mem (z := ac0) hin) _ A _ cr _ row (hx.below Hd.old) (hr117_.below Hd.old) (hR.below Hd.old) hrl hrow (Tr.Alls_at ac0 hin hks) (by have h_ := Tr.cnts_succ ac0 t.kids i hin; have h2_ := Tr.cnts_take t.kids (i + 1); omega)) ?_
  rintro _ w16 ⟨rfl, Hc⟩
  have H17 := Hd.call0 Hc
  have hss := typs_succ (P := flat x.l) (sy := (row.map (symT x.g x.ty))) t.kids p.2.fields i hin hty
  have HS18 : Holds w [Blk b10 80 [.string p.2.name, .slice R9 p.2.fields.length k9], Blk b4 69 [.int .i64 t.x.kind, .int .i64 t.x.at_, .string t.x.name, .slice B t.kids.length k], Blk b3 130 [.slice a.a.k x.g.kinds.length a.a.ck, .slice a.a.p x.g.precs.length a.a.cp, .slice a.a.r x.g.rules.length a.a.cr, .slice a.a.q x.g.prods.length a.a.cq, .int .i64 x.g.start, .slice a.l x.l.length a.cl, .slice a.t x.ty.length a.ct]] _ := H17.pm (by repeat constructor)
  refine wl_nil (tn ⟨fun _ => HS18, ?_⟩)
  refine wjV (k := 8) rfl HS18 (fun W HW => v_move rfl) ?_
  refine wjV (k := 9) rfl HS18 (fun W HW => v_extract rfl rfl) ?_
  refine wjV (k := 10) rfl HS18 (fun W HW => v_extract rfl rfl) ?_
  refine wjV (k := 11) rfl HS18 (fun W HW => v_assign rfl) ?_
  refine wjV (k := 12) rfl HS18 (fun W HW => v_assign rfl) ?_
  refine wj_done (by kernel_rfl) ?_
  refine wc_seq ?_
  refine wcR ?_
  refine wM ?_
  refine wV (v_eql rfl rfl) ?_
  refine wM ?_
  refine wl_guard rfl rfl rfl (fun g124 => ?_) (fun g124 => ?_)
  rotate_left
  ·have g124p := oF g124
   refine wF g124 ?_
   refine wF g124 ?_
   refine wF g124 ?_
   refine wF g124 ?_
   refine wF g124 ?_
   refine wF g124 ?_
   refine wV (v_pick_f rfl g124 rfl) ?_
   refine wl_nil ?_
   refine wc_cond_f rfl ?_
   refine wc_skip ?_
   refine wcR ?_
   refine wM ?_
   refine wV (v_neq rfl rfl) ?_
   refine wl_nil ?_
   refine wc_cond rfl (fun c11 => ?_) (fun c11 => ?_)
   rotate_left
   ·have c11p := of_nd_f c11
    refine wc_skip ?_
    refine wc_region ?_
    refine wM ?_
    refine wV (v_addi rfl rfl (by omega)) ?_
    refine wA ?_
    refine wl_nil ?_
    first
      | exact absurd c11p g124p
      | exact absurd c11p (by decide)
      | exact ⟨i + 1, (sc rfl (sc rfl (sc rfl (sc rfl (sc rfl (sc rfl (sn _))))))), ⟨⟨by omega, by rw [hss, typ1, if_pos g124p, if_pos (show _ = p.2.fields.getD i s0 from c10p)]⟩, H17.pm (by repeat constructor)⟩, by omega⟩
   have c11p := of_nd_t c11
   refine wcR ?_
   refine wM ?_
   refine wA ?_
   refine wA ?_
   refine wl_nil ?_
   refine wc_ret ?_
   first
     | (have q_ := c11p
        have c10q := c10p
        have e_ : typs (flat x.l) (row.map (symT x.g x.ty)) (t.kids.take (i + 1)) p.2.fields = 210 := by rw [hss, typ1, if_pos g124p, if_neg (show ¬ _ = p.2.fields.getD i s0 from c10p)]
        have e2_ := typs_stop (P := flat x.l) (sy := (row.map (symT x.g x.ty))) t.kids p.2.fields (i + 1) (by rw [e_]; decide)
        exact ⟨_, res2 rfl rfl rfl, by rw [typ_node c6p hp, if_pos (by omega), e2_, e_]; rfl, H17.pm (by repeat (first | exact Pm.nil _ | constructor))⟩)
     | (have q_ := c11p
        have e_ : typs (flat x.l) (row.map (symT x.g x.ty)) (t.kids.take (i + 1)) p.2.fields = (typ (flat x.l) (row.map (symT x.g x.ty)) (t.kids.getD i ac0)).2 := by rw [hss, typ1, if_neg c11p]
        have e2_ := typs_stop (P := flat x.l) (sy := (row.map (symT x.g x.ty))) t.kids p.2.fields (i + 1) (by rw [e_]; exact c11p)
        exact ⟨_, res2 rfl rfl rfl, by rw [typ_node c6p hp, if_pos (by omega), e2_, e_, if_neg c11p]; rfl, H17.pm (by repeat (first | exact Pm.nil _ | constructor))⟩)
     | (have q_ := c9p
        rw [List.take_of_length_le (by omega)] at hty
        exact ⟨_, res2 rfl rfl rfl, by rw [typ_node c6p hp, if_pos (by omega), if_pos hty, e1_], H17.pm (by repeat (first | exact Pm.nil _ | constructor))⟩)
     | (have q_ := g92p
        have q2_ := c6p
        first
          | exact ⟨_, res2 rfl rfl rfl, by rw [typ_node_no c6p (opt_none g92p)], H17.pm (by repeat (first | exact Pm.nil _ | constructor))⟩
          | exact ⟨_, res2 rfl rfl rfl, by rw [typ_node c6p hp, if_neg (by omega)], H17.pm (by repeat (first | exact Pm.nil _ | constructor))⟩)
     | (have q_ := c4p
        have q2_ := c5p
        exact ⟨_, res2 rfl rfl rfl, by rw [typ_text c4p], H17.pm (by repeat (first | exact Pm.nil _ | constructor))⟩)
     | exact ⟨_, res2 rfl rfl rfl, by rw [e3_], H17.pm (by repeat (first | exact Pm.nil _ | constructor))⟩
     | (have q_ := c0p
        exact absurd hn (by unfold nodeOk; omega))
     | exact ⟨_, res2 rfl rfl rfl, by rw [typ_none (by omega) (by omega) (by omega)], H17.pm (by repeat (first | exact Pm.nil _ | constructor))⟩
     | exact absurd hn (by unfold nodeOk; omega)
  have g124p := oT g124
  refine wM ?_
  refine wO g124 ?_
  refine wV (v_fb (o2 := 1) fa80_1 rfl rfl) ?_
  refine wO g124 ?_
  refine wV (v_load one40 rfl (H17.at (by repeat constructor) rfl)) ?_
  refine wO g124 ?_
  refine wM ?_
  refine wO g124 ?_
  refine wV (v_idx Try.underlying40 sz9 hq2.ad rfl rfl (by omega) (by omega)) ?_
  refine wO g124 ?_
  refine wV (v_load one9 rfl (H17.cell (hq2.at1sN (i := i) (by omega)))) ?_
  refine wO g124 ?_
  refine wV (v_neqs rfl rfl) ?_
  refine wV (v_pick_t rfl g124 rfl) ?_
  refine wl_nil ?_
  refine wc_cond rfl (fun c10 => ?_) (fun c10 => ?_)
  rotate_left
  ·have c10p := of_nd_f c10
   refine wc_skip ?_
   refine wcR ?_
   refine wM ?_
   refine wV (v_neq rfl rfl) ?_
   refine wl_nil ?_
   refine wc_cond rfl (fun c11 => ?_) (fun c11 => ?_)
   rotate_left
   ·have c11p := of_nd_f c11
    refine wc_skip ?_
    refine wc_region ?_
    refine wM ?_
    refine wV (v_addi rfl rfl (by omega)) ?_
    refine wA ?_
    refine wl_nil ?_
    first
      | exact absurd c11p g124p
      | exact absurd c11p (by decide)
      | exact ⟨i + 1, (sc rfl (sc rfl (sc rfl (sc rfl (sc rfl (sc rfl (sn _))))))), ⟨⟨by omega, by rw [hss, typ1, if_pos g124p, if_pos (show _ = p.2.fields.getD i s0 from c10p)]⟩, H17.pm (by repeat constructor)⟩, by omega⟩
   have c11p := of_nd_t c11
   refine wcR ?_
   refine wM ?_
   refine wA ?_
   refine wA ?_
   refine wl_nil ?_
   refine wc_ret ?_
   first
     | (have q_ := c11p
        have c10q := c10p
        have e_ : typs (flat x.l) (row.map (symT x.g x.ty)) (t.kids.take (i + 1)) p.2.fields = 210 := by rw [hss, typ1, if_pos g124p, if_neg (show ¬ _ = p.2.fields.getD i s0 from c10p)]
        have e2_ := typs_stop (P := flat x.l) (sy := (row.map (symT x.g x.ty))) t.kids p.2.fields (i + 1) (by rw [e_]; decide)
        exact ⟨_, res2 rfl rfl rfl, by rw [typ_node c6p hp, if_pos (by omega), e2_, e_]; rfl, H17.pm (by repeat (first | exact Pm.nil _ | constructor))⟩)
     | (have q_ := c11p
        have e_ : typs (flat x.l) (row.map (symT x.g x.ty)) (t.kids.take (i + 1)) p.2.fields = (typ (flat x.l) (row.map (symT x.g x.ty)) (t.kids.getD i ac0)).2 := by rw [hss, typ1, if_neg c11p]
        have e2_ := typs_stop (P := flat x.l) (sy := (row.map (symT x.g x.ty))) t.kids p.2.fields (i + 1) (by rw [e_]; exact c11p)
        exact ⟨_, res2 rfl rfl rfl, by rw [typ_node c6p hp, if_pos (by omega), e2_, e_, if_neg c11p]; rfl, H17.pm (by repeat (first | exact Pm.nil _ | constructor))⟩)
     | (have q_ := c9p
        rw [List.take_of_length_le (by omega)] at hty
        exact ⟨_, res2 rfl rfl rfl, by rw [typ_node c6p hp, if_pos (by omega), if_pos hty, e1_], H17.pm (by repeat (first | exact Pm.nil _ | constructor))⟩)
     | (have q_ := g92p
        have q2_ := c6p
        first
          | exact ⟨_, res2 rfl rfl rfl, by rw [typ_node_no c6p (opt_none g92p)], H17.pm (by repeat (first | exact Pm.nil _ | constructor))⟩
          | exact ⟨_, res2 rfl rfl rfl, by rw [typ_node c6p hp, if_neg (by omega)], H17.pm (by repeat (first | exact Pm.nil _ | constructor))⟩)
     | (have q_ := c4p
        have q2_ := c5p
        exact ⟨_, res2 rfl rfl rfl, by rw [typ_text c4p], H17.pm (by repeat (first | exact Pm.nil _ | constructor))⟩)
     | exact ⟨_, res2 rfl rfl rfl, by rw [e3_], H17.pm (by repeat (first | exact Pm.nil _ | constructor))⟩
     | (have q_ := c0p
        exact absurd hn (by unfold nodeOk; omega))
     | exact ⟨_, res2 rfl rfl rfl, by rw [typ_none (by omega) (by omega) (by omega)], H17.pm (by repeat (first | exact Pm.nil _ | constructor))⟩
     | exact absurd hn (by unfold nodeOk; omega)
  have c10p := of_nd_t c10
  refine wc_region ?_
  refine wA ?_
  refine wl_nil ?_
  refine wcR ?_
  refine wM ?_
  refine wV (v_neq rfl rfl) ?_
  refine wl_nil ?_
  refine wc_cond rfl (fun c11 => ?_) (fun c11 => ?_)
  rotate_left
  ·have c11p := of_nd_f c11
   refine wc_skip ?_
   refine wc_region ?_
   refine wM ?_
   refine wV (v_addi rfl rfl (by omega)) ?_
   refine wA ?_
   refine wl_nil ?_
   first
     | exact absurd c11p g124p
     | exact absurd c11p (by decide)
     | exact ⟨i + 1, (sc rfl (sc rfl (sc rfl (sc rfl (sc rfl (sc rfl (sn _))))))), ⟨⟨by omega, by rw [hss, typ1, if_pos g124p, if_pos (show _ = p.2.fields.getD i s0 from c10p)]⟩, H17.pm (by repeat constructor)⟩, by omega⟩
  have c11p := of_nd_t c11
  refine wcR ?_
  refine wM ?_
  refine wA ?_
  refine wA ?_
  refine wl_nil ?_
  refine wc_ret ?_
  first
    | (have q_ := c11p
       have c10q := c10p
       have e_ : typs (flat x.l) (row.map (symT x.g x.ty)) (t.kids.take (i + 1)) p.2.fields = 210 := by rw [hss, typ1, if_pos g124p, if_neg (show ¬ _ = p.2.fields.getD i s0 from c10p)]
       have e2_ := typs_stop (P := flat x.l) (sy := (row.map (symT x.g x.ty))) t.kids p.2.fields (i + 1) (by rw [e_]; decide)
       exact ⟨_, res2 rfl rfl rfl, by rw [typ_node c6p hp, if_pos (by omega), e2_, e_]; rfl, H17.pm (by repeat (first | exact Pm.nil _ | constructor))⟩)
    | (have q_ := c11p
       have e_ : typs (flat x.l) (row.map (symT x.g x.ty)) (t.kids.take (i + 1)) p.2.fields = (typ (flat x.l) (row.map (symT x.g x.ty)) (t.kids.getD i ac0)).2 := by rw [hss, typ1, if_neg c11p]
       have e2_ := typs_stop (P := flat x.l) (sy := (row.map (symT x.g x.ty))) t.kids p.2.fields (i + 1) (by rw [e_]; exact c11p)
       exact ⟨_, res2 rfl rfl rfl, by rw [typ_node c6p hp, if_pos (by omega), e2_, e_, if_neg c11p]; rfl, H17.pm (by repeat (first | exact Pm.nil _ | constructor))⟩)
    | (have q_ := c9p
       rw [List.take_of_length_le (by omega)] at hty
       exact ⟨_, res2 rfl rfl rfl, by rw [typ_node c6p hp, if_pos (by omega), if_pos hty, e1_], H17.pm (by repeat (first | exact Pm.nil _ | constructor))⟩)
    | (have q_ := g92p
       have q2_ := c6p
       first
         | exact ⟨_, res2 rfl rfl rfl, by rw [typ_node_no c6p (opt_none g92p)], H17.pm (by repeat (first | exact Pm.nil _ | constructor))⟩
         | exact ⟨_, res2 rfl rfl rfl, by rw [typ_node c6p hp, if_neg (by omega)], H17.pm (by repeat (first | exact Pm.nil _ | constructor))⟩)
    | (have q_ := c4p
       have q2_ := c5p
       exact ⟨_, res2 rfl rfl rfl, by rw [typ_text c4p], H17.pm (by repeat (first | exact Pm.nil _ | constructor))⟩)
    | exact ⟨_, res2 rfl rfl rfl, by rw [e3_], H17.pm (by repeat (first | exact Pm.nil _ | constructor))⟩
    | (have q_ := c0p
       exact absurd hn (by unfold nodeOk; omega))
    | exact ⟨_, res2 rfl rfl rfl, by rw [typ_none (by omega) (by omega) (by omega)], H17.pm (by repeat (first | exact Pm.nil _ | constructor))⟩
    | exact absurd hn (by unfold nodeOk; omega)

theorem fits_calls {x : Gv} {a : GvA} (hk : x.ok a) : ∀ t : Ac, FitsOk x a t := Tr.ind fun y kids ih => fun w A B cr k row hx hr hR hrl hrow hall hcn => fits_step (t := .mk y kids) hk hx hr hR hrl hrow hall hcn ih

set_option maxHeartbeats 6400000 in
set_option maxRecDepth 100000 in
theorem rcheck_calls {x : Gv} {a : GvA} {w : World} (hx : x.rd w a) (hk : x.ok a) : Calls Try.prog 20 #[.agg #[.slice a.a.k x.g.kinds.length a.a.ck, .slice a.a.p x.g.precs.length a.a.cp, .slice a.a.r x.g.rules.length a.a.cr, .slice a.a.q x.g.prods.length a.a.cq, .int .i64 x.g.start], .slice a.l x.l.length a.cl, .slice a.t x.ty.length a.ct] w fun e w' => ∃ v, e = .returned v ∧ ∃ p q : Int, v = .tuple #[.int .i64 p, .int .i64 q] ∧ (ChkOk x.g x.l x.ty → q = 0) ∧ Holds w [] w' := by
  have htl := hk.tl
  have hty := hx.t
  have hgq := hk.g.q
  have hgr := hk.g.r
  refine calls_of Try.func20 rfl Try.ntmps20 rfl ?_
  have H := Holds.start w
  refine wcR ?_
  refine wl_box (cs := [_, _, _, _, _]) H rfl rfl rfl ?_
  intro b3 w1 hb3 H2
  refine wA ?_
  refine wA ?_
  refine wl_nil ?_
  refine wc_seq ?_
  refine wcR ?_
  refine wV (v_loadN agg44 rfl rfl (H2.ats (by repeat constructor))) ?_
  refine wl_call en42 rfl rfl (right_calls (hx.g.below H2.old) hk.g) ?_
  rintro _ w3 ⟨rfl, Hc⟩
  have H4 := H2.call0 Hc
  refine wV (v_not rfl) ?_
  refine wl_nil ?_
  refine wc_cond rfl (fun c0 => ?_) (fun c0 => ?_)
  ·have c0p := of_n_t c0
   refine wcR ?_
   refine wA ?_
   refine wA ?_
   refine wl_nil ?_
   refine wc_ret ?_
   first
     | exact ⟨_, res2 rfl rfl rfl, _, _, rfl, (fun hh => rfl), H4.pm (by repeat (first | exact Pm.nil _ | constructor))⟩
     | exact ⟨_, res2 rfl rfl rfl, _, _, rfl, (fun hh => absurd hh.1 (of_ndec (of_n_t c0))), H4.pm (by repeat (first | exact Pm.nil _ | constructor))⟩
     | exact ⟨_, res2 rfl rfl rfl, _, _, rfl, (fun hh => hh.2.1), H4.pm (by repeat (first | exact Pm.nil _ | constructor))⟩
     | exact ⟨_, res2 rfl rfl rfl, _, _, rfl, (fun hh => absurd hh.2.2.1 (by omega)), H4.pm (by repeat (first | exact Pm.nil _ | constructor))⟩
     | exact ⟨_, res2 rfl rfl rfl, _, _, rfl, (fun hh => (hh.2.2.2.1 i hin).elim (fun h => absurd h g39p) (fun h => h.elim (fun h => absurd h g46p) (fun h => by have h2_ := hm.2 h; omega))), H4.pm (by repeat (first | exact Pm.nil _ | constructor))⟩
     | exact ⟨_, res2 rfl rfl rfl, _, _, rfl, (fun hh => absurd (hh.2.2.2.2 i hin) (by rw [prodE, typ1, if_pos g85p, if_neg (show ¬ _ = x.ty.getD (x.g.prods.getD i pr0).left.toNat s0 from c6p)]; decide)), H4.pm (by repeat (first | exact Pm.nil _ | constructor))⟩
     | exact ⟨_, res2 rfl rfl rfl, _, _, rfl, (fun hh => absurd (hh.2.2.2.2 i hin) (by rw [prodE, typ1, if_neg c7p]; exact c7p)), H4.pm (by repeat (first | exact Pm.nil _ | constructor))⟩
     | exact absurd c7p (by decide)
     | exact absurd g85p c7p
   
  have c0p := of_n_f c0
  have hG := of_dec (of_n_f c0)
  refine wc_skip ?_
  refine wcR ?_
  refine wM ?_
  refine wl_call en50 rfl rfl (rdatas_calls hk.l (hx.l.below H4.old) hk.cl) ?_
  rintro _ w5 ⟨rfl, Hc⟩
  have H6 := H4.call0 Hc
  refine wA ?_
  refine wl_nil ?_
  refine wc_seq ?_
  refine wcR ?_
  refine wM ?_
  refine wV (v_neq rfl rfl) ?_
  refine wl_nil ?_
  refine wc_cond rfl (fun c1 => ?_) (fun c1 => ?_)
  ·have c1p := of_nd_t c1
   refine wcR ?_
   refine wM ?_
   refine wA ?_
   refine wA ?_
   refine wl_nil ?_
   refine wc_ret ?_
   first
     | exact ⟨_, res2 rfl rfl rfl, _, _, rfl, (fun hh => rfl), H6.pm (by repeat (first | exact Pm.nil _ | constructor))⟩
     | exact ⟨_, res2 rfl rfl rfl, _, _, rfl, (fun hh => absurd hh.1 (of_ndec (of_n_t c0))), H6.pm (by repeat (first | exact Pm.nil _ | constructor))⟩
     | exact ⟨_, res2 rfl rfl rfl, _, _, rfl, (fun hh => hh.2.1), H6.pm (by repeat (first | exact Pm.nil _ | constructor))⟩
     | exact ⟨_, res2 rfl rfl rfl, _, _, rfl, (fun hh => absurd hh.2.2.1 (by omega)), H6.pm (by repeat (first | exact Pm.nil _ | constructor))⟩
     | exact ⟨_, res2 rfl rfl rfl, _, _, rfl, (fun hh => (hh.2.2.2.1 i hin).elim (fun h => absurd h g39p) (fun h => h.elim (fun h => absurd h g46p) (fun h => by have h2_ := hm.2 h; omega))), H6.pm (by repeat (first | exact Pm.nil _ | constructor))⟩
     | exact ⟨_, res2 rfl rfl rfl, _, _, rfl, (fun hh => absurd (hh.2.2.2.2 i hin) (by rw [prodE, typ1, if_pos g85p, if_neg (show ¬ _ = x.ty.getD (x.g.prods.getD i pr0).left.toNat s0 from c6p)]; decide)), H6.pm (by repeat (first | exact Pm.nil _ | constructor))⟩
     | exact ⟨_, res2 rfl rfl rfl, _, _, rfl, (fun hh => absurd (hh.2.2.2.2 i hin) (by rw [prodE, typ1, if_neg c7p]; exact c7p)), H6.pm (by repeat (first | exact Pm.nil _ | constructor))⟩
     | exact absurd c7p (by decide)
     | exact absurd g85p c7p
   
  have c1p := of_nd_f c1
  refine wc_skip ?_
  refine wc_seq ?_
  refine wcR ?_
  refine wM ?_
  refine wV (v_len Try.underlying40 rfl) ?_
  refine wV (v_fb (o2 := 2) fa44_2 rfl rfl) ?_
  refine wV (v_load one40 rfl (H6.at (by repeat constructor) rfl)) ?_
  refine wV (v_len Try.underlying40 rfl) ?_
  refine wV (v_neq rfl rfl) ?_
  refine wl_nil ?_
  refine wc_cond rfl (fun c2 => ?_) (fun c2 => ?_)
  ·have c2p := of_nd_t c2
   refine wcR ?_
   refine wA ?_
   refine wA ?_
   refine wl_nil ?_
   refine wc_ret ?_
   first
     | exact ⟨_, res2 rfl rfl rfl, _, _, rfl, (fun hh => rfl), H6.pm (by repeat (first | exact Pm.nil _ | constructor))⟩
     | exact ⟨_, res2 rfl rfl rfl, _, _, rfl, (fun hh => absurd hh.1 (of_ndec (of_n_t c0))), H6.pm (by repeat (first | exact Pm.nil _ | constructor))⟩
     | exact ⟨_, res2 rfl rfl rfl, _, _, rfl, (fun hh => hh.2.1), H6.pm (by repeat (first | exact Pm.nil _ | constructor))⟩
     | exact ⟨_, res2 rfl rfl rfl, _, _, rfl, (fun hh => absurd hh.2.2.1 (by omega)), H6.pm (by repeat (first | exact Pm.nil _ | constructor))⟩
     | exact ⟨_, res2 rfl rfl rfl, _, _, rfl, (fun hh => (hh.2.2.2.1 i hin).elim (fun h => absurd h g39p) (fun h => h.elim (fun h => absurd h g46p) (fun h => by have h2_ := hm.2 h; omega))), H6.pm (by repeat (first | exact Pm.nil _ | constructor))⟩
     | exact ⟨_, res2 rfl rfl rfl, _, _, rfl, (fun hh => absurd (hh.2.2.2.2 i hin) (by rw [prodE, typ1, if_pos g85p, if_neg (show ¬ _ = x.ty.getD (x.g.prods.getD i pr0).left.toNat s0 from c6p)]; decide)), H6.pm (by repeat (first | exact Pm.nil _ | constructor))⟩
     | exact ⟨_, res2 rfl rfl rfl, _, _, rfl, (fun hh => absurd (hh.2.2.2.2 i hin) (by rw [prodE, typ1, if_neg c7p]; exact c7p)), H6.pm (by repeat (first | exact Pm.nil _ | constructor))⟩
     | exact absurd c7p (by decide)
     | exact absurd g85p c7p
   
  have c2p := of_nd_f c2
  refine wc_skip ?_
  refine wc_seq ?_
  refine wcR ?_
  refine wA ?_
  refine wl_nil ?_
  refine wc_block ?_
  refine wc_loop (σ := Nat) (fun s => [(1, .slice a.l x.l.length a.cl), (2, .slice a.t x.ty.length a.ct), (3, .pointer (some ⟨b3, 0, none⟩)), (9, .int .i64 s)]) (fun s W => s ≤ x.ty.length ∧ Holds w [Blk b3 44 [.slice a.a.k x.g.kinds.length a.a.ck, .slice a.a.p x.g.precs.length a.a.cp, .slice a.a.r x.g.rules.length a.a.cr, .slice a.a.q x.g.prods.length a.a.cq, .int .i64 x.g.start]] W) (fun s => x.ty.length - s) 0 (sc rfl (sc rfl (sc rfl (sc rfl (sn _))))) ⟨Nat.zero_le _, H6⟩ ?_
  rintro i W0 ⟨hi, H⟩
  refine wc_seq ?_
  refine wcR ?_
  refine wM ?_
  refine wM ?_
  refine wV (v_len Try.underlying40 rfl) ?_
  refine wV (v_lss rfl rfl) ?_
  refine wl_nil ?_
  refine wc_cond rfl (fun c3 => ?_) (fun c3 => ?_)
  ·have c3p := oT c3
   have hin : i < x.ty.length := by omega
   refine wc_skip ?_
   refine wc_seq ?_
   refine wc_block ?_
   refine wcR ?_
   refine wM ?_
   refine wM ?_
   refine wV (v_idx Try.underlying40 sz9 hty.ad rfl rfl (by omega) (by omega)) ?_
   refine wV (v_load one9 rfl (H.cell (hty.at1sN (i := i) (by omega)))) ?_
   refine wV (v_neqs rfl rfl) ?_
   refine wM ?_
   refine wl_guard rfl rfl rfl (fun g39 => ?_) (fun g39 => ?_)
   rotate_left
   ·have g39p := of_nd_f g39
    refine wF g39 ?_
    refine wF g39 ?_
    refine wF g39 ?_
    refine wF g39 ?_
    refine wV (v_pick_f rfl g39 rfl) ?_
    refine wM ?_
    refine wF rfl ?_
    refine wF rfl ?_
    refine wF rfl ?_
    refine wF rfl ?_
    refine wF rfl ?_
    refine wF rfl ?_
    refine wF rfl ?_
    refine wV (v_pick_f rfl rfl rfl) ?_
    refine wl_nil ?_
    refine wc_cond_f rfl ?_
    refine wc_skip ?_
    refine wc_region ?_
    refine wM ?_
    refine wV (v_addi rfl rfl (by omega)) ?_
    refine wA ?_
    refine wl_nil ?_
    exact ⟨i + 1, (sc rfl (sc rfl (sc rfl (sc rfl (sn _))))), ⟨by omega, H⟩, by omega⟩
   have g39p := of_nd_t g39
   refine wM ?_
   refine wO g39 ?_
   refine wM ?_
   refine wO g39 ?_
   refine wV (v_idx Try.underlying40 sz9 hty.ad rfl rfl (by omega) (by omega)) ?_
   refine wO g39 ?_
   refine wV (v_load one9 rfl (H.cell (hty.at1sN (i := i) (by omega)))) ?_
   refine wO g39 ?_
   refine wV (v_neqs rfl rfl) ?_
   refine wV (v_pick_t rfl g39 rfl) ?_
   refine wM ?_
   refine wl_guard rfl rfl rfl (fun g46 => ?_) (fun g46 => ?_)
   rotate_left
   ·have g46p := of_nd_f g46
    refine wF g46 ?_
    refine wF g46 ?_
    refine wF g46 ?_
    refine wF g46 ?_
    refine wF g46 ?_
    refine wF g46 ?_
    refine wV (v_pick_f rfl g46 rfl) ?_
    refine wl_nil ?_
    refine wc_cond_f rfl ?_
    refine wc_skip ?_
    refine wc_region ?_
    refine wM ?_
    refine wV (v_addi rfl rfl (by omega)) ?_
    refine wA ?_
    refine wl_nil ?_
    exact ⟨i + 1, (sc rfl (sc rfl (sc rfl (sc rfl (sn _))))), ⟨by omega, H⟩, by omega⟩
   have g46p := of_nd_t g46
   refine wM ?_
   refine wO g46 ?_
   refine wM ?_
   refine wO g46 ?_
   refine wM ?_
   refine wO g46 ?_
   refine wV (v_idx Try.underlying40 sz9 hty.ad rfl rfl (by omega) (by omega)) ?_
   refine wO g46 ?_
   refine wV (v_load one9 rfl (H.cell (hty.at1sN (i := i) (by omega)))) ?_
   refine wO g46 ?_
   refine wl_call en51 rfl rfl (data_calls (l := x.l) (cd := a.cl) (s := x.ty.getD i s0) hk.l.len (hx.l.below H.old)) ?_
   rintro _ w7 ⟨m, rfl, hm, Hc⟩
   have H8 := H.call0 Hc
   refine wO g46 ?_
   refine wV (v_lss rfl rfl) ?_
   refine wV (v_pick_t rfl g46 rfl) ?_
   refine wl_nil ?_
   refine wc_cond rfl (fun c4 => ?_) (fun c4 => ?_)
   rotate_left
   ·have c4p := oF c4
    refine wc_skip ?_
    refine wc_region ?_
    refine wM ?_
    refine wV (v_addi rfl rfl (by omega)) ?_
    refine wA ?_
    refine wl_nil ?_
    exact ⟨i + 1, (sc rfl (sc rfl (sc rfl (sc rfl (sn _))))), ⟨by omega, H8⟩, by omega⟩
   have c4p := oT c4
   refine wcR ?_
   refine wA ?_
   refine wA ?_
   refine wl_nil ?_
   refine wc_ret ?_
   first
     | exact ⟨_, res2 rfl rfl rfl, _, _, rfl, (fun hh => rfl), H8.pm (by repeat (first | exact Pm.nil _ | constructor))⟩
     | exact ⟨_, res2 rfl rfl rfl, _, _, rfl, (fun hh => absurd hh.1 (of_ndec (of_n_t c0))), H8.pm (by repeat (first | exact Pm.nil _ | constructor))⟩
     | exact ⟨_, res2 rfl rfl rfl, _, _, rfl, (fun hh => hh.2.1), H8.pm (by repeat (first | exact Pm.nil _ | constructor))⟩
     | exact ⟨_, res2 rfl rfl rfl, _, _, rfl, (fun hh => absurd hh.2.2.1 (by omega)), H8.pm (by repeat (first | exact Pm.nil _ | constructor))⟩
     | exact ⟨_, res2 rfl rfl rfl, _, _, rfl, (fun hh => (hh.2.2.2.1 i hin).elim (fun h => absurd h g39p) (fun h => h.elim (fun h => absurd h g46p) (fun h => by have h2_ := hm.2 h; omega))), H8.pm (by repeat (first | exact Pm.nil _ | constructor))⟩
     | exact ⟨_, res2 rfl rfl rfl, _, _, rfl, (fun hh => absurd (hh.2.2.2.2 i hin) (by rw [prodE, typ1, if_pos g85p, if_neg (show ¬ _ = x.ty.getD (x.g.prods.getD i pr0).left.toNat s0 from c6p)]; decide)), H8.pm (by repeat (first | exact Pm.nil _ | constructor))⟩
     | exact ⟨_, res2 rfl rfl rfl, _, _, rfl, (fun hh => absurd (hh.2.2.2.2 i hin) (by rw [prodE, typ1, if_neg c7p]; exact c7p)), H8.pm (by repeat (first | exact Pm.nil _ | constructor))⟩
     | exact absurd c7p (by decide)
     | exact absurd g85p c7p
   
  have c3p := oF c3
  refine wc_exit ?_
  refine wcR ?_
  refine wV (v_loadN agg44 rfl rfl (H.ats (by repeat constructor))) ?_
  refine wM ?_
  refine wM ?_
  refine wV (v_bld ba130 rfl (by repeat constructor)) ?_
  refine wl_alloc (cs := [.slice none 0 0, .slice none 0 0, .slice none 0 0, .slice none 0 0, .int .i64 0, .slice none 0 0, .slice none 0 0]) H rfl zv130 rfl ?_
  intro b10 w9 hb10 H10
  refine wl_store (vs := [_, _, _, _, _, _, _]) H10 (by repeat constructor) sz130 rfl rfl rfl rfl rfl (by (repeat constructor)) ?_
  intro w11 H12 hw11
  refine wl_nil ?_
  refine wc_seq ?_
  refine wcR ?_
  refine wA ?_
  refine wl_nil ?_
  refine wc_block ?_
  refine wc_loop (σ := Nat) (fun s => [(1, .slice a.l x.l.length a.cl), (2, .slice a.t x.ty.length a.ct), (3, .pointer (some ⟨b3, 0, none⟩)), (10, .pointer (some ⟨b10, 0, none⟩)), (11, .int .i64 s)]) (fun s W => s ≤ x.g.prods.length ∧ Holds w [Blk b10 130 [.slice a.a.k x.g.kinds.length a.a.ck, .slice a.a.p x.g.precs.length a.a.cp, .slice a.a.r x.g.rules.length a.a.cr, .slice a.a.q x.g.prods.length a.a.cq, .int .i64 x.g.start, .slice a.l x.l.length a.cl, .slice a.t x.ty.length a.ct], Blk b3 44 [.slice a.a.k x.g.kinds.length a.a.ck, .slice a.a.p x.g.precs.length a.a.cp, .slice a.a.r x.g.rules.length a.a.cr, .slice a.a.q x.g.prods.length a.a.cq, .int .i64 x.g.start]] W) (fun s => x.g.prods.length - s) 0 (sc rfl (sc rfl (sc rfl (sc rfl (sc rfl (sn _)))))) ⟨Nat.zero_le _, H12.pm (by repeat constructor)⟩ ?_
  rintro i W1 ⟨hi, H⟩
  refine wc_seq ?_
  refine wcR ?_
  refine wM ?_
  refine wV (v_fb (o2 := 3) fa44_3 rfl rfl) ?_
  refine wV (v_load one42 rfl (H.at (by repeat constructor) rfl)) ?_
  refine wV (v_len Try.underlying42 rfl) ?_
  refine wV (v_lss rfl rfl) ?_
  refine wl_nil ?_
  refine wc_cond rfl (fun c5 => ?_) (fun c5 => ?_)
  rotate_left
  ·have c5p := oF c5
   refine wc_exit ?_
   refine wcR ?_
   refine wA ?_
   refine wA ?_
   refine wl_nil ?_
   refine wc_ret ?_
   first
     | exact ⟨_, res2 rfl rfl rfl, _, _, rfl, (fun hh => rfl), H.pm (by repeat (first | exact Pm.nil _ | constructor))⟩
     | exact ⟨_, res2 rfl rfl rfl, _, _, rfl, (fun hh => absurd hh.1 (of_ndec (of_n_t c0))), H.pm (by repeat (first | exact Pm.nil _ | constructor))⟩
     | exact ⟨_, res2 rfl rfl rfl, _, _, rfl, (fun hh => hh.2.1), H.pm (by repeat (first | exact Pm.nil _ | constructor))⟩
     | exact ⟨_, res2 rfl rfl rfl, _, _, rfl, (fun hh => absurd hh.2.2.1 (by omega)), H.pm (by repeat (first | exact Pm.nil _ | constructor))⟩
     | exact ⟨_, res2 rfl rfl rfl, _, _, rfl, (fun hh => (hh.2.2.2.1 i hin).elim (fun h => absurd h g39p) (fun h => h.elim (fun h => absurd h g46p) (fun h => by have h2_ := hm.2 h; omega))), H.pm (by repeat (first | exact Pm.nil _ | constructor))⟩
     | exact ⟨_, res2 rfl rfl rfl, _, _, rfl, (fun hh => absurd (hh.2.2.2.2 i hin) (by rw [prodE, typ1, if_pos g85p, if_neg (show ¬ _ = x.ty.getD (x.g.prods.getD i pr0).left.toNat s0 from c6p)]; decide)), H.pm (by repeat (first | exact Pm.nil _ | constructor))⟩
     | exact ⟨_, res2 rfl rfl rfl, _, _, rfl, (fun hh => absurd (hh.2.2.2.2 i hin) (by rw [prodE, typ1, if_neg c7p]; exact c7p)), H.pm (by repeat (first | exact Pm.nil _ | constructor))⟩
     | exact absurd c7p (by decide)
     | exact absurd g85p c7p
   
  have c5p := oT c5
  have hin : i < x.g.prods.length := by omega
  have hpok := hG.2.2 i hin
  have hpl := hpok.1
  refine wc_skip ?_
  refine wc_seq ?_
  refine wc_block ?_
  refine wc_seq ?_
  refine wc_tree [0, 1, 2, 3, 4, 5, 6, 7, 8, 9, 10, 11, 12, 14, 15, 16, 17, 18] (fun W => Holds w [Blk b10 130 [.slice a.a.k x.g.kinds.length a.a.ck, .slice a.a.p x.g.precs.length a.a.cp, .slice a.a.r x.g.rules.length a.a.cr, .slice a.a.q x.g.prods.length a.a.cq, .int .i64 x.g.start, .slice a.l x.l.length a.cl, .slice a.t x.ty.length a.ct], Blk b3 44 [.slice a.a.k x.g.kinds.length a.a.ck, .slice a.a.p x.g.precs.length a.a.cp, .slice a.a.r x.g.rules.length a.a.cr, .slice a.a.q x.g.prods.length a.a.cq, .int .i64 x.g.start]] W) mixed ?_
  have Hd := H.drew
  have HSd : Holds w [Blk b10 130 [.slice a.a.k x.g.kinds.length a.a.ck, .slice a.a.p x.g.precs.length a.a.cp, .slice a.a.r x.g.rules.length a.a.cr, .slice a.a.q x.g.prods.length a.a.cq, .int .i64 x.g.start, .slice a.l x.l.length a.cl, .slice a.t x.ty.length a.ct], Blk b3 44 [.slice a.a.k x.g.kinds.length a.a.ck, .slice a.a.p x.g.precs.length a.a.cp, .slice a.a.r x.g.rules.length a.a.cr, .slice a.a.q x.g.prods.length a.a.cq, .int .i64 x.g.start]] _ := Hd.pm (by repeat constructor)
  refine wjV (k := 0) rfl HSd (fun W HW => v_loadN agg130 rfl rfl (HW.ats (by repeat constructor))) ?_
  refine wjV (k := 1) rfl HSd (fun W HW => v_fb (o2 := 3) fa44_3 rfl rfl) ?_
  refine wjV (k := 2) rfl HSd (fun W HW => v_load one42 rfl (HW.at (by repeat constructor) rfl)) ?_
  refine wjV (k := 3) rfl HSd (fun W HW => v_move rfl) ?_
  refine wjV (k := 4) rfl HSd (fun W HW => v_idx Try.underlying42 sz73 hx.g.q.ad rfl rfl (by omega) (by omega)) ?_
  refine wjV (k := 5) rfl HSd (fun W HW => v_fp fa73_3 rfl) ?_
  obtain ⟨R73_, c73_, B73_, k73_, hc73_, hl73_, hR73_, hB73_⟩ := hx.g.q.atPr (i := i) (by omega)
  refine wjV (k := 6) rfl HSd (fun W HW => v_loadN (cs := [.int .i64 (x.g.prods.getD i pr0).act.x.kind, .int .i64 (x.g.prods.getD i pr0).act.x.at_, .string (x.g.prods.getD i pr0).act.x.name, .slice B73_ (x.g.prods.getD i pr0).act.kids.length k73_]) agg69 rfl rfl (fun q_ u_ hu_ => HW.cell (by rw [add_add]; exact hc73_ (3 + q_) u_ (cut_eq (k := 4) rfl q_ u_ hu_)))) ?_
  refine wjV (k := 7) rfl HSd (fun W HW => v_fb (o2 := 3) fa44_3 rfl rfl) ?_
  refine wjV (k := 8) rfl HSd (fun W HW => v_load one42 rfl (HW.at (by repeat constructor) rfl)) ?_
  refine wjV (k := 9) rfl HSd (fun W HW => v_move rfl) ?_
  refine wjV (k := 10) rfl HSd (fun W HW => v_idx Try.underlying42 sz73 hx.g.q.ad rfl rfl (by omega) (by omega)) ?_
  refine wjV (k := 11) rfl HSd (fun W HW => v_fp fa73_1 rfl) ?_
  obtain ⟨R79_, c79_, B79_, k79_, hc79_, hl79_, hR79_, hB79_⟩ := hx.g.q.atPr (i := i) (by omega)
  refine wjV (k := 12) rfl HSd (fun W HW => v_load one51 rfl (HW.cell (hc79_ 1 _ rfl))) ?_
  refine wj_t (k := 13) rfl (by kernel_rfl) ?_
  refine wl_call en52 rfl rfl (fits_calls hk (x.g.prods.getD i pr0).act _ R79_ B73_ c79_ k73_ (x.g.prods.getD i pr0).right (hx.below Hd.old) (hB73_.below Hd.old) (hR79_.below Hd.old) hpl.2.1 (fun j hj => by have h_ := hpok.2.1 j hj; omega) (hG.acts i hin).1 (by have := (hG.acts i hin).2; omega)) ?_
  rintro _ w13 ⟨rfl, Hc⟩
  have H14 := Hd.call0 Hc
  have HS15 : Holds w [Blk b10 130 [.slice a.a.k x.g.kinds.length a.a.ck, .slice a.a.p x.g.precs.length a.a.cp, .slice a.a.r x.g.rules.length a.a.cr, .slice a.a.q x.g.prods.length a.a.cq, .int .i64 x.g.start, .slice a.l x.l.length a.cl, .slice a.t x.ty.length a.ct], Blk b3 44 [.slice a.a.k x.g.kinds.length a.a.ck, .slice a.a.p x.g.precs.length a.a.cp, .slice a.a.r x.g.rules.length a.a.cr, .slice a.a.q x.g.prods.length a.a.cq, .int .i64 x.g.start]] _ := H14.pm (by repeat constructor)
  refine wl_nil (tn ⟨fun _ => HS15, ?_⟩)
  refine wjV (k := 14) rfl HS15 (fun W HW => v_move rfl) ?_
  refine wjV (k := 15) rfl HS15 (fun W HW => v_extract rfl rfl) ?_
  refine wjV (k := 16) rfl HS15 (fun W HW => v_extract rfl rfl) ?_
  refine wjV (k := 17) rfl HS15 (fun W HW => v_assign rfl) ?_
  refine wjV (k := 18) rfl HS15 (fun W HW => v_assign rfl) ?_
  refine wj_done (by kernel_rfl) ?_
  refine wc_seq ?_
  refine wcR ?_
  refine wM ?_
  refine wV (v_eql rfl rfl) ?_
  refine wM ?_
  refine wl_guard rfl rfl rfl (fun g85 => ?_) (fun g85 => ?_)
  rotate_left
  ·have g85p := oF g85
   refine wF g85 ?_
   refine wF g85 ?_
   refine wF g85 ?_
   refine wF g85 ?_
   refine wF g85 ?_
   refine wF g85 ?_
   refine wF g85 ?_
   refine wF g85 ?_
   refine wF g85 ?_
   refine wF g85 ?_
   refine wV (v_pick_f rfl g85 rfl) ?_
   refine wl_nil ?_
   refine wc_cond_f rfl ?_
   refine wc_skip ?_
   refine wcR ?_
   refine wM ?_
   refine wV (v_neq rfl rfl) ?_
   refine wl_nil ?_
   refine wc_cond rfl (fun c7 => ?_) (fun c7 => ?_)
   rotate_left
   ·have c7p := of_nd_f c7
    refine wc_skip ?_
    refine wc_region ?_
    refine wM ?_
    refine wV (v_addi rfl rfl (by omega)) ?_
    refine wA ?_
    refine wl_nil ?_
    exact ⟨i + 1, (sc rfl (sc rfl (sc rfl (sc rfl (sc rfl (sn _)))))), ⟨by omega, H14.pm (by repeat constructor)⟩, by omega⟩
   have c7p := of_nd_t c7
   refine wcR ?_
   refine wM ?_
   refine wM ?_
   refine wA ?_
   refine wA ?_
   refine wl_nil ?_
   refine wc_ret ?_
   first
     | exact ⟨_, res2 rfl rfl rfl, _, _, rfl, (fun hh => rfl), H14.pm (by repeat (first | exact Pm.nil _ | constructor))⟩
     | exact ⟨_, res2 rfl rfl rfl, _, _, rfl, (fun hh => absurd hh.1 (of_ndec (of_n_t c0))), H14.pm (by repeat (first | exact Pm.nil _ | constructor))⟩
     | exact ⟨_, res2 rfl rfl rfl, _, _, rfl, (fun hh => hh.2.1), H14.pm (by repeat (first | exact Pm.nil _ | constructor))⟩
     | exact ⟨_, res2 rfl rfl rfl, _, _, rfl, (fun hh => absurd hh.2.2.1 (by omega)), H14.pm (by repeat (first | exact Pm.nil _ | constructor))⟩
     | exact ⟨_, res2 rfl rfl rfl, _, _, rfl, (fun hh => (hh.2.2.2.1 i hin).elim (fun h => absurd h g39p) (fun h => h.elim (fun h => absurd h g46p) (fun h => by have h2_ := hm.2 h; omega))), H14.pm (by repeat (first | exact Pm.nil _ | constructor))⟩
     | exact ⟨_, res2 rfl rfl rfl, _, _, rfl, (fun hh => absurd (hh.2.2.2.2 i hin) (by rw [prodE, typ1, if_pos g85p, if_neg (show ¬ _ = x.ty.getD (x.g.prods.getD i pr0).left.toNat s0 from c6p)]; decide)), H14.pm (by repeat (first | exact Pm.nil _ | constructor))⟩
     | exact ⟨_, res2 rfl rfl rfl, _, _, rfl, (fun hh => absurd (hh.2.2.2.2 i hin) (by rw [prodE, typ1, if_neg c7p]; exact c7p)), H14.pm (by repeat (first | exact Pm.nil _ | constructor))⟩
     | exact absurd c7p (by decide)
     | exact absurd g85p c7p
   
  have g85p := oT g85
  refine wM ?_
  refine wO g85 ?_
  refine wM ?_
  refine wO g85 ?_
  refine wV (v_fb (o2 := 3) fa44_3 rfl rfl) ?_
  refine wO g85 ?_
  refine wV (v_load one42 rfl (H14.at (by repeat constructor) rfl)) ?_
  refine wO g85 ?_
  refine wM ?_
  refine wO g85 ?_
  refine wV (v_idx Try.underlying42 sz73 hx.g.q.ad rfl rfl (by omega) (by omega)) ?_
  refine wO g85 ?_
  refine wV (v_fp fa73_0 rfl) ?_
  refine wO g85 ?_
  obtain ⟨R93_, c93_, B93_, k93_, hc93_, hl93_, hR93_, hB93_⟩ := hx.g.q.atPr (i := i) (by omega)
  refine wV (v_load one3 rfl (H14.cell (hc93_ 0 _ rfl))) ?_
  refine wO g85 ?_
  refine wV (v_idx Try.underlying40 sz9 hty.ad rfl rfl (by omega) (by omega)) ?_
  refine wO g85 ?_
  refine wV (v_load one9 rfl (H14.cell (hty.at1s (by omega) (by omega)))) ?_
  refine wO g85 ?_
  refine wV (v_neqs rfl rfl) ?_
  refine wV (v_pick_t rfl g85 rfl) ?_
  refine wl_nil ?_
  refine wc_cond rfl (fun c6 => ?_) (fun c6 => ?_)
  rotate_left
  ·have c6p := of_nd_f c6
   refine wc_skip ?_
   refine wcR ?_
   refine wM ?_
   refine wV (v_neq rfl rfl) ?_
   refine wl_nil ?_
   refine wc_cond rfl (fun c7 => ?_) (fun c7 => ?_)
   rotate_left
   ·have c7p := of_nd_f c7
    refine wc_skip ?_
    refine wc_region ?_
    refine wM ?_
    refine wV (v_addi rfl rfl (by omega)) ?_
    refine wA ?_
    refine wl_nil ?_
    exact ⟨i + 1, (sc rfl (sc rfl (sc rfl (sc rfl (sc rfl (sn _)))))), ⟨by omega, H14.pm (by repeat constructor)⟩, by omega⟩
   have c7p := of_nd_t c7
   refine wcR ?_
   refine wM ?_
   refine wM ?_
   refine wA ?_
   refine wA ?_
   refine wl_nil ?_
   refine wc_ret ?_
   first
     | exact ⟨_, res2 rfl rfl rfl, _, _, rfl, (fun hh => rfl), H14.pm (by repeat (first | exact Pm.nil _ | constructor))⟩
     | exact ⟨_, res2 rfl rfl rfl, _, _, rfl, (fun hh => absurd hh.1 (of_ndec (of_n_t c0))), H14.pm (by repeat (first | exact Pm.nil _ | constructor))⟩
     | exact ⟨_, res2 rfl rfl rfl, _, _, rfl, (fun hh => hh.2.1), H14.pm (by repeat (first | exact Pm.nil _ | constructor))⟩
     | exact ⟨_, res2 rfl rfl rfl, _, _, rfl, (fun hh => absurd hh.2.2.1 (by omega)), H14.pm (by repeat (first | exact Pm.nil _ | constructor))⟩
     | exact ⟨_, res2 rfl rfl rfl, _, _, rfl, (fun hh => (hh.2.2.2.1 i hin).elim (fun h => absurd h g39p) (fun h => h.elim (fun h => absurd h g46p) (fun h => by have h2_ := hm.2 h; omega))), H14.pm (by repeat (first | exact Pm.nil _ | constructor))⟩
     | exact ⟨_, res2 rfl rfl rfl, _, _, rfl, (fun hh => absurd (hh.2.2.2.2 i hin) (by rw [prodE, typ1, if_pos g85p, if_neg (show ¬ _ = x.ty.getD (x.g.prods.getD i pr0).left.toNat s0 from c6p)]; decide)), H14.pm (by repeat (first | exact Pm.nil _ | constructor))⟩
     | exact ⟨_, res2 rfl rfl rfl, _, _, rfl, (fun hh => absurd (hh.2.2.2.2 i hin) (by rw [prodE, typ1, if_neg c7p]; exact c7p)), H14.pm (by repeat (first | exact Pm.nil _ | constructor))⟩
     | exact absurd c7p (by decide)
     | exact absurd g85p c7p
   
  have c6p := of_nd_t c6
  refine wc_region ?_
  refine wA ?_
  refine wl_nil ?_
  refine wcR ?_
  refine wM ?_
  refine wV (v_neq rfl rfl) ?_
  refine wl_nil ?_
  refine wc_cond rfl (fun c7 => ?_) (fun c7 => ?_)
  rotate_left
  ·have c7p := of_nd_f c7
   refine wc_skip ?_
   refine wc_region ?_
   refine wM ?_
   refine wV (v_addi rfl rfl (by omega)) ?_
   refine wA ?_
   refine wl_nil ?_
   exact ⟨i + 1, (sc rfl (sc rfl (sc rfl (sc rfl (sc rfl (sn _)))))), ⟨by omega, H14.pm (by repeat constructor)⟩, by omega⟩
  have c7p := of_nd_t c7
  refine wcR ?_
  refine wM ?_
  refine wM ?_
  refine wA ?_
  refine wA ?_
  refine wl_nil ?_
  refine wc_ret ?_
  first
    | exact ⟨_, res2 rfl rfl rfl, _, _, rfl, (fun hh => rfl), H14.pm (by repeat (first | exact Pm.nil _ | constructor))⟩
    | exact ⟨_, res2 rfl rfl rfl, _, _, rfl, (fun hh => absurd hh.1 (of_ndec (of_n_t c0))), H14.pm (by repeat (first | exact Pm.nil _ | constructor))⟩
    | exact ⟨_, res2 rfl rfl rfl, _, _, rfl, (fun hh => hh.2.1), H14.pm (by repeat (first | exact Pm.nil _ | constructor))⟩
    | exact ⟨_, res2 rfl rfl rfl, _, _, rfl, (fun hh => absurd hh.2.2.1 (by omega)), H14.pm (by repeat (first | exact Pm.nil _ | constructor))⟩
    | exact ⟨_, res2 rfl rfl rfl, _, _, rfl, (fun hh => (hh.2.2.2.1 i hin).elim (fun h => absurd h g39p) (fun h => h.elim (fun h => absurd h g46p) (fun h => by have h2_ := hm.2 h; omega))), H14.pm (by repeat (first | exact Pm.nil _ | constructor))⟩
    | exact ⟨_, res2 rfl rfl rfl, _, _, rfl, (fun hh => absurd (hh.2.2.2.2 i hin) (by rw [prodE, typ1, if_pos g85p, if_neg (show ¬ _ = x.ty.getD (x.g.prods.getD i pr0).left.toNat s0 from c6p)]; decide)), H14.pm (by repeat (first | exact Pm.nil _ | constructor))⟩
    | exact ⟨_, res2 rfl rfl rfl, _, _, rfl, (fun hh => absurd (hh.2.2.2.2 i hin) (by rw [prodE, typ1, if_neg c7p]; exact c7p)), H14.pm (by repeat (first | exact Pm.nil _ | constructor))⟩
    | exact absurd c7p (by decide)
    | exact absurd g85p c7p
  
end Go.Proofs.Ytgdemplcpcacaaa.RChk
