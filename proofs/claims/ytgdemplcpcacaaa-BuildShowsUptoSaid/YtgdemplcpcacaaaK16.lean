/- Grammars that came in, as they read. Derivations, nodes and data that came in, as they read. How the arguments' types are read (seat 21). -/
import Derived.Test.YtgdemplcpcacaaaK15
import Derived.Test.YtgdemplcpcacaaaK02
import Derived.Test.YtgdemplcpcacaaaK03
set_option linter.unusedVariables false
/-! Grammars that came in, as they read. -/
namespace Go.Proofs.YtgdemplcpcacaaaFx
open Go Go.RowKit Go.ChangeShapes Go.WideShapes Go.ChangeAt Go.Deep
open Go.Proofs.Ytgdemplcpcacaaa (Rows.uptoBulk Rows.uptoBulkAll Rows.uptoSmall)
/-- Read where the bulk is at most N. -/
structure RdsN (P : Program) (t : TypeId) {α : Type} (K : Kn α) (B : α → Nat → Prop) (N : Nat) : Prop where
  sz : P.cellsOf t = K.sz
  rd : ∀ {H : Type} {enc : TypeId × Value → H} {w : World} {base : Nat} {spare : Nat → Bool} {held : Bool} {fuel : Nat} {cs : List Value} {x : DataW H × List MemPlace}, DataW.trod enc P w base spare held fuel t cs = some x → Rows.uptoBulk x.1 ≤ N → ∃ a, K.K w a cs ∧ B a (Rows.uptoBulk x.1)
section
variable {P : Program} {t e : TypeId}
theorem Rds.n {α : Type} {K : Kn α} {B : α → Nat → Prop} (h : Rds P t K B) (N : Nat) : RdsN P t K B N := ⟨h.sz, fun hx _ => h.rd hx⟩
theorem rdsN_sl {α : Type} {K : Kn α} {B : α → Nat → Prop} {N : Nat} (μ : α → Nat) (hμ : ∀ a n, B a n → μ a ≤ n) (ht : P.underlying t = some (.slice e)) (hc : P.cellsOf t = 1) (he : RdsN P e K B N) : RdsN P t K.sl (fun xs n => ((xs.map μ).sum + 1 ≤ n ∧ xs.length + 1 ≤ n) ∧ ∀ x ∈ xs, ∃ m, m ≤ n ∧ B x m) (N + 1) := ⟨hc, fun {H enc w base spare held fuel cs x} h hN => by
  rcases open_slice ht h with ⟨rfl, rfl⟩ | ⟨a, len, cap, m, n, D, Pl, rfl, _, hl, hm, hmm, rfl, hx⟩
  · exact ⟨[], ⟨none, 0, rfl, Nat.le_refl _, Rd.nil _ _ _⟩, by simp [Rows.uptoBulk], fun x hx => by simp at hx⟩
  · have hlm : len ≤ m := by rw [hmm]; split <;> omega
    have hDi : ∀ i, i < len → Rows.uptoBulk (D i) ≤ N := fun i hi => by
      have h1 := bulk_part (d := D i) (l := (List.range len).map D) (List.mem_map.2 ⟨i, List.mem_range.2 hi, rfl⟩)
      simp only [Rows.uptoBulk] at hN
      omega
    have hex : ∀ i, i < len → ∃ a' : α, (∃ cs', w.cells? base (a.add (i * P.cellsOf e)) (P.cellsOf e) = some cs' ∧ K.K w a' cs') ∧ B a' (Rows.uptoBulk (D i)) := fun i hi => by
      obtain ⟨cs', h1, h2⟩ := hx i (by omega)
      obtain ⟨a', h3, h4⟩ := he.rd h2 (hDi i hi)
      exact ⟨a', ⟨cs', h1, h3⟩, h4⟩
    refine ⟨List.ofFn fun i : Fin len => Classical.choose (hex i.1 i.2), ⟨some a, cap, by rw [List.length_ofFn], by rw [List.length_ofFn]; exact hl, fun _ => rfl, fun j y hy => ?_⟩, ⟨?_, ?_⟩, fun y hy => ?_⟩
    · rw [List.getElem?_ofFn] at hy
      split at hy
      · rename_i hj
        simp only [Option.some.injEq] at hy
        subst hy
        obtain ⟨⟨cs', h1, h2⟩, _⟩ := Classical.choose_spec (hex j hj)
        refine ⟨cs', h2, fun i u hu => ?_⟩
        obtain ⟨_, h5, h6⟩ := World.cells?_some h1
        have hi : i < P.cellsOf e := by rw [← h5]; exact (List.getElem?_eq_some_iff.1 hu).1
        have := h6 i hi
        rw [hu, add_add, he.sz] at this
        exact this
      · simp at hy
    · have h1 : ((List.ofFn fun i : Fin len => Classical.choose (hex i.1 i.2)).map μ).sum ≤ (((List.range len).map D).map Rows.uptoBulk).sum := sum_le (by simp) fun j h1 h2 => by
        simp only [List.getElem_map, List.getElem_ofFn, List.getElem_range]
        have hj : j < len := by simpa using h1
        exact hμ _ _ (Classical.choose_spec (hex j hj)).2
      rw [← bulk_sum] at h1
      simp only [Rows.uptoBulk]
      omega
    · rw [List.length_ofFn]
      have h1 := bulk_len ((List.range len).map D)
      rw [List.length_map, List.length_range] at h1
      simp only [Rows.uptoBulk]
      omega
    · obtain ⟨i, hi⟩ := (List.mem_ofFn ..).1 hy
      subst hi
      refine ⟨Rows.uptoBulk (D i.1), ?_, (Classical.choose_spec (hex i.1 i.2)).2⟩
      have h1 := bulk_part (d := D i.1) (l := (List.range len).map D) (List.mem_map.2 ⟨i.1, List.mem_range.2 i.2, rfl⟩)
      simp only [Rows.uptoBulk]
      omega⟩
/-- A struct's fields. -/
theorem fields_of {H : Type} {enc : TypeId × Value → H} {w : World} {base : Nat} {spare : Nat → Bool} {held : Bool} {fuel : Nat} {cs : List Value} {x : DataW H × List MemPlace} {fs : Array Field} (ht : P.underlying t = some (.struct fs)) (h : DataW.trod enc P w base spare held fuel t cs = some x) :
    ∃ (xs : List (DataW H × List MemPlace)) (n : Nat), Rows.uptoBulk x.1 = Rows.uptoBulkAll (xs.map (·.1)) + 1 ∧ cs.length = P.cellsOf t ∧ xs.length = fs.size ∧ ∀ (i : Nat) (f : Field), fs[i]? = some f → ∃ y, xs[i]? = some y ∧ DataW.trod enc P w base spare held n f.type ((cs.drop f.offset).take (P.cellsOf f.type)) = some y := by
  obtain ⟨xs, n, _, rfl, hl, hlen, hf⟩ := DataW.trod_struct ht h
  refine ⟨xs, n, rfl, hl, hlen, fun i f hif => ?_⟩
  have hi : i < xs.length := by rw [hlen]; exact (Array.getElem?_eq_some_iff.1 hif).1
  have := hf i f hif
  rw [List.getElem?_eq_getElem hi] at this
  exact ⟨_, List.getElem?_eq_getElem hi, this⟩
end
theorem cnts_sum {α : Type} : ∀ ts : List (Tr α), Tr.cnts ts = (ts.map Tr.cnt).sum
  | [] => rfl
  | t :: r => by rw [Tr.cnts, cnts_sum r, List.map_cons, List.sum_cons]
theorem four_len {cs : List Value} (h : cs.length = 4) : ∃ a b c d, cs = [a, b, c, d] := by
  match cs, h with
  | [a, b, c, d], _ => exact ⟨a, b, c, d, rfl⟩
theorem five_len {cs : List Value} (h : cs.length = 5) : ∃ a b c d e, cs = [a, b, c, d, e] := by
  match cs, h with
  | [a, b, c, d, e], _ => exact ⟨a, b, c, d, e, rfl⟩
theorem seven_len {cs : List Value} (h : cs.length = 7) : ∃ a b c d e f g, cs = [a, b, c, d, e, f, g] := by
  match cs, h with
  | [a, b, c, d, e, f, g], _ => exact ⟨a, b, c, d, e, f, g, rfl⟩
theorem part_le {H : Type} {xs : List (DataW H × List MemPlace)} {i : Nat} {y : DataW H × List MemPlace} (h : xs[i]? = some y) : Rows.uptoBulk y.1 ≤ Rows.uptoBulkAll (xs.map (·.1)) :=
  bulk_part (List.mem_map.2 ⟨y, List.mem_of_getElem? h, rfl⟩)
section
variable {P : Program} {ti tz ta ts tr tp tk tc tq tg : TypeId}
/-- The types of a grammar's parts: int, string, action, actions, numbers, production, texts, levels, productions, grammar. -/
structure GTypes (P : Program) (ti tz ta ts tr tp : TypeId) : Prop where
  i : Rds P ti (kInt .i64) (fun a n => (Lit.int .i64 a).wf = true ∧ 1 ≤ n)
  z : Rds P tz kStr (fun a n => a.size + 1 ≤ n)
  a : ∃ f0 f1 f2 f3 : Field, P.underlying ta = some (.struct #[f0, f1, f2, f3]) ∧ (f0.type, f0.offset) = (ti, 0) ∧ (f1.type, f1.offset) = (ti, 1) ∧ (f2.type, f2.offset) = (tz, 2) ∧ (f3.type, f3.offset) = (ts, 3)
  ca : P.cellsOf ta = 4
  s : P.underlying ts = some (.slice ta)
  cs : P.cellsOf ts = 1
  r : Rds P tr (kInt .i64).sl (fun xs n => xs.length + 1 ≤ n ∧ ∀ x ∈ xs, ∃ m, m ≤ n ∧ (Lit.int .i64 x).wf = true ∧ 1 ≤ m)
  p : ∃ f0 f1 f2 f3 : Field, P.underlying tp = some (.struct #[f0, f1, f2, f3]) ∧ (f0.type, f0.offset) = (ti, 0) ∧ (f1.type, f1.offset) = (tr, 1) ∧ (f2.type, f2.offset) = (ti, 2) ∧ (f3.type, f3.offset) = (ta, 3)
  cp : P.cellsOf tp = 7
theorem rdsN_tr (T : GTypes P ti tz ta ts tr tp) : ∀ N, RdsN P ta (kTr fAc) (fun a n => a.cnt ≤ n) N := fun N => by
  induction N using Nat.strongRecOn with
  | ind N ih =>
    refine ⟨T.ca, fun {H enc w base spare held fuel cs x} h hN => ?_⟩
    obtain ⟨f0, f1, f2, f3, hu, h0, h1, h2, h3⟩ := T.a
    simp only [Prod.mk.injEq] at h0 h1 h2 h3
    obtain ⟨xs, n, hb, hl, hlen, hf⟩ := fields_of hu h
    rw [T.ca] at hl
    obtain ⟨c0, c1, c2, c3, rfl⟩ := four_len hl
    obtain ⟨y0, i0, e0⟩ := hf 0 f0 rfl
    obtain ⟨y1, i1, e1⟩ := hf 1 f1 rfl
    obtain ⟨y2, i2, e2⟩ := hf 2 f2 rfl
    obtain ⟨y3, i3, e3⟩ := hf 3 f3 rfl
    have s1 : P.cellsOf ti = 1 := T.i.sz
    have s2 : P.cellsOf tz = 1 := T.z.sz
    rw [h0.1, h0.2, s1] at e0
    rw [h1.1, h1.2, s1] at e1
    rw [h2.1, h2.2, s2] at e2
    rw [h3.1, h3.2, T.cs] at e3
    obtain ⟨a0, k0, _⟩ := T.i.rd e0
    obtain ⟨a1, k1, _⟩ := T.i.rd e1
    obtain ⟨a2, k2, _⟩ := T.z.rd e2
    have p3 := part_le i3
    have q3 := bulk_one y3.1
    obtain ⟨M, hM⟩ : ∃ M, Rows.uptoBulk y3.1 = M + 1 := ⟨Rows.uptoBulk y3.1 - 1, by omega⟩
    obtain ⟨kids, ⟨A, c, hc, hle, hr⟩, ⟨hsum, _⟩, _⟩ := (rdsN_sl Tr.cnt (fun a n h => h) T.s T.cs (ih M (by omega))).rd e3 (by omega)
    have g0 : [c0] = [Value.int .i64 a0] := k0
    have g1 : [c1] = [Value.int .i64 a1] := k1
    have g2 : [c2] = [Value.string a2] := k2
    have g3 : [c3] = [Value.slice A kids.length c] := hc
    simp only [List.cons.injEq, and_true] at g0 g1 g2 g3
    subst g0 g1 g2 g3
    refine ⟨.mk ⟨a0, a1, a2⟩ kids, Tr.K.mk (f := fAc) (x := ⟨a0, a1, a2⟩) hle hr, ?_⟩
    rw [Tr.cnt, cnts_sum]
    omega
theorem rdsN_pr (T : GTypes P ti tz ta ts tr tp) (N : Nat) : RdsN P tp kPr (fun p n => p.right.length ≤ n ∧ p.act.cnt ≤ n) N := ⟨T.cp, fun {H enc w base spare held fuel cs x} h hN => by
  obtain ⟨f0, f1, f2, f3, hu, h0, h1, h2, h3⟩ := T.p
  simp only [Prod.mk.injEq] at h0 h1 h2 h3
  obtain ⟨xs, n, hb, hl, hlen, hf⟩ := fields_of hu h
  rw [T.cp] at hl
  obtain ⟨c0, c1, c2, c3, c4, c5, c6, rfl⟩ := seven_len hl
  obtain ⟨y0, i0, e0⟩ := hf 0 f0 rfl
  obtain ⟨y1, i1, e1⟩ := hf 1 f1 rfl
  obtain ⟨y2, i2, e2⟩ := hf 2 f2 rfl
  obtain ⟨y3, i3, e3⟩ := hf 3 f3 rfl
  have s1 : P.cellsOf ti = 1 := T.i.sz
  have s2 : P.cellsOf tr = 1 := T.r.sz
  rw [h0.1, h0.2, s1] at e0
  rw [h1.1, h1.2, s2] at e1
  rw [h2.1, h2.2, s1] at e2
  rw [h3.1, h3.2, T.ca] at e3
  have p1 := part_le i1
  have p3 := part_le i3
  obtain ⟨a0, k0, _⟩ := T.i.rd e0
  obtain ⟨a1, ⟨A, c, hc, hle, hr⟩, b1, _⟩ := T.r.rd e1
  obtain ⟨a2, k2, _⟩ := T.i.rd e2
  obtain ⟨a3, k3, b3⟩ := (rdsN_tr T (Rows.uptoBulk y3.1)).rd e3 (Nat.le_refl _)
  obtain ⟨B, k, hB, hBl, hBr⟩ := Tr.K.open k3
  have g0 : [c0] = [Value.int .i64 a0] := k0
  have g1 : [c1] = [Value.slice A a1.length c] := hc
  have g2 : [c2] = [Value.int .i64 a2] := k2
  have g3 : [c3, c4, c5, c6] = [Value.int .i64 a3.x.kind, .int .i64 a3.x.at_, .string a3.x.name, .slice B a3.kids.length k] := hB
  simp only [List.cons.injEq, and_true] at g0 g1 g2 g3
  obtain ⟨r1, r2, r3, r4⟩ := g3
  subst g0 g1 g2 r1 r2 r3 r4
  exact ⟨⟨a0, a1, a2, a3⟩, ⟨A, c, B, k, rfl, ⟨hle, hBl⟩, hr, hBr⟩, by dsimp only; omega, by dsimp only; omega⟩⟩
/-- A grammar: its row of productions, its texts, its levels. -/
structure GTypes2 (P : Program) (ti tp tk tc tq tg : TypeId) : Prop where
  k : Rds P tk kStr.sl (fun xs n => xs.length + 1 ≤ n ∧ ∀ x ∈ xs, ∃ m, m ≤ n ∧ x.size + 1 ≤ m)
  c : Rds P tc fMv.kn.sl (fun xs n => xs.length + 1 ≤ n ∧ ∀ x ∈ xs, ∃ m, m ≤ n ∧ (I64 x.d ∧ I64 x.n) ∧ 1 ≤ m)
  q : P.underlying tq = some (.slice tp)
  cq : P.cellsOf tq = 1
  g : ∃ f0 f1 f2 f3 f4 : Field, P.underlying tg = some (.struct #[f0, f1, f2, f3, f4]) ∧ (f0.type, f0.offset) = (tk, 0) ∧ (f1.type, f1.offset) = (tc, 1) ∧ (f2.type, f2.offset) = (tk, 2) ∧ (f3.type, f3.offset) = (tq, 3) ∧ (f4.type, f4.offset) = (ti, 4)
  cg : P.cellsOf tg = 5
theorem rd_pl (T : GTypes P ti tz ta ts tr tp) (T2 : GTypes2 P ti tp tk tc tq tg) {H : Type} {enc : TypeId × Value → H} {w : World} {base : Nat} {spare : Nat → Bool} {held : Bool} {fuel : Nat} {cs : List Value} {x : DataW H × List MemPlace} (h : DataW.trod enc P w base spare held fuel tg cs = some x) (hN : Rows.uptoBulk x.1 ≤ 1048576) :
    ∃ (g : Pl) (a : PlA), cs = g.cs a ∧ g.rd w a ∧ g.ok ∧ (g.kinds.length ≤ a.ck ∧ g.precs.length ≤ a.cp ∧ g.rules.length ≤ a.cr ∧ g.prods.length ≤ a.cq) ∧ I64 g.start ∧ (g.prods.length + 1 ≤ Rows.uptoBulk x.1) := by
  obtain ⟨f0, f1, f2, f3, f4, hu, h0, h1, h2, h3, h4⟩ := T2.g
  simp only [Prod.mk.injEq] at h0 h1 h2 h3 h4
  obtain ⟨xs, n, hb, hl, hlen, hf⟩ := fields_of hu h
  rw [T2.cg] at hl
  obtain ⟨c0, c1, c2, c3, c4, rfl⟩ := five_len hl
  obtain ⟨y0, i0, e0⟩ := hf 0 f0 rfl
  obtain ⟨y1, i1, e1⟩ := hf 1 f1 rfl
  obtain ⟨y2, i2, e2⟩ := hf 2 f2 rfl
  obtain ⟨y3, i3, e3⟩ := hf 3 f3 rfl
  obtain ⟨y4, i4, e4⟩ := hf 4 f4 rfl
  have s1 : P.cellsOf tk = 1 := T2.k.sz
  have s2 : P.cellsOf tc = 1 := T2.c.sz
  have s3 : P.cellsOf ti = 1 := T.i.sz
  rw [h0.1, h0.2, s1] at e0
  rw [h1.1, h1.2, s2] at e1
  rw [h2.1, h2.2, s1] at e2
  rw [h3.1, h3.2, T2.cq] at e3
  rw [h4.1, h4.2, s3] at e4
  have p0 := part_le i0
  have p1 := part_le i1
  have p2 := part_le i2
  have p3 := part_le i3
  have q3 := bulk_one y3.1
  obtain ⟨M, hM⟩ : ∃ M, Rows.uptoBulk y3.1 = M + 1 := ⟨Rows.uptoBulk y3.1 - 1, by omega⟩
  obtain ⟨a0, ⟨A0, z0, k0, l0, r0⟩, b0, d0⟩ := T2.k.rd e0
  obtain ⟨a1, ⟨A1, z1, k1, l1, r1⟩, b1, d1⟩ := T2.c.rd e1
  obtain ⟨a2, ⟨A2, z2, k2, l2, r2⟩, b2, d2⟩ := T2.k.rd e2
  obtain ⟨a3, ⟨A3, z3, k3, l3, r3⟩, ⟨_, b3⟩, d3⟩ := (rdsN_sl (fun p : Pr => 0) (fun a n h => Nat.zero_le _) T2.q T2.cq (rdsN_pr T M)).rd e3 (by omega)
  obtain ⟨a4, k4, b4, _⟩ := T.i.rd e4
  have g0 : [c0] = [Value.slice A0 a0.length z0] := k0
  have g1 : [c1] = [Value.slice A1 a1.length z1] := k1
  have g2 : [c2] = [Value.slice A2 a2.length z2] := k2
  have g3 : [c3] = [Value.slice A3 a3.length z3] := k3
  have g4 : [c4] = [Value.int .i64 a4] := k4
  simp only [List.cons.injEq, and_true] at g0 g1 g2 g3 g4
  subst g0 g1 g2 g3 g4
  refine ⟨⟨a0, a1, a2, a3, a4⟩, ⟨A0, z0, A1, z1, A2, z2, A3, z3⟩, rfl, ⟨r0, r1, r2, r3⟩, ⟨?_, ?_, ?_, ?_, ?_, ?_, ?_, ?_⟩, ⟨l0, l1, l2, l3⟩, i64_wf b4, by dsimp only; omega⟩
  · dsimp only; omega
  · intro s hs
    obtain ⟨m, m1, m2⟩ := d0 s hs
    omega
  · dsimp only; omega
  · dsimp only; omega
  · intro s hs
    obtain ⟨m, m1, m2⟩ := d2 s hs
    omega
  · dsimp only; omega
  · intro p hp
    obtain ⟨m, m1, m2, m3⟩ := d3 p hp
    omega
  · intro p hp
    obtain ⟨m, m1, m2, m3⟩ := d3 p hp
    omega
end
end Go.Proofs.YtgdemplcpcacaaaFx

/-! Derivations, nodes and data that came in, as they read. -/
namespace Go.Proofs.YtgdemplcpcacaaaFx
open Go Go.RowKit Go.ChangeShapes Go.WideShapes Go.ChangeAt Go.Deep
open Go.Proofs.Ytgdemplcpcacaaa (Rows.uptoBulk Rows.uptoBulkAll Rows.uptoSmall)
theorem three_len {cs : List Value} (h : cs.length = 3) : ∃ a b c, cs = [a, b, c] := by
  match cs, h with
  | [a, b, c], _ => exact ⟨a, b, c, rfl⟩
section
variable {P : Program} {ti tz ta ts td tc tcs tds tzs tg tw tr tt : TypeId} {N : Nat}
abbrev RInt (P : Program) (ti : TypeId) : Prop := Rds P ti (kInt .i64) (fun a n => (Lit.int .i64 a).wf = true ∧ 1 ≤ n)
abbrev RStr (P : Program) (tz : TypeId) : Prop := Rds P tz kStr (fun a n => a.size + 1 ≤ n)
/-- Derivations. -/
structure DvTypes (P : Program) (ti ta ts : TypeId) : Prop where
  i : RInt P ti
  a : ∃ f0 f1 f2 : Field, P.underlying ta = some (.struct #[f0, f1, f2]) ∧ (f0.type, f0.offset) = (ti, 0) ∧ (f1.type, f1.offset) = (ti, 1) ∧ (f2.type, f2.offset) = (ts, 2)
  ca : P.cellsOf ta = 3
  s : P.underlying ts = some (.slice ta)
  cs : P.cellsOf ts = 1
theorem rdsN_dv (T : DvTypes P ti ta ts) : ∀ N, RdsN P ta (kTr fDv) (fun a n => a.cnt ≤ n) N := fun N => by
  induction N using Nat.strongRecOn with
  | ind N ih =>
    refine ⟨T.ca, fun {H enc w base spare held fuel cs x} h hN => ?_⟩
    obtain ⟨f0, f1, f2, hu, h0, h1, h2⟩ := T.a
    simp only [Prod.mk.injEq] at h0 h1 h2
    obtain ⟨xs, n, hb, hl, hlen, hf⟩ := fields_of hu h
    rw [T.ca] at hl
    obtain ⟨c0, c1, c2, rfl⟩ := three_len hl
    obtain ⟨y0, i0, e0⟩ := hf 0 f0 rfl
    obtain ⟨y1, i1, e1⟩ := hf 1 f1 rfl
    obtain ⟨y2, i2, e2⟩ := hf 2 f2 rfl
    have s1 : P.cellsOf ti = 1 := T.i.sz
    rw [h0.1, h0.2, s1] at e0
    rw [h1.1, h1.2, s1] at e1
    rw [h2.1, h2.2, T.cs] at e2
    obtain ⟨a0, k0, _⟩ := T.i.rd e0
    obtain ⟨a1, k1, _⟩ := T.i.rd e1
    have p3 := part_le i2
    have q3 := bulk_one y2.1
    obtain ⟨M, hM⟩ : ∃ M, Rows.uptoBulk y2.1 = M + 1 := ⟨Rows.uptoBulk y2.1 - 1, by omega⟩
    obtain ⟨kids, ⟨A, c, hc, hle, hr⟩, ⟨hsum, _⟩, _⟩ := (rdsN_sl Tr.cnt (fun a n h => h) T.s T.cs (ih M (by omega))).rd e2 (by omega)
    have g0 : [c0] = [Value.int .i64 a0] := k0
    have g1 : [c1] = [Value.int .i64 a1] := k1
    have g2 : [c2] = [Value.slice A kids.length c] := hc
    simp only [List.cons.injEq, and_true] at g0 g1 g2
    subst g0 g1 g2
    refine ⟨.mk ⟨a0, a1⟩ kids, Tr.K.mk (f := fDv) (x := ⟨a0, a1⟩) hle hr, ?_⟩
    rw [Tr.cnt, cnts_sum]
    omega
/-- Nodes. -/
structure NdTypes (P : Program) (ti tz ta ts : TypeId) : Prop where
  i : RInt P ti
  z : RStr P tz
  a : ∃ f0 f1 f2 f3 : Field, P.underlying ta = some (.struct #[f0, f1, f2, f3]) ∧ (f0.type, f0.offset) = (ti, 0) ∧ (f1.type, f1.offset) = (tz, 1) ∧ (f2.type, f2.offset) = (ti, 2) ∧ (f3.type, f3.offset) = (ts, 3)
  ca : P.cellsOf ta = 4
  s : P.underlying ts = some (.slice ta)
  cs : P.cellsOf ts = 1
def ndSm (n : Nat) (x : NdP) (k : Nat) : Prop := x.name.size ≤ n ∧ k ≤ n
theorem Tr.All.imp {α : Type} {p q : α → Nat → Prop} (h : ∀ x k, p x k → q x k) : ∀ t : Tr α, t.All p → t.All q := Tr.ind fun x kids ih ha => by
  obtain ⟨h1, h2⟩ := (Tr.All_eq _).1 ha
  exact (Tr.All_eq _).2 ⟨h _ _ h1, (Tr.Alls_iff _).2 fun t ht => ih t ht ((Tr.Alls_iff _).1 h2 t ht)⟩
theorem rdsN_nd (T : NdTypes P ti tz ta ts) : ∀ N, RdsN P ta (kTr fNd) (fun a n => a.cnt ≤ n ∧ a.All (ndSm n)) N := fun N => by
  induction N using Nat.strongRecOn with
  | ind N ih =>
    refine ⟨T.ca, fun {H enc w base spare held fuel cs x} h hN => ?_⟩
    obtain ⟨f0, f1, f2, f3, hu, h0, h1, h2, h3⟩ := T.a
    simp only [Prod.mk.injEq] at h0 h1 h2 h3
    obtain ⟨xs, n, hb, hl, hlen, hf⟩ := fields_of hu h
    rw [T.ca] at hl
    obtain ⟨c0, c1, c2, c3, rfl⟩ := four_len hl
    obtain ⟨y0, i0, e0⟩ := hf 0 f0 rfl
    obtain ⟨y1, i1, e1⟩ := hf 1 f1 rfl
    obtain ⟨y2, i2, e2⟩ := hf 2 f2 rfl
    obtain ⟨y3, i3, e3⟩ := hf 3 f3 rfl
    have s1 : P.cellsOf ti = 1 := T.i.sz
    have s2 : P.cellsOf tz = 1 := T.z.sz
    rw [h0.1, h0.2, s1] at e0
    rw [h1.1, h1.2, s2] at e1
    rw [h2.1, h2.2, s1] at e2
    rw [h3.1, h3.2, T.cs] at e3
    obtain ⟨a0, k0, _⟩ := T.i.rd e0
    obtain ⟨a1, k1, b1⟩ := T.z.rd e1
    obtain ⟨a2, k2, _⟩ := T.i.rd e2
    have p1 := part_le i1
    have p3 := part_le i3
    have q3 := bulk_one y3.1
    obtain ⟨M, hM⟩ : ∃ M, Rows.uptoBulk y3.1 = M + 1 := ⟨Rows.uptoBulk y3.1 - 1, by omega⟩
    obtain ⟨kids, ⟨A, c, hc, hle, hr⟩, ⟨hsum, hkl⟩, hel⟩ := (rdsN_sl Tr.cnt (fun a n h => h.1) T.s T.cs (ih M (by omega))).rd e3 (by omega)
    have g0 : [c0] = [Value.int .i64 a0] := k0
    have g1 : [c1] = [Value.string a1] := k1
    have g2 : [c2] = [Value.int .i64 a2] := k2
    have g3 : [c3] = [Value.slice A kids.length c] := hc
    simp only [List.cons.injEq, and_true] at g0 g1 g2 g3
    subst g0 g1 g2 g3
    refine ⟨.mk ⟨a0, a1, a2⟩ kids, Tr.K.mk (f := fNd) (x := ⟨a0, a1, a2⟩) hle hr, ?_, (Tr.All_eq _).2 ⟨⟨show a1.size ≤ _ by omega, show kids.length ≤ _ by omega⟩, (Tr.Alls_iff _).2 fun t ht => ?_⟩⟩
    · rw [Tr.cnt, cnts_sum]
      omega
    · obtain ⟨m, hm, _, hall⟩ := hel t ht
      exact Tr.All.imp (fun y k hy => ⟨by have := hy.1; omega, by have := hy.2; omega⟩) t hall
/-- Constructors, data. -/
structure DtTypes (P : Program) (tz tzs tc tcs td tds : TypeId) : Prop where
  z : RStr P tz
  zs : Rds P tzs kStr.sl (fun xs n => xs.length + 1 ≤ n ∧ ∀ x ∈ xs, ∃ m, m ≤ n ∧ x.size + 1 ≤ m)
  c : ∃ f0 f1 : Field, P.underlying tc = some (.struct #[f0, f1]) ∧ (f0.type, f0.offset) = (tz, 0) ∧ (f1.type, f1.offset) = (tzs, 1)
  cc : P.cellsOf tc = 2
  cs : P.underlying tcs = some (.slice tc)
  ccs : P.cellsOf tcs = 1
  d : ∃ f0 f1 : Field, P.underlying td = some (.struct #[f0, f1]) ∧ (f0.type, f0.offset) = (tz, 0) ∧ (f1.type, f1.offset) = (tcs, 1)
  cd : P.cellsOf td = 2
  ds : P.underlying tds = some (.slice td)
  cds : P.cellsOf tds = 1
def CtSm (n : Nat) (c : Ct) : Prop := c.name.size ≤ n ∧ c.fields.length ≤ n ∧ ∀ s ∈ c.fields, s.size ≤ n
theorem rds_ct (T : DtTypes P tz tzs tc tcs td tds) : Rds P tc kCt (fun a n => CtSm n a) := ⟨T.cc, fun {H enc w base spare held fuel cs x} h => by
  obtain ⟨f0, f1, hu, h0, h1⟩ := T.c
  simp only [Prod.mk.injEq] at h0 h1
  obtain ⟨xs, n, hb, hl, hlen, hf⟩ := fields_of hu h
  rw [T.cc] at hl
  obtain ⟨c0, c1, rfl⟩ := two_len hl
  obtain ⟨y0, i0, e0⟩ := hf 0 f0 rfl
  obtain ⟨y1, i1, e1⟩ := hf 1 f1 rfl
  have s0 : P.cellsOf tz = 1 := T.z.sz
  have s1 : P.cellsOf tzs = 1 := T.zs.sz
  rw [h0.1, h0.2, s0] at e0
  rw [h1.1, h1.2, s1] at e1
  obtain ⟨a0, k0, b0⟩ := T.z.rd e0
  obtain ⟨a1, ⟨A, c, k1, l1, r1⟩, b1, d1⟩ := T.zs.rd e1
  have p0 := part_le i0
  have p1 := part_le i1
  have g0 : [c0] = [Value.string a0] := k0
  have g1 : [c1] = [Value.slice A a1.length c] := k1
  simp only [List.cons.injEq, and_true] at g0 g1
  subst g0 g1
  exact ⟨⟨a0, a1⟩, ⟨A, c, rfl, l1, r1⟩, by dsimp only; omega, by dsimp only; omega, fun s hs => by obtain ⟨m, hm, h2⟩ := d1 s hs; omega⟩⟩
theorem rds_dt (T : DtTypes P tz tzs tc tcs td tds) : Rds P td kDt (fun a n => a.name.size ≤ n ∧ a.ctors.length ≤ n ∧ ∀ c ∈ a.ctors, CtSm n c) := ⟨T.cd, fun {H enc w base spare held fuel cs x} h => by
  obtain ⟨f0, f1, hu, h0, h1⟩ := T.d
  simp only [Prod.mk.injEq] at h0 h1
  obtain ⟨xs, n, hb, hl, hlen, hf⟩ := fields_of hu h
  rw [T.cd] at hl
  obtain ⟨c0, c1, rfl⟩ := two_len hl
  obtain ⟨y0, i0, e0⟩ := hf 0 f0 rfl
  obtain ⟨y1, i1, e1⟩ := hf 1 f1 rfl
  have s0 : P.cellsOf tz = 1 := T.z.sz
  rw [h0.1, h0.2, s0] at e0
  rw [h1.1, h1.2, T.ccs] at e1
  obtain ⟨a0, k0, b0⟩ := T.z.rd e0
  obtain ⟨a1, ⟨A, c, k1, l1, r1⟩, b1, d1⟩ := (rds_sl T.cs T.ccs (rds_ct T)).rd e1
  have p0 := part_le i0
  have p1 := part_le i1
  have g0 : [c0] = [Value.string a0] := k0
  have g1 : [c1] = [Value.slice A a1.length c] := k1
  simp only [List.cons.injEq, and_true] at g0 g1
  subst g0 g1
  exact ⟨⟨a0, a1⟩, ⟨A, c, rfl, l1, r1⟩, by dsimp only; omega, by dsimp only; omega, fun c hc => by obtain ⟨m, hm, h2, h3, h4⟩ := d1 c hc; exact ⟨by omega, by omega, fun s hs => by have := h4 s hs; omega⟩⟩⟩
theorem flatd_len : ∀ l : List Dt, (flat l).length = (l.map fun d => d.ctors.length).sum
  | [] => rfl
  | d :: r => by
    have := flatd_len r
    rw [show flat (d :: r) = ctsOf d d.ctors ++ flat r from rfl, List.length_append, this, List.map_cons, List.sum_cons]
    unfold ctsOf
    rw [List.length_map]
/-- Rows of data. -/
theorem rdsN_dts (T : DtTypes P tz tzs tc tcs td tds) (hN : N ≤ 1048576) : RdsN P tds kDt.sl (fun l n => DOk l ∧ l.length + 1 ≤ n) N := ⟨T.cds, fun {H enc w base spare held fuel cs x} h hx => by
  obtain ⟨l, hk, ⟨h1, h2⟩, h3⟩ := (rdsN_sl (fun d : Dt => d.ctors.length) (fun a n h => h.2.1) T.ds T.cds ((rds_dt T).n N)).rd h (by omega)
  refine ⟨l, hk, ⟨by omega, fun d hd => ?_, by rw [flatd_len]; omega, fun p hp => ?_⟩, h2⟩
  · obtain ⟨m, hm, h4, _⟩ := h3 d hd
    omega
  · obtain ⟨d, hd, hp2⟩ := List.mem_flatMap.1 hp
    obtain ⟨c, hc, rfl⟩ := List.mem_map.1 hp2
    obtain ⟨m, hm, _, _, h4⟩ := h3 d hd
    obtain ⟨h5, h6, h7⟩ := h4 c hc
    exact ⟨by dsimp only; omega, by dsimp only; omega, fun s hs => by have := h7 s hs; omega⟩⟩
/-- What is given: a grammar, data, types. -/
structure GvTypes (P : Program) (tg tds tzs tw : TypeId) : Prop where
  g : ∃ f0 f1 f2 : Field, P.underlying tw = some (.struct #[f0, f1, f2]) ∧ (f0.type, f0.offset) = (tg, 0) ∧ (f1.type, f1.offset) = (tds, 5) ∧ (f2.type, f2.offset) = (tzs, 6)
  cg : P.cellsOf tw = 7
structure Gv where
  g : Pl
  l : List Dt
  ty : List ByteArray
structure GvA where
  a : PlA
  l : Option Addr
  cl : Nat
  t : Option Addr
  ct : Nat
abbrev Gv.cs (x : Gv) (a : GvA) : List Value := [.slice a.a.k x.g.kinds.length a.a.ck, .slice a.a.p x.g.precs.length a.a.cp, .slice a.a.r x.g.rules.length a.a.cr, .slice a.a.q x.g.prods.length a.a.cq, .int .i64 x.g.start, .slice a.l x.l.length a.cl, .slice a.t x.ty.length a.ct]
structure Gv.ok (x : Gv) (a : GvA) : Prop where
  g : x.g.ok
  l : DOk x.l
  tl : x.ty.length ≤ 1048576
  ts : ∀ s ∈ x.ty, s.size ≤ 1048576
  q : x.g.prods.length ≤ 1048576
  st : I64 x.g.start
  cap : x.g.kinds.length ≤ a.a.ck ∧ x.g.precs.length ≤ a.a.cp ∧ x.g.rules.length ≤ a.a.cr ∧ x.g.prods.length ≤ a.a.cq
  cl : x.l.length ≤ a.cl
  ct : x.ty.length ≤ a.ct
structure Gv.rd (x : Gv) (w : World) (a : GvA) : Prop where
  g : x.g.rd w a.a
  l : Rd kDt w a.l x.l
  t : Rd kStr w a.t x.ty
theorem Gv.rd.below {x : Gv} {w w' : World} {a : GvA} (h : x.rd w a) (hb : Below w.heap.size w w') : x.rd w' a := ⟨h.g.below hb, h.l.below hb, h.t.below hb⟩
variable {tp tk tpc tq : TypeId}
theorem rd_gv (T : GTypes P ti tz ta ts tr tp) (T2 : GTypes2 P ti tp tk tpc tq tg) (D : DtTypes P tz tk tc tcs td tds) (G : GvTypes P tg tds tk tw) {H : Type} {enc : TypeId × Value → H} {w : World} {base : Nat} {spare : Nat → Bool} {held : Bool} {fuel : Nat} {cs : List Value} {x : DataW H × List MemPlace} (h : DataW.trod enc P w base spare held fuel tw cs = some x) (hN : Rows.uptoBulk x.1 ≤ 1048576) :
    ∃ (g : Gv) (a : GvA), cs = g.cs a ∧ g.rd w a ∧ g.ok a := by
  obtain ⟨f0, f1, f2, hu, h0, h1, h2⟩ := G.g
  simp only [Prod.mk.injEq] at h0 h1 h2
  obtain ⟨xs, n, hb, hl, hlen, hf⟩ := fields_of hu h
  rw [G.cg] at hl
  obtain ⟨c0, c1, c2, c3, c4, c5, c6, rfl⟩ := seven_len hl
  obtain ⟨y0, i0, e0⟩ := hf 0 f0 rfl
  obtain ⟨y1, i1, e1⟩ := hf 1 f1 rfl
  obtain ⟨y2, i2, e2⟩ := hf 2 f2 rfl
  have s2 : P.cellsOf tk = 1 := T2.k.sz
  rw [h0.1, h0.2, T2.cg] at e0
  rw [h1.1, h1.2, D.cds] at e1
  rw [h2.1, h2.2, s2] at e2
  have p0 := part_le i0
  have p1 := part_le i1
  have p2 := part_le i2
  obtain ⟨g, a, hcs, hr, hok, hcap, hst, hpr⟩ := rd_pl T T2 e0 (by omega)
  obtain ⟨l, ⟨A1, k1, g1, l1, r1⟩, hl1, _⟩ := (rdsN_dts D (Nat.le_refl _)).rd e1 (by omega)
  obtain ⟨ty, ⟨A2, k2, g2, l2, r2⟩, b2, d2⟩ := T2.k.rd e2
  have g0 : [c0, c1, c2, c3, c4] = g.cs a := hcs
  have g1' : [c5] = [Value.slice A1 l.length k1] := g1
  have g2' : [c6] = [Value.slice A2 ty.length k2] := g2
  simp only [List.cons.injEq, and_true] at g0 g1' g2'
  obtain ⟨q0, q1, q2, q3, q4⟩ := g0
  subst q0 q1 q2 q3 q4 g1' g2'
  exact ⟨⟨g, l, ty⟩, ⟨a, A1, k1, A2, k2⟩, rfl, ⟨hr, r1, r2⟩, hok, hl1, by dsimp only; omega, fun s hs => by obtain ⟨m, hm, h3⟩ := d2 s hs; omega, by dsimp only; omega, hst, hcap, l1, l2⟩
/-- A tree over a row. -/
structure TeTypes (P : Program) (td tr tt : TypeId) : Prop where
  g : ∃ f0 f1 : Field, P.underlying tt = some (.struct #[f0, f1]) ∧ (f0.type, f0.offset) = (td, 0) ∧ (f1.type, f1.offset) = (tr, 3)
  cg : P.cellsOf tt = 4
theorem rd_te (T : DvTypes P ti td ts) (hr : Rds P tr (kInt .i64).sl (fun xs n => xs.length + 1 ≤ n ∧ ∀ x ∈ xs, ∃ m, m ≤ n ∧ (Lit.int .i64 x).wf = true ∧ 1 ≤ m)) (G : TeTypes P td tr tt) {H : Type} {enc : TypeId × Value → H} {w : World} {base : Nat} {spare : Nat → Bool} {held : Bool} {fuel : Nat} {cs : List Value} {x : DataW H × List MemPlace} (h : DataW.trod enc P w base spare held fuel tt cs = some x) (hN : Rows.uptoBulk x.1 ≤ 1048576) :
    ∃ (d : Dv) (row : List Int) (B A : Option Addr) (k c : Nat), cs = [.int .i64 d.x.prod, .int .i64 d.x.tok, .slice B d.kids.length k, .slice A row.length c] ∧ Rd (kTr fDv) w B d.kids ∧ Rd (kInt .i64) w A row ∧ d.cnt ≤ 1048576 ∧ row.length ≤ 1048576 ∧ (d.kids.length ≤ k ∧ row.length ≤ c) ∧ ∀ x ∈ row, I64 x := by
  obtain ⟨f0, f1, hu, h0, h1⟩ := G.g
  simp only [Prod.mk.injEq] at h0 h1
  obtain ⟨xs, n, hb, hl, hlen, hf⟩ := fields_of hu h
  rw [G.cg] at hl
  obtain ⟨c0, c1, c2, c3, rfl⟩ := four_len hl
  obtain ⟨y0, i0, e0⟩ := hf 0 f0 rfl
  obtain ⟨y1, i1, e1⟩ := hf 1 f1 rfl
  have s1 : P.cellsOf tr = 1 := hr.sz
  rw [h0.1, h0.2, T.ca] at e0
  rw [h1.1, h1.2, s1] at e1
  have p0 := part_le i0
  have p1 := part_le i1
  obtain ⟨d, hd, hcn⟩ := (rdsN_dv T (Rows.uptoBulk y0.1)).rd e0 (Nat.le_refl _)
  obtain ⟨row, ⟨A, c, hc, hle, hrr⟩, b1, d1⟩ := hr.rd e1
  obtain ⟨B, k, hB, hBl, hBr⟩ := Tr.K.open hd
  have g1 : [c3] = [Value.slice A row.length c] := hc
  have g0 : [c0, c1, c2] = [Value.int .i64 d.x.prod, .int .i64 d.x.tok, .slice B d.kids.length k] := hB
  simp only [List.cons.injEq, and_true] at g0 g1
  obtain ⟨q0, q1, q2⟩ := g0
  subst q0 q1 q2 g1
  exact ⟨d, row, B, A, k, c, rfl, hBr, hrr, by omega, by omega, ⟨hBl, hle⟩, fun x hx => by obtain ⟨m, _, hw, _⟩ := d1 x hx; exact i64_wf hw⟩
end
end Go.Proofs.YtgdemplcpcacaaaFx

/-! How the arguments' types are read (seat 21). -/
namespace Go.Proofs.Ytgdemplcpcacaaa.RowTy
open Go Go.ChangeShapes Go.WideShapes Go.ChangeAt Go.RowKit Go.Deep Go.Joins Go.Proofs.YtgdemplcpcacaaaFx
theorem own : ownKnob Try.prog.godebug = none := by kernel_rfl
theorem laidOut : laidOutB Try.prog = true := by kernel_rfl
theorem rInt : Rds Try.prog 3 (kInt .i64) (fun a n => (Lit.int .i64 a).wf = true ∧ 1 ≤ n) := rds_int Try.underlying3 (by kernel_rfl)
theorem rStr : Rds Try.prog 9 kStr (fun a n => a.size + 1 ≤ n) := rds_str Try.underlying9 (by kernel_rfl)
theorem rRow : Rds Try.prog 51 (kInt .i64).sl (fun xs n => xs.length + 1 ≤ n ∧ ∀ x ∈ xs, ∃ m, m ≤ n ∧ (Lit.int .i64 x).wf = true ∧ 1 ≤ m) := rds_sl Try.underlying51 (by kernel_rfl) rInt
theorem rStrs : Rds Try.prog 40 kStr.sl (fun xs n => xs.length + 1 ≤ n ∧ ∀ x ∈ xs, ∃ m, m ≤ n ∧ x.size + 1 ≤ m) := rds_sl Try.underlying40 (by kernel_rfl) rStr
theorem gT : GTypes Try.prog 3 9 69 67 51 73 where
  i := rInt
  z := rStr
  a := ⟨_, _, _, _, Try.underlying69, rfl, rfl, rfl, rfl⟩
  ca := by kernel_rfl
  s := Try.underlying67
  cs := by kernel_rfl
  r := rRow
  p := ⟨_, _, _, _, Try.underlying73, rfl, rfl, rfl, rfl⟩
  cp := by kernel_rfl
theorem rPc : Rds Try.prog 145 fMv.kn (fun a n => (I64 a.d ∧ I64 a.n) ∧ 1 ≤ n) := rds_mv Try.underlying145 Try.underlying3 (by kernel_rfl) (by kernel_rfl) rfl rfl
theorem gT2 : GTypes2 Try.prog 3 73 40 41 42 44 where
  k := rStrs
  c := rds_sl Try.underlying41 (by kernel_rfl) rPc
  q := Try.underlying42
  cq := by kernel_rfl
  g := ⟨_, _, _, _, _, Try.underlying44, rfl, rfl, rfl, rfl, rfl⟩
  cg := by kernel_rfl
theorem dT : DtTypes Try.prog 9 40 80 81 83 45 where
  z := rStr
  zs := rStrs
  c := ⟨_, _, Try.underlying80, rfl, rfl⟩
  cc := by kernel_rfl
  cs := Try.underlying81
  ccs := by kernel_rfl
  d := ⟨_, _, Try.underlying83, rfl, rfl⟩
  cd := by kernel_rfl
  ds := Try.underlying45
  cds := by kernel_rfl
theorem gvT : GvTypes Try.prog 44 45 40 47 := ⟨⟨_, _, _, Try.underlying47, rfl, rfl, rfl⟩, by kernel_rfl⟩
theorem dvT : DvTypes Try.prog 3 50 48 := ⟨rInt, ⟨_, _, _, Try.underlying50, rfl, rfl, rfl⟩, by kernel_rfl, Try.underlying48, by kernel_rfl⟩
theorem teT : TeTypes Try.prog 50 51 53 := ⟨⟨_, _, Try.underlying53, rfl, rfl⟩, by kernel_rfl⟩
theorem ndT : NdTypes Try.prog 3 9 24 22 := ⟨rInt, rStr, ⟨_, _, _, _, Try.underlying24, rfl, rfl, rfl, rfl⟩, by kernel_rfl, Try.underlying22, by kernel_rfl⟩
/-- A node, read. -/
theorem rd_nd {H : Type} {enc : TypeId × Value → H} {w : World} {base : Nat} {spare : Nat → Bool} {held : Bool} {fuel : Nat} {cs : List Value} {x : DataW H × List MemPlace} (h : DataW.trod enc Try.prog w base spare held fuel 24 cs = some x) (hN : Rows.uptoBulk x.1 ≤ 1048576) :
    ∃ (t : Nd) (A : Option Addr) (k : Nat), cs = [.int .i64 t.x.kind, .string t.x.name, .int .i64 t.x.tok, .slice A t.kids.length k] ∧ Rd (kTr fNd) w A t.kids ∧ t.cnt ≤ 1048576 ∧ t.All (ndSm 1048576) ∧ t.kids.length ≤ k := by
  obtain ⟨t, hk, h1, h2⟩ := (rdsN_nd ndT (Rows.uptoBulk x.1)).rd h (Nat.le_refl _)
  obtain ⟨A, k, hA, hl, hr⟩ := Tr.K.open hk
  exact ⟨t, A, k, hA, hr, by omega, Tr.All.imp (fun y k hy => ⟨by have := hy.1; omega, by have := hy.2; omega⟩) t h2, hl⟩
theorem small_nd {t : Nd} (h : t.All (ndSm 1048576)) : t.All smallN := Tr.All.imp (fun y k hy => ⟨by have := hy.1; omega, by have := hy.2; omega⟩) t h
/-- Data, read. -/
theorem rd_dts {H : Type} {enc : TypeId × Value → H} {w : World} {base : Nat} {spare : Nat → Bool} {held : Bool} {fuel : Nat} {cs : List Value} {x : DataW H × List MemPlace} (h : DataW.trod enc Try.prog w base spare held fuel 45 cs = some x) (hN : Rows.uptoBulk x.1 ≤ 1048576) :
    ∃ (l : List Dt) (A : Option Addr) (c : Nat), cs = [.slice A l.length c] ∧ Rd kDt w A l ∧ DOk l ∧ l.length ≤ c := by
  obtain ⟨l, ⟨A, c, hc, hle, hr⟩, hl, _⟩ := (rdsN_dts dT (Nat.le_refl 1048576)).rd h hN
  exact ⟨l, A, c, hc, hr, hl, hle⟩
end Go.Proofs.Ytgdemplcpcacaaa.RowTy
