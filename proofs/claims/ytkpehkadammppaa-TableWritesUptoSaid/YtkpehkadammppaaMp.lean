/- Maps of the call's own: made, read, written, gone through. -/
import Derived.Test.YtkpehkadammppaaRd
import Derived.StringKeys
set_option linter.unusedVariables false
namespace Go.Proofs.YtkpehkadammppaaFx
open Go Go.RowKit Go.ChangeMaps Go.MapKept Go.WideShapes
open Go.WideMaps (keyOf_string_mk)
open Go.WideElems (Fit rd rg rd_key rd_val rg_of)
open Go.Maps (Keyed)

/-- A map's keys: how they are values, and how they are told. -/
structure KeyK (P : Program) (kt : TypeId) (κ : Type) where
  val : κ → Value
  lit : κ → Lit
  ok : κ → Prop
  law : Keyed P kt
  of : ∀ {x : κ}, ok x → keyOf P kt (val x) = some (lit x)
  inj : ∀ {x y : κ}, lit x = lit y → x = y
  surj : ∀ {v : Value} {l : Lit}, keyOf P kt v = some l → ∃ x, ok x ∧ v = val x ∧ l = lit x
def keyInt {P : Program} {kt : TypeId} {k : IntKind} (h : P.underlying kt = some (.int k)) : KeyK P kt Int where
  val := fun i => .int k i
  lit := fun i => .int k i
  ok := fun i => (Lit.int k i).wf = true
  law := Maps.int_keyed h
  of := fun hw => Maps.keyOf_int_mk h hw
  inj := fun h => by injection h
  surj := fun {v l} hv => by
    rw [keyOf_int h] at hv
    unfold mapKey at hv
    rw [h] at hv
    cases v <;> simp at hv
    obtain ⟨⟨rfl, hw⟩, rfl⟩ := hv
    exact ⟨_, hw, rfl, rfl⟩
def keyStr {P : Program} {kt : TypeId} (h : P.underlying kt = some .string) : KeyK P kt ByteArray where
  val := fun s => .string s
  lit := fun s => .string s.data.toList
  ok := fun s => s.size ≤ maxLen
  law := Maps.string_keyed h
  of := fun hw => keyOf_string_mk h hw
  inj := fun h => by injection h with h; exact ByteArray.ext (Array.toList_inj.1 h)
  surj := fun {v l} hv => by
    rw [keyOf_string h] at hv
    unfold mapKey at hv
    rw [h] at hv
    cases v <;> simp at hv
    obtain ⟨hw, rfl⟩ := hv
    exact ⟨_, hw, rfl, rfl⟩

/-- A value as it stands. -/
def rawR (v : Value) : Option (DataW Value × List MemPlace) := some (.held v, [])
section
variable {P : Program} {kt : TypeId} {κ β : Type} {Kk : KeyK P kt κ} {enc : β → Value} {f : κ → Option β} {b r N cnt : Nat} {left : κ → Bool} {w w' W0 : World} {L L' : List Ch}
def View (Kk : KeyK P kt κ) (enc : β → Value) (D : DataW Value) (f : κ → Option β) : Prop := ∀ x, Kk.ok x → (f x = none → ∀ z, D.atKey (Kk.lit x) z = z) ∧ ∀ v, f x = some v → ∀ z, D.atKey (Kk.lit x) z = .held (enc v)
/-- Block b is a map of at most N entries that tells f. -/
def Mp (Kk : KeyK P kt κ) (enc : β → Value) (b N : Nat) (f : κ → Option β) : Ch where
  p := fun w S => S b ∧ ∃ D, w.ownsMap P kt rawR b N D ∧ View Kk enc D f
  st := fun h ⟨h1, D, ⟨es, clock, hb, F, hs, hD⟩, hv⟩ => ⟨h1, D, ⟨es, clock, (h b h1).trans hb, F, hs, hD⟩, hv⟩
theorem Mp.mono {N' : Nat} (hN : N ≤ N') (S : Nat → Prop) (h : (Mp Kk enc b N f).p w S) : (Mp Kk enc b N' f).p w S := by
  obtain ⟨h1, D, ⟨es, clock, hb, F, hs, hD⟩, hv⟩ := h
  exact ⟨h1, D, ⟨es, clock, hb, F, Nat.le_trans hs hN, hD⟩, hv⟩
theorem Holds.makeMap (H : Holds W0 L w) (Kk : KeyK P kt κ) (enc : β → Value) : Holds W0 (Mp Kk enc w.heap.size 0 (fun _ => none) :: L) (w.alloc (.map #[] 0)) :=
  H.push (below_alloc' w _) ⟨⟨Nat.le_refl _, by simp⟩, _, World.ownsMap_made w P kt rawR, fun x _ => ⟨fun _ z => rfl, fun v h => by cases h⟩⟩
theorem run_look {t e : TypeId} {z : Value} {x : κ} {S : Nat → Prop} (H : (Mp Kk enc b N f).p w S) (ht : P.underlying t = some (.map kt e)) (hz : ∀ W, (zeroValue e).run P W = .ok z W) (hx : Kk.ok x) (c : Bool) :
    (Instr.lookup t (.map (some b)) (Kk.val x) c).run P w = .ok (if c then .tuple #[((f x).map enc).getD z, .bool (f x).isSome] else ((f x).map enc).getD z) w := by
  obtain ⟨_, D, ⟨es, clock, hb, F, hs, rfl⟩, hv⟩ := H
  have hvx := hv x hx
  rcases Maps.fit_look c Kk.law ht (hz w) hb F (Kk.of hx) with ⟨hrun, _, hat⟩ | ⟨e0, y, _, _, hrun, hR, hat, _⟩
  · cases hf : f x with
    | none => rw [hrun]; cases c <;> simp
    | some v =>
      have h1 := hvx.2 v hf .nil
      rw [hat] at h1
      cases h1
  · cases hf : f x with
    | none =>
      have h1 := hvx.1 hf .nil
      rw [hat] at h1
      simp only [rawR, Option.some.injEq] at hR
      subst hR
      cases h1
    | some v =>
      have h1 := hvx.2 v hf .nil
      rw [hat] at h1
      simp only [rawR, Option.some.injEq] at hR
      subst hR
      have h2 : e0.val = enc v := by injection h1
      rw [hrun, h2]
      cases c <;> simp
theorem run_set {t e : TypeId} {x : κ} {v : β} [DecidableEq κ] (H : Holds W0 L w) (U : Upd L (Mp Kk enc b N f) (Mp Kk enc b (N + 1) (fun y => if y = x then some v else f y)) L') (ht : P.underlying t = some (.map kt e)) (hx : Kk.ok x) (hN : N < maxLen) :
    ∃ w', (Instr.mapUpdate t (.map (some b)) (Kk.val x) (enc v)).run P w = .ok () w' ∧ Holds W0 L' w' ∧ w.heap.size ≤ w'.heap.size := by
  obtain ⟨S, hS, ⟨hSb, D, hown, hv⟩, hstep⟩ := H.upd U
  have hD : Maps.IsMap D := by
    obtain ⟨es, _, _, _, _, rfl⟩ := hown
    exact ⟨_, rfl⟩
  obtain ⟨w', hrun, hown', hg⟩ := hown.update Kk.law ht hN (Kk.of hx) (show rawR (enc v) = some (.held (enc v), []) from rfl)
  refine ⟨w', hrun, hstep w' S hg.os hg.tape hg.output hg.size (fun k hk hn => hg.block k hk (fun e => hn (by injection e with e; rw [e]; exact hSb))) (fun k hk => .inl hk) ⟨hSb, _, hown', fun y hy => ?_⟩, hg.size⟩
  by_cases hyx : y = x
  · subst hyx
    simp only [if_true]
    refine ⟨fun h => (by cases h), fun u hu z => ?_⟩
    cases hu
    exact Maps.atKey_put_same hD (Kk.law.key (Kk.of hx)) _ _
  · have hne : Kk.lit y ≠ Kk.lit x := fun h => hyx (Kk.inj h)
    simp only [if_neg hyx]
    exact ⟨fun h z => by rw [Maps.atKey_put_other hne]; exact (hv y hy).1 h z, fun u hu z => by rw [Maps.atKey_put_other hne]; exact (hv y hy).2 u hu z⟩

/-- A loop over a map under way: which keys are left, how many; the entry that came up last. -/
def It (Kk : KeyK P kt κ) (enc : β → Value) (b r N : Nat) (f : κ → Option β) (left : κ → Bool) (cnt : Nat) (cur : Option (κ × β)) : Ch where
  p := fun w S => S b ∧ S r ∧ ∃ es clock since seen c0, w.heap[b]? = some (.map es clock) ∧ Fit P kt rawR es clock ∧ es.size ≤ N ∧ View Kk enc (.map ((es.toList.map (rg P kt rawR)).foldr DataW.insert [])) f ∧
    w.heap[r]? = some (.mapIter (some b) since seen c0) ∧ (∀ x ∈ es.toList, x.born < since) ∧ since ≤ c0 ∧ since ≤ clock ∧ (leftOf es seen).size = cnt ∧
    (∀ x, Kk.ok x → ∀ e ∈ es.toList, e.key = Kk.val x → left x = !seen.contains e.born) ∧ (∀ x, Kk.ok x → left x = true → ∃ e ∈ es.toList, e.key = Kk.val x) ∧
    ∀ x v, cur = some (x, v) → ∃ (s' : Array Nat) (e : MapEntry), c0 = clock ∧ seen = s'.push e.born ∧ e ∈ es.toList ∧ e.key = Kk.val x ∧ e.val = enc v
  st := fun h ⟨h1, h2, es, clock, since, seen, c0, hb, F, hN, hv, hr, g⟩ => ⟨h1, h2, es, clock, since, seen, c0, (h b h1).trans hb, F, hN, hv, (h r h2).trans hr, g⟩
/-- What the view says of the entries. -/
theorem View.entry {es : Array MapEntry} {clock : Nat} (F : Fit P kt rawR es clock) (hv : View Kk enc (.map ((es.toList.map (rg P kt rawR)).foldr DataW.insert [])) f) {x : κ} (hx : Kk.ok x) :
    (f x = none → ∀ e ∈ es.toList, e.key ≠ Kk.val x) ∧ ∀ v, f x = some v → ∃ e ∈ es.toList, e.key = Kk.val x ∧ e.val = enc v := by
  have hat := atKey_sorted (es.toList.map (rg P kt rawR)) (Maps.fit_rising Kk.law F) (Kk.lit x) (Kk.law.key (Kk.of hx))
  constructor
  · intro h e he hk
    obtain ⟨y0, hy0⟩ := F.reads e he
    have h1 := rd_key hy0
    rw [hk, Kk.of hx] at h1
    have h2 := hat.2 (rg P kt rawR e) (List.mem_map.2 ⟨e, he, rfl⟩) (by rw [rg_of hy0]; exact (Option.some.inj h1).symm) .nil
    rw [(hv x hx).1 h, rg_of hy0] at h2
    obtain ⟨z, hz, hzd⟩ := rd_val hy0
    simp only [rawR, Option.some.injEq] at hz
    subst hz
    rw [hzd] at h2
    cases h2
  · intro v h
    by_cases hex : ∃ e ∈ es.toList, e.key = Kk.val x
    · obtain ⟨e, he, hk⟩ := hex
      refine ⟨e, he, hk, ?_⟩
      obtain ⟨y0, hy0⟩ := F.reads e he
      have h1 := rd_key hy0
      rw [hk, Kk.of hx] at h1
      have h2 := hat.2 (rg P kt rawR e) (List.mem_map.2 ⟨e, he, rfl⟩) (by rw [rg_of hy0]; exact (Option.some.inj h1).symm) .nil
      rw [(hv x hx).2 v h, rg_of hy0] at h2
      obtain ⟨z, hz, hzd⟩ := rd_val hy0
      simp only [rawR, Option.some.injEq] at hz
      subst hz
      rw [hzd] at h2
      injection h2 with h2
      exact h2.symm
    · have h2 := hat.1 (fun q hq hqe => hex (by
        obtain ⟨e, he, rfl⟩ := List.mem_map.1 hq
        obtain ⟨y0, hy0⟩ := F.reads e he
        have h1 := rd_key hy0
        rw [rg_of hy0] at hqe
        refine ⟨e, he, ?_⟩
        rw [hqe] at h1
        exact Kk.law.inj h1 (Kk.of hx))) .nil
      rw [(hv x hx).2 v h] at h2
      cases h2
theorem View.some_iff {es : Array MapEntry} {clock : Nat} (F : Fit P kt rawR es clock) (hv : View Kk enc (.map ((es.toList.map (rg P kt rawR)).foldr DataW.insert [])) f) {x : κ} (hx : Kk.ok x) : (f x).isSome = true ↔ ∃ e ∈ es.toList, e.key = Kk.val x := by
  have h := View.entry F hv hx
  cases hf : f x with
  | none => exact ⟨fun h => (by cases h), fun ⟨e, he, hk⟩ => absurd hk (h.1 hf e he)⟩
  | some v => exact ⟨fun _ => let ⟨e, he, hk, _⟩ := h.2 v hf; ⟨e, he, hk⟩, fun _ => rfl⟩
/-- 'range m'. -/
theorem run_range {t e : TypeId} {Lf : Nat → Nat → List Ch} (H : Holds W0 L w) (U : ∀ r cnt, Upd L (Mp Kk enc b N f) (It Kk enc b r N f (fun x => (f x).isSome) cnt none) (Lf r cnt)) (ht : P.underlying t = some (.map kt e)) :
    ∃ r cnt w', (Instr.range t (.map (some b))).run P w = .ok (.pointer (some ⟨r, 0, none⟩)) w' ∧ Holds W0 (Lf r cnt) w' ∧ w.heap.size ≤ r ∧ w.heap.size ≤ w'.heap.size ∧ cnt ≤ N := by
  obtain ⟨S0, _, ⟨_, D0, ⟨es, clock, hb, F, hs, hD⟩, hv0⟩, _⟩ := H.upd (U 0 0)
  obtain ⟨S, hS, ⟨hSb, D, ⟨es', clock', hb', F', hs', rfl⟩, hv⟩, hstep⟩ := H.upd (U w.heap.size (leftOf es #[]).size)
  rw [hb] at hb'
  injection hb' with hb'
  injection hb' with h1 h2
  subst h1 h2
  have hlt := (hS b hSb).2
  refine ⟨w.heap.size, _, _, run_range_map w t kt e b es clock ht hb, hstep (w.alloc (.mapIter (some b) clock #[] clock)) (fun k => S k ∨ k = w.heap.size) rfl rfl rfl (by simp) (fun k hk _ => Below.heap_alloc w _ k hk) (fun k hk => hk.imp id (fun e => by subst e; exact ⟨Nat.le_refl _, by simp⟩)) ?_, Nat.le_refl _, by simp, ?_⟩
  · refine ⟨.inl hSb, .inr rfl, es, clock, clock, #[], clock, (Below.heap_alloc w _ b hlt).trans hb, F, hs, hv, (MapKept.heap_alloc w _).1, F.stamped.1, Nat.le_refl _, Nat.le_refl _, rfl, fun x hx e he hk => ?_, fun x hx hl => (View.some_iff F hv hx).1 hl, fun x v h => by cases h⟩
    show (f x).isSome = _
    rw [(View.some_iff F hv hx).2 ⟨e, he, hk⟩]
    simp
  · refine Nat.le_trans ?_ hs
    unfold leftOf
    exact Array.size_filter_le
/-- The step: nothing is left, or some key that is left comes up. -/
theorem run_nxt {ty : TypeId} {cur : Option (κ × β)} {Lf : (κ → Bool) → Nat → Option (κ × β) → List Ch} (H : Holds W0 L w) (U : ∀ left' cnt' cur', Upd L (It Kk enc b r N f left cnt cur) (It Kk enc b r N f left' cnt' cur') (Lf left' cnt' cur')) :
    ((∀ x, Kk.ok x → left x = false) ∧ (Instr.next (.pointer (some ⟨r, 0, none⟩)) false ty).run P w = .ok (.tuple #[.bool false]) w) ∨
    ∃ x v left' cnt' w', Kk.ok x ∧ left x = true ∧ f x = some v ∧ (∀ y, Kk.ok y → (left' y = true ↔ left y = true ∧ y ≠ x)) ∧ cnt' < cnt ∧
      (Instr.next (.pointer (some ⟨r, 0, none⟩)) false ty).run P w = .ok (.tuple #[.bool true, Kk.val x, enc v]) w' ∧ Holds W0 (Lf left' cnt' (some (x, v))) w' ∧ w.heap.size ≤ w'.heap.size := by
  obtain ⟨_, _, ⟨_, _, es, clock, since, seen, c0, hb, F, hN, hv, hr, hold, hsc, hsk, hcnt, hl1, hl2, _⟩, _⟩ := H.upd (U (fun _ => false) 0 none)
  rcases run_next_at (P := P) w ty r b since c0 seen es clock hr hb hold hsc with ⟨h0, hrun⟩ | ⟨e, he, w1, hal, hrun⟩
  · refine .inl ⟨fun x hx => ?_, hrun⟩
    cases hk : left x
    · rfl
    · obtain ⟨e, he, hek⟩ := hl2 x hx hk
      rw [hl1 x hx e he hek, all_seen es seen h0 e he] at hk
      cases hk
  · obtain ⟨hem, hes⟩ := mem_left he
    obtain ⟨y0, hy0⟩ := F.reads e hem
    obtain ⟨x, hx, hxk, hxl⟩ := Kk.surj (rd_key hy0)
    have hlx : left x = true := by rw [hl1 x hx e hem hxk, hes]; rfl
    obtain ⟨v, hfv⟩ := Option.isSome_iff_exists.1 ((View.some_iff F hv hx).2 ⟨e, hem, hxk⟩)
    have hst := (stamped_iff es clock).1 F.stamped
    have hev : e.val = enc v := by
      obtain ⟨e', he', hk', hv'⟩ := (View.entry F hv hx).2 v hfv
      have : e' = e := entry_eq_of_key hst.2.2 he' hem (hk'.trans hxk.symm)
      rw [← this]; exact hv'
    have hne : r ≠ b := fun h => by rw [h, hb] at hr; cases hr
    obtain ⟨S, hS, ⟨hSb, hSr, _⟩, hstep⟩ := H.upd (U (fun y => left y && !(@decide (y = x) (Classical.propDecidable _))) ((leftOf es (seen.push e.born)).size) (some (x, v)))
    have hr1 : w1.heap[r]? = some (.mapIter (some b) since seen c0) := by rcases hal with rfl | rfl <;> exact hr
    have hset := heap_set (o' := .mapIter (some b) since (seen.push e.born) clock) hr1
    have hw1 : w1.heap = w.heap := by rcases hal with rfl | rfl <;> rfl
    have hsz : (setBlock w1 r (.mapIter (some b) since (seen.push e.born) clock)).heap.size = w.heap.size := by simp [setBlock, hw1]
    have e1 : (setBlock w1 r (.mapIter (some b) since (seen.push e.born) clock)).os = w.os := by rcases hal with rfl | rfl <;> rfl
    have e2 : (setBlock w1 r (.mapIter (some b) since (seen.push e.born) clock)).tape = w.tape := by rcases hal with rfl | rfl <;> rfl
    have e3 : (setBlock w1 r (.mapIter (some b) since (seen.push e.born) clock)).output = w.output := by rcases hal with rfl | rfl <;> rfl
    have hoth : ∀ k, k ≠ r → (setBlock w1 r (.mapIter (some b) since (seen.push e.born) clock)).heap[k]? = w.heap[k]? := fun k hk => (hset.2 k hk).trans (by rw [hw1])
    have key_inj : ∀ y, Kk.ok y → Kk.val y = Kk.val x → y = x := fun y hy h => Kk.inj (by
      have h1 := Kk.of hy
      rw [h, Kk.of hx] at h1
      exact (Option.some.inj h1).symm)
    refine .inr ⟨x, v, _, _, _, hx, hlx, hfv, fun y hy => ?_, by rw [← hcnt]; exact left_shrinks es seen e he, by rw [← hxk, ← hev]; exact hrun, hstep _ S e1 e2 e3 (by rw [hsz]; exact Nat.le_refl _) (fun k hk hn => hoth k (fun h => hn (h ▸ hSr))) (fun k hk => .inl hk)
      ⟨hSb, hSr, es, clock, since, seen.push e.born, clock, (hoth b (Ne.symm hne)).trans hb, F, hN, hv, hset.1, hold, hsk, hsk, rfl, fun y hy e' he' hk' => ?_, fun y hy hl => ?_, fun x' v' hc => ?_⟩, by rw [hsz]; exact Nat.le_refl _⟩
    · simp
    · rw [contains_push]
      show (left y && !(@decide (y = x) (Classical.propDecidable _))) = _
      rw [hl1 y hy e' he' hk']
      by_cases hyx : y = x
      · subst hyx
        have : e' = e := entry_eq_of_key hst.2.2 he' hem (hk'.trans hxk.symm)
        subst this
        simp
      · have hb' : (e'.born == e.born) = false := by
          cases hbb : e'.born == e.born
          · rfl
          · have : e' = e := born_inj hst.2.1 he' hem (beq_iff_eq.1 hbb)
            subst this
            exact absurd (key_inj y hy (hk'.symm.trans hxk)) hyx
        simp [hyx, hb']
    · simp only [Bool.and_eq_true] at hl
      exact hl2 y hy hl.1
    · simp only [Option.some.injEq, Prod.mk.injEq] at hc
      obtain ⟨rfl, rfl⟩ := hc
      exact ⟨seen, e, rfl, rfl, hem, hxk, hev⟩
theorem run_ent {x : κ} {v : β} (H : Holds W0 L w) (U : Upd L (It Kk enc b r N f left cnt (some (x, v))) (It Kk enc b r N f left cnt (some (x, v))) L) : (Instr.entry (.pointer (some ⟨r, 0, none⟩))).run P w = .ok (.tuple #[Kk.val x, enc v]) w := by
  obtain ⟨_, _, _, _, es, clock, since, seen, c0, hb, F, hN, hv, hr, hold, hsc, hsk, hcnt, hl1, hl2, hcur⟩ := H.get U
  obtain ⟨s', e, rfl, rfl, he, hk, hev⟩ := hcur x v rfl
  rw [← hk, ← hev]
  exact run_entry_at w r b since s' es _ e hr hb he ((stamped_iff es _).1 F.stamped).2.1
theorem It.mono {cur : Option (κ × β)} {w : World} {N' : Nat} (hN : N ≤ N') (S : Nat → Prop) (h : (It Kk enc b r N f left cnt cur).p w S) : (It Kk enc b r N' f left cnt cur).p w S := by
  obtain ⟨h1, h2, es, clock, since, seen, c0, hb, F, hs, g⟩ := h
  exact ⟨h1, h2, es, clock, since, seen, c0, hb, F, Nat.le_trans hs hN, g⟩
/-- Behind the loop: the map alone. -/
theorem It.mp {cur : Option (κ × β)} {w : World} (S : Nat → Prop) (h : (It Kk enc b r N f left cnt cur).p w S) : (Mp Kk enc b N f).p w S := by
  obtain ⟨h1, _, es, clock, since, seen, c0, hb, F, hN, hv, _⟩ := h
  exact ⟨h1, _, ⟨es, clock, hb, F, hN, rfl⟩, hv⟩
end
end Go.Proofs.YtkpehkadammppaaFx
