/- Rules for the generated walks: sums without overflow, fields by closed facts, maps at their operations. -/
import Derived.Test.YtkpehkadammppaaMp
import Derived.IntWalk
set_option linter.unusedVariables false
namespace Go.Proofs.YtkpehkadammppaaFx
open Go Go.RowKit

theorem of_nd_t {p : Prop} [Decidable p] (h : (!decide p) = true) : ¬ p := by simpa using h
theorem of_nd_f {p : Prop} [Decidable p] (h : (!decide p) = false) : p := by simpa using h
theorem of_n_t {b : Bool} (h : (!b) = true) : b = false := by simpa using h
theorem of_n_f {b : Bool} (h : (!b) = false) : b = true := by simpa using h
/-- Field f of struct type s lies o cells from its beginning. -/
structure FieldAt (P : Program) (s : TypeId) (f o : Nat) : Prop where
  fs : ∃ (fs : Array Field) (fd : Field) (sz : Nat), P.underlying s = some (.struct fs) ∧ fs[f]? = some fd ∧ (∀ W, (sizeOf fd.type).run P W = .ok sz W) ∧ 0 < sz ∧ fd.offset = o
theorem field_at {P : Program} {s : TypeId} {f o : Nat} {fs : Array Field} {fd : Field} {sz : Nat} (hs : P.underlying s = some (.struct fs)) (hf : fs[f]? = some fd) (hi : (P.info? fd.type).map (·.size) = some (sz + 1)) (ho : fd.offset = o) : FieldAt P s f o :=
  ⟨fs, fd, sz + 1, hs, hf, fun W => by
    obtain ⟨i, hi1, hi2⟩ := Option.map_eq_some_iff.1 hi
    simp [sizeOf, typeInfo, hi1, hi2], by omega, ho⟩
theorem size_of {P : Program} {t : TypeId} {k : Nat} (hi : (P.info? t).map (·.size) = some k) : ∀ W, (sizeOf t).run P W = .ok k W := fun W => by
  obtain ⟨i, hi1, hi2⟩ := Option.map_eq_some_iff.1 hi
  simp [sizeOf, typeInfo, hi1, hi2]

section
variable {P : Program} {n : Nat} {Q : Post} {Qs : Fr → Prop} {l : Fr} {w W0 : World} {L L' : List Ch} {ops : Array Oper} {rest : List Oper} {d : Nat} {x y : Operand} {ty t t2 : TypeId} {pos : String} {af : Array Edge} {gd : Option (Nat × Bool)} {dst : Option Tmp} {v : Value} {i j : Int}
theorem v_addi (hx : ev l x = some (.int .i64 i)) (hy : ev l y = some (.int .i64 j)) (h : -9223372036854775808 ≤ i + j ∧ i + j ≤ 9223372036854775807) : Vs P n l ⟨dst, .binOp .add t x y t2, ty, pos, af, gd⟩ w (.int .i64 (i + j)) := by
  have h1 := v_add (P := P) (n := n) (w := w) (ty := ty) (t := t) (t2 := t2) (pos := pos) (af := af) (gd := gd) (dst := dst) hx hy
  rwa [IntWalk.i64_in _ h] at h1
theorem v_subi (hx : ev l x = some (.int .i64 i)) (hy : ev l y = some (.int .i64 j)) (h : -9223372036854775808 ≤ i - j ∧ i - j ≤ 9223372036854775807) : Vs P n l ⟨dst, .binOp .sub t x y t2, ty, pos, af, gd⟩ w (.int .i64 (i - j)) := by
  have h1 := v_sub (P := P) (n := n) (w := w) (ty := ty) (t := t) (t2 := t2) (pos := pos) (af := af) (gd := gd) (dst := dst) hx hy
  rwa [IntWalk.i64_in _ h] at h1
theorem v_negi (hx : ev l x = some (.int .i64 i)) (h : -9223372036854775807 ≤ i ∧ i ≤ 9223372036854775807) : Vs P n l ⟨dst, .unOp .neg t x, ty, pos, af, gd⟩ w (.int .i64 (-i)) := by
  have h1 := v_neg (P := P) (n := n) (w := w) (ty := ty) (t := t) (pos := pos) (af := af) (gd := gd) (dst := dst) hx
  rwa [IntWalk.i64_in _ (by omega), Int.zero_sub] at h1
theorem v_pick_t {c a b : Operand} {q : Bool} (hc : ev l c = some (.bool q)) (hq : q = true) (hx : ev l a = some v) : Vs P n l ⟨dst, .pick c a b, ty, pos, af, gd⟩ w v := v_pick hc (fun _ => hx) (fun h => by rw [hq] at h; cases h)
theorem v_pick_f {c a b : Operand} {q : Bool} (hc : ev l c = some (.bool q)) (hq : q = false) (hx : ev l b = some v) : Vs P n l ⟨dst, .pick c a b, ty, pos, af, gd⟩ w v := v_pick hc (fun h => by rw [hq] at h; cases h) (fun _ => hx)
/-- A guard: both ways. -/
theorem wl_guard {op : Op} {jj dj : Nat} {b b' : Bool} (hj : (ops[jj]?).bind (·.dst) = some dj) (hb : lk l dj = some (.bool b')) (hn : Nat.ble (d + 1) n = true)
    (h1 : b' = b → wl P n ops ({ dst := some d, op := op, type := ty, pos := pos, after := af, guard := none } :: rest) Q l w) (h2 : b' = !b → wl P n ops rest Q ((d, undef) :: l) w) : wl P n ops ({ dst := some d, op := op, type := ty, pos := pos, after := af, guard := some (jj, b) } :: rest) Q l w := by
  by_cases h : b' = b
  · subst h
    exact wl_on hj hb (h1 rfl)
  · have h' : b' = !b := by cases b <;> cases b' <;> simp_all
    exact wl_off hj hb h' hn (h2 h')
theorem wl_on' {op : Op} {jj dj : Nat} {b b' : Bool} (hj : (ops[jj]?).bind (·.dst) = some dj) (hb : lk l dj = some (.bool b')) (he : b' = b)
    (h1 : wl P n ops ({ dst := dst, op := op, type := ty, pos := pos, after := af, guard := none } :: rest) Q l w) : wl P n ops ({ dst := dst, op := op, type := ty, pos := pos, after := af, guard := some (jj, b) } :: rest) Q l w := by
  subst he
  exact wl_on hj hb h1
theorem ws_guard {op : Op} {jj dj : Nat} {b b' : Bool} (hj : (ops[jj]?).bind (·.dst) = some dj) (hb : lk l dj = some (.bool b')) (hn : Nat.ble (d + 1) n = true)
    (h1 : b' = b → ws P n ops ({ dst := some d, op := op, type := ty, pos := pos, after := af, guard := none } :: rest) Qs l w) (h2 : b' = !b → ws P n ops rest Qs ((d, undef) :: l) w) : ws P n ops ({ dst := some d, op := op, type := ty, pos := pos, after := af, guard := some (jj, b) } :: rest) Qs l w := by
  by_cases h : b' = b
  · subst h
    exact ws_on hj hb (h1 rfl)
  · have h' : b' = !b := by cases b <;> cases b' <;> simp_all
    exact ws_off hj hb h' hn (h2 h')
theorem ws_on' {op : Op} {jj dj : Nat} {b b' : Bool} (hj : (ops[jj]?).bind (·.dst) = some dj) (hb : lk l dj = some (.bool b')) (he : b' = b)
    (h1 : ws P n ops ({ dst := dst, op := op, type := ty, pos := pos, after := af, guard := none } :: rest) Qs l w) : ws P n ops ({ dst := dst, op := op, type := ty, pos := pos, after := af, guard := some (jj, b) } :: rest) Qs l w := by
  subst he
  exact ws_on hj hb h1
/-- A field's address: in a block, by its place; elsewhere. -/
theorem v_fb {s f o b off o2 : Nat} (hF : FieldAt P s f o) (hx : ev l x = some (.pointer (some ⟨b, off, none⟩))) (ho : off + o = o2) : Vs P n l ⟨some d, .fieldAddr s x f, ty, pos, af, none⟩ w (.pointer (some ⟨b, o2, none⟩)) := by
  obtain ⟨fs, fd, sz, h1, h2, h3, h4, rfl⟩ := hF.fs
  subst ho
  exact v_field h1 h2 h3 h4 hx
theorem v_fp {s f o : Nat} {p : Addr} (hF : FieldAt P s f o) (hx : ev l x = some (.pointer (some p))) : Vs P n l ⟨some d, .fieldAddr s x f, ty, pos, af, none⟩ w (.pointer (some (p.add o))) := by
  obtain ⟨fs, fd, sz, h1, h2, h3, h4, rfl⟩ := hF.fs
  exact v_fld h1 h2 h3 h4 hx

/-! ### composite values -/
/-- cs out of z, by the parts laid in. -/
inductive Fills (pl : Nat → Option (Nat × Nat)) : List Value → List (Nat × Value) → List Value → Prop
  | nil (cs : List Value) : Fills pl cs [] cs
  | cons {cs cs1 cs2 vs : List Value} {i off sz : Nat} {v : Value} {r : List (Nat × Value)} (h1 : pl i = some (off, sz)) (h2 : v.cells = vs.toArray) (h3 : vs.length = sz) (h4 : Put cs off vs cs1) (h5 : Fills pl cs1 r cs2) : Fills pl cs ((i, v) :: r) cs2
theorem Put.len {cs vs cs' : List Value} {off : Nat} (h : Put cs off vs cs') : off + vs.length ≤ cs.length := by
  induction h with
  | nil => simp
  | here v h ih => simp only [List.length_cons]; omega
  | there h ih => simp only [List.length_cons]; omega
theorem fold_put : ∀ (vs : List Value) (i : Nat) (cs cs' : List Value) (off : Nat), Put cs (off + i) vs cs' → (vs.zipIdx i).foldl (fun (a : Array Value) (p : Value × Nat) => a.setIfInBounds (off + p.2) p.1) cs.toArray = cs'.toArray
  | [], i, cs, cs', off, h => by rw [h.last]; rfl
  | v :: vs, i, cs, cs', off, h => by
    obtain ⟨hlt, h'⟩ := h.first
    rw [List.zipIdx_cons, List.foldl_cons]
    have : cs.toArray.setIfInBounds (off + i) v = (cs.set (off + i) v).toArray := by simp
    rw [this]
    exact fold_put vs (i + 1) _ _ off (by rw [← Nat.add_assoc]; exact h')
theorem fill_of {pl : Nat → Option (Nat × Nat)} {cs cs' : List Value} {ps : List (Nat × Value)} (h : Fills pl cs ps cs') : Instr.fill pl cs.toArray ps = some cs'.toArray := by
  induction h with
  | nil => rfl
  | cons h1 h2 h3 h4 h5 ih =>
    rename_i cs0 cs1 cs2 vs i off sz v r
    have hl := h4.len
    have hf : v.cells.zipIdx.foldl (fun (a : Array Value) (p : Value × Nat) => a.setIfInBounds (off + p.2) p.1) cs0.toArray = cs1.toArray := by
      have hz : vs.toArray.zipIdx = vs.zipIdx.toArray := by simp
      rw [h2, hz, List.foldl_toArray]
      exact fold_put vs 0 cs0 cs1 off h4
    simp only [Instr.fill, h1]
    rw [if_neg (by rw [h2]; simp; omega)]
    exact (congrArg (fun a => Instr.fill pl a r) hf).trans ih
/-- The values of parts. -/
def evp (l : Fr) : List (Nat × Operand) → Option (List (Nat × Value))
  | [] => some []
  | (i, x) :: r => match ev l x, evp l r with
    | some v, some vs => some ((i, v) :: vs)
    | _, _ => none
theorem Ag.evalp {a : Act} (ha : Ag n l a) : ∀ {ps : List (Nat × Operand)} {vs : List (Nat × Value)}, evp l ps = some vs → ps.map (fun p => (p.1, a.eval p.2)) = vs
  | [], vs, h => by simpa [evp] using h
  | (i, x) :: r, vs, h => by
    unfold evp at h
    split at h
    · rename_i v us hv hus
      cases h
      rw [List.map_cons, ha.eval hv, ha.evalp hus]
    · cases h
def plc (f : Field) : Sem (Nat × Nat) := do pure (f.offset, ← sizeOf f.type)
theorem run_plc {f : Field} {i : TypeInfo} (h : P.info? f.type = some i) (W : World) : (plc f).run P W = .ok (f.offset, i.size) W := by simp [plc, sizeOf, typeInfo, h]
/-- A struct type: its zero value's cells, its fields' places. -/
structure BuildAt (P : Program) (t : TypeId) (z : List Value) (pl : List (Nat × Nat)) : Prop where
  zero : ∀ W, (zeroValue t).run P W = .ok (.agg z.toArray) W
  fs : ∃ fs : Array Field, P.underlying t = some (.struct fs) ∧ ∀ W, (fs.mapM plc).run P W = .ok pl.toArray W
theorem mapM_places (P : Program) (W : World) : ∀ (l : List Field) (pl : List (Nat × Nat)), (l.map fun (f : Field) => (P.info? f.type).map fun i => (f.offset, i.size)) = pl.map some → (l.mapM plc).run P W = .ok pl W
  | [], pl, h => by
    cases pl with
    | nil => rfl
    | cons p r => cases h
  | f :: r, pl, h => by
    cases pl with
    | nil => cases h
    | cons p q =>
      simp only [List.map_cons, List.cons.injEq] at h
      obtain ⟨i, hi, hi2⟩ := Option.map_eq_some_iff.1 h.1
      rw [List.mapM_cons]
      simp only [Sem.run_bind, run_plc hi, Result.andThen_ok, mapM_places P W r q h.2, Sem.run_pure, hi2]
theorem build_at {t : TypeId} {z : List Value} {fs : List Field} {pl : List (Nat × Nat)} (hu : P.underlying t = some (.struct fs.toArray)) (hz : (P.info? t).map (·.zero) = some (some (.agg z.toArray))) (hp : (fs.map fun (f : Field) => (P.info? f.type).map fun i => (f.offset, i.size)) = pl.map some) : BuildAt P t z pl :=
  ⟨zero_of hz, fs.toArray, hu, fun W => by
    rw [List.mapM_toArray]
    have h := mapM_places P W fs pl hp
    show (List.toArray <$> List.mapM plc fs : Sem (Array (Nat × Nat))).run P W = _
    rw [show (List.toArray <$> List.mapM plc fs : Sem (Array (Nat × Nat))) = (do let x ← List.mapM plc fs; pure x.toArray) from rfl]
    simp only [Sem.run_bind, h, Result.andThen_ok, Sem.run_pure]⟩
def plAt (pl : List (Nat × Nat)) (i : Nat) : Option (Nat × Nat) := pl[i]?
theorem v_bld {z cs : List Value} {pl : List (Nat × Nat)} {parts : List (Nat × Operand)} {pvs : List (Nat × Value)} (hB : BuildAt P t z pl) (hev : evp l parts = some pvs) (hf : Fills (plAt pl) z pvs cs) : Vs P n l ⟨dst, .build t parts.toArray, ty, pos, af, gd⟩ w (.agg cs.toArray) := fun a ha => by
  obtain ⟨fs, h1, h2⟩ := hB.fs
  have h2' : ∀ W, (fs.mapM fun (f : Field) => (do pure (f.offset, ← sizeOf f.type) : Sem (Nat × Nat))).run P W = .ok pl.toArray W := h2
  have h3 := fill_of hf
  have h4 : (parts.toArray.map fun (i, x) => (i, a.eval x)).toList = pvs := by
    have := ha.evalp hev
    simpa using this
  have h5 : (fun i => pl.toArray[i]?) = plAt pl := by funext i; simp [plAt]
  simp only [execOp, Instr.build, Sem.run_bind, hB.zero, run_underlying h1, h2', Result.andThen_ok, Value.cells]
  rw [h4]
  simp only [h5, h3, Sem.run_pure]
  rfl
/-- A literal slice: its parts' cells in a block. -/
theorem wl_slit {z cs : List Value} {len sz : Nat} {e : TypeId} {parts : List (Nat × Operand)} {pvs : List (Nat × Value)} (H : Holds W0 L w) (hn : Nat.ble (d + 1) n = true) (ht : P.underlying t = some (.slice e)) (hsz : ∀ W, (sizeOf e).run P W = .ok sz W) (hz : ∀ W, (zeroValue e).run P W = .ok v W)
    (hle : len * sz ≤ 16777216) (h0 : len * sz ≠ 0) (hi : (Array.range (len * sz)).map (fun i => v.cells[i % v.cells.size]!) = z.toArray) (hev : evp l parts = some pvs) (hf : Fills (fun i => some (i * sz, sz)) z pvs cs)
    (h : ∀ b w', w.heap.size ≤ b → Holds W0 (Blk b e cs :: L) w' → w.heap.size ≤ w'.heap.size → wl P n ops rest Q ((d, .slice (some ⟨b, 0, none⟩) len len) :: l) w') : wl P n ops (⟨some d, .buildSlice t len parts.toArray, ty, pos, af, none⟩ :: rest) Q l w :=
  wl_v rfl rfl hn (w' := w.alloc (.cells cs.toArray e)) (v := .slice (some ⟨w.heap.size, 0, none⟩) len len) (fun a ha => by
    have h3 := fill_of hf
    have h4 : (parts.toArray.map fun (i, x) => (i, a.eval x)).toList = pvs := by
      have := ha.evalp hev
      simpa using this
    simp only [execOp, Instr.buildSlice, Sem.run_bind, run_underlying ht, hsz, Result.andThen_ok, if_neg h0, Sem.run_pure]
    rw [if_neg (by omega)]
    have h4' : (Array.map (fun x => (x.fst, a.eval x.snd)) parts.toArray).toList = pvs := h4
    simp only [Sem.run_bind, Sem.run_pure, Result.andThen_ok, hz, hi, h4', h3]
    simp [newRow]) (h _ _ (Nat.le_refl _) (H.alloc e cs) (by simp))

/-! ### calls and what they leave -/
theorem Holds.call0 {w' : World} (H : Holds W0 L w) (h : Holds w [] w') : Holds W0 L w' := H.below h.old
theorem Holds.call1 {w' : World} {A : Ch} (H : Holds W0 L w) (h : Holds w [A] w') : Holds W0 (A :: L) w' := H.call h
theorem Holds.call2 {w' : World} {A B : Ch} (H : Holds W0 L w) (h : Holds w [A, B] w') : Holds W0 (A :: B :: L) w' := H.call h

/-! ### maps, at their operations -/
section maps
variable {kt : TypeId} {κ β : Type} {Kk : KeyK P kt κ} {enc : β → Value} {f : κ → Option β} {b r N cnt : Nat} {left : κ → Bool} {cur : Option (κ × β)} {e : TypeId} {z : Value} {kx : κ} {vx : β}
theorem wl_mkmap (Kk : KeyK P kt κ) (enc : β → Value) (H : Holds W0 L w) (hn : Nat.ble (d + 1) n = true)
    (h : ∀ b w', w.heap.size ≤ b → Holds W0 (Mp Kk enc b 0 (fun _ => none) :: L) w' → wl P n ops rest Q ((d, .map (some b)) :: l) w') : wl P n ops (⟨some d, .makeMap t none, ty, pos, af, none⟩ :: rest) Q l w :=
  wl_v rfl rfl hn (w' := w.alloc (.map #[] 0)) (v := .map (some w.heap.size)) (fun a _ => by simp [execOp, run_makeMap]) (h _ _ (Nat.le_refl _) (H.makeMap Kk enc))
theorem v_look (H : Holds W0 L w) (U : Upd L (Mp Kk enc b N f) (Mp Kk enc b N f) L) (ht : P.underlying t = some (.map kt e)) (hz : ∀ W, (zeroValue e).run P W = .ok z W) (hk : Kk.ok kx) (hx : ev l x = some (.map (some b))) (hy : ev l y = some (Kk.val kx)) :
    Vs P n l ⟨some d, .lookup t x y false, ty, pos, af, none⟩ w (((f kx).map enc).getD z) := fun a ha => by
  obtain ⟨S, _, hM⟩ := H.get U
  have h := run_look hM ht hz hk false
  simp only [Bool.false_eq_true, if_false] at h
  simp [execOp, ha.eval hx, ha.eval hy, h]
theorem v_look' {v : Value} (H : Holds W0 L w) (U : Upd L (Mp Kk enc b N f) (Mp Kk enc b N f) L) (ht : P.underlying t = some (.map kt e)) (hz : ∀ W, (zeroValue e).run P W = .ok z W) (hk : Kk.ok kx) (hx : ev l x = some (.map (some b))) (hy : ev l y = some (Kk.val kx)) (he : ((f kx).map enc).getD z = v) :
    Vs P n l ⟨some d, .lookup t x y false, ty, pos, af, none⟩ w v := by subst he; exact v_look H U ht hz hk hx hy
theorem v_lookI {v : Value} (H : Holds W0 L w) (U : Upd L (It Kk enc b r N f left cnt cur) (It Kk enc b r N f left cnt cur) L) (ht : P.underlying t = some (.map kt e)) (hz : ∀ W, (zeroValue e).run P W = .ok z W) (hk : Kk.ok kx) (hx : ev l x = some (.map (some b))) (hy : ev l y = some (Kk.val kx)) (he : ((f kx).map enc).getD z = v) :
    Vs P n l ⟨some d, .lookup t x y false, ty, pos, af, none⟩ w v := fun a ha => by
  obtain ⟨S, _, hM⟩ := H.get U
  have h := run_look (It.mp S hM) ht hz hk false
  simp only [Bool.false_eq_true, if_false, he] at h
  simp [execOp, ha.eval hx, ha.eval hy, h]
theorem v_look_ok (H : Holds W0 L w) (U : Upd L (Mp Kk enc b N f) (Mp Kk enc b N f) L) (ht : P.underlying t = some (.map kt e)) (hz : ∀ W, (zeroValue e).run P W = .ok z W) (hk : Kk.ok kx) (hx : ev l x = some (.map (some b))) (hy : ev l y = some (Kk.val kx)) :
    Vs P n l ⟨some d, .lookup t x y true, ty, pos, af, none⟩ w (.tuple #[((f kx).map enc).getD z, .bool (f kx).isSome]) := fun a ha => by
  obtain ⟨S, _, hM⟩ := H.get U
  have h := run_look hM ht hz hk true
  simp only [if_true] at h
  simp [execOp, ha.eval hx, ha.eval hy, h]
theorem wl_mapset [DecidableEq κ] (H : Holds W0 L w) (U : Upd L (Mp Kk enc b N f) (Mp Kk enc b (N + 1) (fun y => if y = kx then some vx else f y)) L') (ht : P.underlying t = some (.map kt e)) (hk : Kk.ok kx) (hN : N < maxLen) {xv : Operand} (hx : ev l x = some (.map (some b))) (hy : ev l y = some (Kk.val kx)) (hv : ev l xv = some (enc vx))
    (h : ∀ w', Holds W0 L' w' → wl P n ops rest Q l w') : wl P n ops (⟨none, .mapUpdate t x y xv, ty, pos, af, none⟩ :: rest) Q l w := by
  obtain ⟨w', hrun, H', _⟩ := run_set H U ht hk hN
  exact wl_s rfl rfl (w' := w') (fun a ha => by simp [execOp, ha.eval hx, ha.eval hy, ha.eval hv, hrun]) (h w' H')
theorem wl_insert [DecidableEq κ] (H : Holds W0 L w) (U : Upd L (Mp Kk enc b N f) (Mp Kk enc b (N + 1) (fun y => if y = kx then some vx else f y)) L') (ht : P.underlying t = some (.map kt e)) (hk : Kk.ok kx) (hN : N < maxLen) {xv : Operand} (hx : ev l x = some (.map (some b))) (hy : ev l y = some (Kk.val kx)) (hv : ev l xv = some (enc vx))
    (h : ∀ w', Holds W0 L' w' → wl P n ops rest Q l w') : wl P n ops (⟨none, .insert t x y xv, ty, pos, af, none⟩ :: rest) Q l w := by
  obtain ⟨w', hrun, H', _⟩ := run_set H U ht hk hN
  exact wl_s rfl rfl (w' := w') (fun a ha => by simp [execOp, ha.eval hx, ha.eval hy, ha.eval hv, hrun]) (h w' H')
theorem wl_range {Lf : Nat → Nat → List Ch} (H : Holds W0 L w) (U : ∀ r cnt, Upd L (Mp Kk enc b N f) (It Kk enc b r N f (fun x => (f x).isSome) cnt none) (Lf r cnt)) (ht : P.underlying t = some (.map kt e)) (hn : Nat.ble (d + 1) n = true) (hx : ev l x = some (.map (some b)))
    (h : ∀ r cnt w', w.heap.size ≤ r → Holds W0 (Lf r cnt) w' → wl P n ops rest Q ((d, .pointer (some ⟨r, 0, none⟩)) :: l) w') : wl P n ops (⟨some d, .range t x, ty, pos, af, none⟩ :: rest) Q l w := by
  obtain ⟨r, cnt, w', hrun, H', h1, _, _⟩ := run_range H U ht
  exact wl_v rfl rfl hn (w' := w') (fun a ha => by simp [execOp, ha.eval hx, hrun]) (h r cnt w' h1 H')
theorem wl_next {Lf : (κ → Bool) → Nat → Option (κ × β) → List Ch} (H : Holds W0 L w) (U : ∀ left' cnt' cur', Upd L (It Kk enc b r N f left cnt cur) (It Kk enc b r N f left' cnt' cur') (Lf left' cnt' cur')) (hn : Nat.ble (d + 1) n = true) (hx : ev l x = some (.pointer (some ⟨r, 0, none⟩)))
    (h0 : (∀ x, Kk.ok x → left x = false) → wl P n ops rest Q ((d, .tuple #[.bool false]) :: l) w)
    (h1 : ∀ kx vx left' cnt' w', Kk.ok kx → left kx = true → f kx = some vx → (∀ y, Kk.ok y → (left' y = true ↔ left y = true ∧ y ≠ kx)) → cnt' < cnt → Holds W0 (Lf left' cnt' (some (kx, vx))) w' → wl P n ops rest Q ((d, .tuple #[.bool true, Kk.val kx, enc vx]) :: l) w') : wl P n ops (⟨some d, .next x false, ty, pos, af, none⟩ :: rest) Q l w := by
  rcases run_nxt H U (ty := ty) with ⟨hl, hrun⟩ | ⟨kx, vx, left', cnt', w', g1, g2, g3, g4, g5, hrun, H', _⟩
  · exact wl_v rfl rfl hn (w' := w) (fun a ha => by simp [execOp, ha.eval hx, hrun]) (h0 hl)
  · exact wl_v rfl rfl hn (w' := w') (fun a ha => by simp [execOp, ha.eval hx, hrun]) (h1 kx vx left' cnt' w' g1 g2 g3 g4 g5 H')
theorem v_entry (H : Holds W0 L w) (U : Upd L (It Kk enc b r N f left cnt (some (kx, vx))) (It Kk enc b r N f left cnt (some (kx, vx))) L) (hx : ev l x = some (.pointer (some ⟨r, 0, none⟩))) : Vs P n l ⟨some d, .entry x, ty, pos, af, none⟩ w (.tuple #[Kk.val kx, enc vx]) := fun a ha => by
  simp [execOp, ha.eval hx, run_ent H U]
end maps
end
end Go.Proofs.YtkpehkadammppaaFx
