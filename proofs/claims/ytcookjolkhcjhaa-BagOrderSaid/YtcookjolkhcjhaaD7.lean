/-
  D, part 7: one operation of D, and the model's: structs, slices, conversions, continued.
-/
import Derived.Test.YtcookjolkhcjhaaD6
namespace Go.Proofs.Ytcookjolkhcjhaa.D
set_option linter.unusedSectionVars false

theorem zeros_list (z : Array Value) (len : Nat) : ((Array.range (len * z.size)).map (fun i => z[i % z.size]!)).toList = (List.replicate len z.toList).flatten := by
  induction len with
  | zero => simp
  | succ len ih =>
    rw [List.replicate_succ', List.flatten_append]
    simp only [Array.toList_map, Array.toList_range] at ih ⊢
    rw [Nat.succ_mul, List.range_add, List.map_append, ih]
    congr 1
    simp only [List.flatten_cons, List.flatten_nil, List.append_nil, List.map_map]
    apply List.ext_getElem
    · simp
    · intro i h1 h2
      simp at h1 h2
      simp [Nat.add_mod, Nat.mul_mod_left, Nat.mod_eq_of_lt h1, h1]

theorem zerosD_vr {m : Mp} {z : Value} (hz : Plain z) (len : Nat) : VRs m (zerosD (cellsOf z) len) (List.replicate len z.cells.toList).flatten := by
  unfold zerosD
  have hc := cells_vr (hz.vr (m := m))
  induction len with
  | zero => exact .nil
  | succ len ih => rw [List.replicate_succ, List.replicate_succ, List.flatten_cons, List.flatten_cons]; exact hc.append ih

theorem mapM_run {α β : Type} {P : Program} {w : World} {f : α → Sem β} {g : α → β} : ∀ (l : List α), (∀ x ∈ l, (f x).run P w = .ok (g x) w) → (l.mapM f).run P w = .ok (l.map g) w := by
  intro l
  induction l with
  | nil => intro _; simp
  | cons x l ih =>
    intro h
    rw [List.mapM_cons]
    simp [h x (by simp), ih fun y hy => h y (by simp [hy])]

section
variable {E : Env} {P : Program} (hE : E.Ok P) {m : Mp} {S : St} {w : World} (hH : HR E m S w)
include hE hH

/-- Parts of a literal: D's, and the model's. -/
def PR (m : Mp) (parts parts' : List (Nat × Value)) : Prop :=
  parts.length = parts'.length ∧ ∀ (i : Nat) p p', parts[i]? = some p → parts'[i]? = some p' → p.1 = p'.1 ∧ VR m p.2 p'.2

theorem size_of {t : TypeId} {s : Nat} (h : E.size t = some s) : ∃ d, E.inf t = some d ∧ d.size = s := by
  unfold Env.size at h; simpa using h
theorem und_of {t : TypeId} {u : TypeDesc} (h : E.und t = some u) : ∃ d, E.inf t = some d ∧ d.und = u := by
  unfold Env.und at h; simpa using h

theorem buildD_sim {t : TypeId} {parts : List (Nat × Value)} {parts' : Array (Nat × Value)} {v : Value} (h : buildD E t parts = some v) (hp : PR m parts parts'.toList) :
    SV P m w (Instr.build t parts') v := by
  unfold buildD at h
  split at h
  · cases h
  · rename_i d hd
    rw [Option.bind_eq_some_iff] at h
    obtain ⟨z, hz, h⟩ := h
    have hc := cells_vr ((zero_plain hE hd hz).vr (m := m))
    split at h
    · rename_i fields hu
      obtain ⟨hall, h⟩ := cond_some h
      rw [Option.map_eq_some_iff] at h
      obtain ⟨l, hl, rfl⟩ := h
      rw [List.all_eq_true] at hall
      let g : Field → Nat × Nat := fun f => (f.offset, (E.size f.type).getD 0)
      have hm := mapM_run (P := P) (w := w) (f := fun f : Field => (do pure (f.offset, ← sizeOf f.type) : Sem (Nat × Nat))) (g := g) fields.toList (by
        intro f hf
        have := hall f hf
        obtain ⟨df, hdf⟩ := Option.isSome_iff_exists.1 this
        simp [run_size hE hdf w, g, Env.size, hdf])
      obtain ⟨out', h1, h2⟩ := fillD_run (m := m) (place' := ((fields.toList.map g).toArray[·]?)) (by
        intro i p hi
        rw [Option.bind_eq_some_iff] at hi
        obtain ⟨f, hf, hi⟩ := hi
        rw [Option.map_eq_some_iff] at hi
        obtain ⟨s, hs, rfl⟩ := hi
        simp [g, hf, hs]) hl hc hp.1 hp.2
      refine ⟨.agg out', ?_, ?_⟩
      · simp only [Instr.build, Sem.run_bind, run_zero hE hd w hz, Result.andThen_ok, run_und hE hd w, hu, Array.mapM_eq_mapM_toList, Sem.run_map, hm]
        simp only [Array.toArray_toList] at h1
        simp only [h1, Sem.run_pure]
      · obtain ⟨h3, h4⟩ := VRs.array (a := l.toArray) (a' := out') (by simpa using h2)
        exact .agg _ _ h3 h4
    · rename_i n e hu
      rw [Option.bind_eq_some_iff] at h
      obtain ⟨s, hs, h⟩ := h
      obtain ⟨de, hde, rfl⟩ := size_of hE hH hs
      rw [Option.map_eq_some_iff] at h
      obtain ⟨l, hl, rfl⟩ := h
      obtain ⟨out', h1, h2⟩ := fillD_run (m := m) (fun i p hi => hi) hl hc hp.1 hp.2
      refine ⟨.agg out', ?_, ?_⟩
      · simp only [Instr.build, Sem.run_bind, run_zero hE hd w hz, Result.andThen_ok, run_und hE hd w, hu, run_size hE hde w]
        simp only [Array.toArray_toList] at h1
        simp [h1]
      · obtain ⟨h3, h4⟩ := VRs.array (a := l.toArray) (a' := out') (by simpa using h2)
        exact .agg _ _ h3 h4
    · cases h

theorem fieldD_sim {t : TypeId} {x x' v : Value} {f : Nat} (h : fieldD E t x f = some v) (hx : VR m x x') : SV P m w (Instr.field t x' f) v := by
  unfold fieldD at h
  split at h
  · rename_i fields cs hu
    obtain ⟨d, hd, hu⟩ := und_of hE hH hu
    simp only [Option.bind_eq_some_iff] at h
    obtain ⟨fd, hf, i, hi, h⟩ := h
    cases hx with
    | agg _ cs' h1 h2 =>
      obtain ⟨v', h3, h4⟩ := partD_run hE (P := P) (w := w) hi (VRs.of_array h1 h2) h
      exact ⟨v', by simp [Instr.field, run_und hE hd w, hu, hf, asAgg, h3], h4⟩
  · cases h

theorem fieldAddrD_sim {t : TypeId} {x x' v : Value} {f : Nat} (h : fieldAddrD E t x f = some v) (hx : VR m x x') : SV P m w (Instr.fieldAt t x' f) v := by
  unfold fieldAddrD at h
  split at h
  · rename_i fields b o hu
    obtain ⟨d, hd, hu⟩ := und_of hE hH hu
    rw [Option.bind_eq_some_iff] at h
    obtain ⟨fd, hf, h⟩ := h
    split at h
    · rename_i k hk
      obtain ⟨df, hdf, hsz⟩ := size_of hE hH hk
      cases h
      cases hx with
      | ptr _ _ y hy =>
        refine ⟨.pointer (some ⟨y.blk, y.base + (o + fd.offset), none⟩), ?_, .ptr _ _ y hy⟩
        simp only [Instr.fieldAt, Sem.run_bind, run_und hE hd w, hu, Result.andThen_ok, hf, Instr.sureAddr, Sem.run_pure, fieldPlace, run_size hE hdf w, hsz]
        simp only [Nat.add_one_ne_zero, if_false, Sem.run_pure, Result.andThen_ok, Addr.add]
        split
        · rename_i h0; simp [h0]
        · simp [Nat.add_assoc]
    · cases h
  · cases h

theorem indexD_sim {t : TypeId} {x x' i i' v : Value} (h : indexD E t x i = some v) (hx : VR m x x') (hi : VR m i i') : SV P m w (Instr.index t x' i') v := by
  unfold indexD at h
  split at h
  · rename_i s k n hu
    obtain ⟨d, hd, hu⟩ := und_of hE hH hu
    cases hx; cases hi
    obtain ⟨h1, h2⟩ := cond_some h
    rw [Option.map_eq_some_iff] at h2
    obtain ⟨b, h3, rfl⟩ := h2
    simp only [decide_eq_true_eq] at h1
    refine ⟨_, ?_, .int _ _⟩
    have h4 : s[n.toNat]? = some b := by
      have h5 : s.data[n.toNat]? = some b := by simpa using h3
      rw [getElem?_def]
      have hlt : n.toNat < s.data.size := (Array.getElem?_eq_some_iff.1 h5).1
      have hlt' : n.toNat < s.size := hlt
      rw [dif_pos hlt']
      rw [Array.getElem?_eq_getElem hlt] at h5
      exact h5
    simp only [Instr.index, asIntOf, Sem.run_bind, Sem.run_pure, Result.andThen_ok, run_und hE hd w, hu, h1, if_true, h4]
  · rename_i len e cs k n hu
    obtain ⟨d, hd, hu⟩ := und_of hE hH hu
    rw [Option.bind_eq_some_iff] at h
    obtain ⟨de, hde, h⟩ := h
    obtain ⟨h1, h2⟩ := cond_some h
    simp only [Bool.and_eq_true, decide_eq_true_eq] at h1
    cases hi
    cases hx with
    | agg _ cs' g1 g2 =>
      obtain ⟨v', h3, h4⟩ := partD_run hE (P := P) (w := w) hde (VRs.of_array g1 g2) h2
      exact ⟨v', by simp [Instr.index, asIntOf, run_und hE hd w, hu, h1, run_size hE hde w, h3], h4⟩
  · cases h

theorem indexAddrD_sim {t : TypeId} {x x' i i' v : Value} (h : indexAddrD E t x i = some v) (hx : VR m x x') (hi : VR m i i') : SV P m w (Instr.indexAt t x' i') v := by
  unfold indexAddrD at h
  split at h
  · rename_i e b o len cap k n hu
    obtain ⟨d, hd, hu⟩ := und_of hE hH hu
    rw [Option.bind_eq_some_iff] at h
    obtain ⟨s, hs, h⟩ := h
    obtain ⟨de, hde, rfl⟩ := size_of hE hH hs
    obtain ⟨h1, h2⟩ := cond_some h
    simp only [Bool.and_eq_true, decide_eq_true_eq] at h1
    cases h2
    cases hi
    have key : ∀ y cap', m b = some y → SV P m w (Instr.indexAt t (.slice (some ⟨y.blk, y.base + o, none⟩) len cap') (.int k n)) (.pointer (some ⟨b, o + n.toNat * de.size, none⟩)) := by
      intro y cap' hy
      refine ⟨.pointer (some ⟨y.blk, y.base + (o + n.toNat * de.size), none⟩), ?_, .ptr _ _ y hy⟩
      simp only [Instr.indexAt, asIntOf, Sem.run_bind, Sem.run_pure, Result.andThen_ok, run_und hE hd w, hu, h1, and_self, if_true, run_size hE hde w, Addr.add]
      split
      · rename_i h0; simp [h0]
      · simp [Nat.add_assoc]
    cases hx with
    | sl _ _ _ _ y hy _ _ => exact key y _ hy
    | slx _ _ _ cap' y hy _ _ => exact key y _ hy
    | sle _ _ a y hy _ => omega
    | slz _ _ a => omega
  · rename_i len e b o k n hu
    obtain ⟨d, hd, hu⟩ := und_of hE hH hu
    rw [Option.bind_eq_some_iff] at h
    obtain ⟨s, hs, h⟩ := h
    obtain ⟨de, hde, rfl⟩ := size_of hE hH hs
    obtain ⟨h1, h2⟩ := cond_some h
    simp only [Bool.and_eq_true, decide_eq_true_eq] at h1
    cases h2
    cases hi
    cases hx with
    | ptr _ _ y hy =>
      refine ⟨.pointer (some ⟨y.blk, y.base + (o + n.toNat * de.size), none⟩), ?_, .ptr _ _ y hy⟩
      simp only [Instr.indexAt, asIntOf, Sem.run_bind, Sem.run_pure, Result.andThen_ok, run_und hE hd w, hu, h1, and_self, if_true, run_size hE hde w, Addr.add, Instr.sureAddr]
      split
      · rename_i h0; simp [h0]
      · simp [Nat.add_assoc]
  · cases h


theorem buildSliceD_sim {t : TypeId} {len : Nat} {parts : List (Nat × Value)} {parts' : Array (Nat × Value)} {v : Value} {S' : St} (h : buildSliceD E S t len parts = some (v, S')) (hp : PR m parts parts'.toList) :
    SP E P m S w (Instr.buildSlice t len parts') v S' := by
  unfold buildSliceD at h
  split at h
  · rename_i e hu
    obtain ⟨d, hd, hu⟩ := und_of hE hH hu
    split at h
    · rename_i i hi
      rw [Option.bind_eq_some_iff] at h
      obtain ⟨z, hz, h⟩ := h
      obtain ⟨hb, h⟩ := cond_some h
      simp only [Bool.and_eq_true, Nat.ble_eq] at hb
      obtain ⟨⟨hb1, hb2⟩, hb3⟩ := hb
      have hb3 := Nat.eq_of_beq_eq_true hb3
      rw [Option.map_eq_some_iff] at h
      obtain ⟨l, hl, h⟩ := h
      cases h
      have hpl := zero_plain hE hi hz
      have hzc := zerosD_vr (m := m) hpl len
      have hzs : z.cells.size = i.size := by have := (cells_vr (hpl.vr (m := m))).length; simp at this; omega
      obtain ⟨out', h1, h2⟩ := fillD_run (m := m) (fun i p hi => hi) hl hzc hp.1 hp.2
      obtain ⟨x, h3, h4, h5, h6⟩ := newCells_run hH h2 e
      refine ⟨.slice (some ⟨w.heap.size, 0, none⟩) len len, _, _, ?_, ?_, h5, h6⟩
      · have hns : ¬ (len * i.size > 2 ^ 24) := by omega
        by_cases h0 : len * i.size = 0
        · have hfl : (List.replicate len z.cells.toList).flatten = [] := by
            rw [← List.length_eq_zero_iff]; simp [hzs, h0]
          rw [hfl] at h1
          have h1' : Instr.fill (fun j => some (j * i.size, i.size)) #[] parts'.toList = some out' := h1
          have hr : Array.range 0 = #[] := rfl
          simp [Instr.buildSlice, run_und hE hd w, hu, run_size hE hi w, h0, hr, h1', newRow, Result.andThen]
        · have hcells : (Array.range (len * i.size)).map (fun j => z.cells[j % z.cells.size]!) = (List.replicate len z.cells.toList).flatten.toArray := by
            rw [← hzs]
            apply Array.ext'
            rw [zeros_list]
          simp only [Instr.buildSlice, Sem.run_bind, run_und hE hd w, hu, Result.andThen_ok, run_size hE hi w, hns, if_false, h0, run_zero hE hi w hz, Sem.run_pure, hcells, h1]
          simp [newRow, Result.andThen]
      · have hne : len ≠ inex := by unfold inex; omega
        have := VR.sl (m := m.put S.next x) S.next 0 len len x (by simp) hne (Nat.le_refl _)
        rw [h3, h4] at this; exact this
    · cases h
  · cases h

theorem makeSliceD_sim {t : TypeId} {l l' c c' v : Value} {S' : St} (h : makeSliceD E S t l c = some (v, S')) (hl : VR m l l') (hc : VR m c c') :
    SP E P m S w (Instr.makeSlice t l' c') v S' := by
  unfold makeSliceD at h
  split at h
  · rename_i e k ln k' cp hu
    obtain ⟨d, hd, hu⟩ := und_of hE hH hu
    cases hl; cases hc
    split at h
    · rename_i i hi
      rw [Option.bind_eq_some_iff] at h
      obtain ⟨z, hz, h⟩ := h
      obtain ⟨hb, h⟩ := cond_some h
      cases h
      simp only [Bool.and_eq_true, Nat.ble_eq, decide_eq_true_eq] at hb
      obtain ⟨⟨⟨⟨⟨hb1, hb2⟩, hb3⟩, hb4⟩, hb5⟩, hb6⟩ := hb
      have hb5 := Nat.eq_of_beq_eq_true hb5
      have hpl := zero_plain hE hi hz
      have hzc := zerosD_vr (m := m) hpl cp.toNat
      have hzs : z.cells.size = i.size := by have := (cells_vr (hpl.vr (m := m))).length; simp at this; omega
      obtain ⟨x, h3, h4, h5, h6⟩ := newCells_run hH hzc e
      obtain ⟨ti, g1, g2, g3, g4⟩ := run_typeInfo hE hi w
      refine ⟨.slice (some ⟨w.heap.size, 0, none⟩) ln.toNat cp.toNat, _, _, ?_, ?_, h5, h6⟩
      · have w1 : IntKind.i64.wrap ln = ln := by simp [IntKind.wrap, IntKind.bits, IntKind.signed]; omega
        have w2 : IntKind.i64.wrap cp = cp := by simp [IntKind.wrap, IntKind.bits, IntKind.signed]; omega
        have hbig : (decide (cp < 0) || decide ((ti.bytes : Int) * cp > 2 ^ 48)) = false := by
          rw [g3, Bool.or_eq_false_iff]; simp; omega
        have hn2 : ¬ (ln < 0) := by omega
        have hn3 : ¬ (ln > cp) := by omega
        by_cases h0 : cp.toNat * i.size = 0
        · have hfl : (List.replicate cp.toNat z.cells.toList).flatten = [] := by
            rw [← List.length_eq_zero_iff]; simp [hzs, h0]
          simp only [Instr.makeSlice, Sem.run_bind, run_und hE hd w, hu, Result.andThen_ok, asInt, asIntOf, Sem.run_pure, g1, w1, w2]
          simp only [hbig, hn2, hn3, decide_false, Bool.or_false, Bool.false_eq_true, if_false, Sem.run_bind, run_askRoom, Result.andThen_ok, run_size hE hi w, h0, if_true, Sem.run_pure]
          have hr : Array.range 0 = #[] := rfl
          simp [newRow, Result.andThen, hfl, hr]
        · have hcells : (Array.range (cp.toNat * i.size)).map (fun j => z.cells[j % z.cells.size]!) = (List.replicate cp.toNat z.cells.toList).flatten.toArray := by
            rw [← hzs]
            apply Array.ext'
            rw [zeros_list]
          simp only [Instr.makeSlice, Sem.run_bind, run_und hE hd w, hu, Result.andThen_ok, asInt, asIntOf, Sem.run_pure, g1, w1, w2]
          simp only [hbig, hn2, hn3, decide_false, Bool.or_false, Bool.false_eq_true, if_false, Sem.run_bind, run_askRoom, Result.andThen_ok, run_size hE hi w, h0, run_zero hE hi w hz, Sem.run_pure, hcells]
          simp [newRow, Result.andThen]
      · have hne : cp.toNat ≠ inex := by unfold inex; omega
        have := VR.sl (m := m.put S.next x) S.next 0 ln.toNat cp.toNat x (by simp) hne (by omega)
        rw [h3, h4] at this; exact this
    · cases h
  · cases h

omit hE hH in
theorem natOf_vr {v v' : Value} {n : Nat} (h : natOf v = some n) (hv : VR m v v') : ∃ k i, v' = .int k i ∧ 0 ≤ i ∧ i.toNat = n := by
  unfold natOf at h
  split at h
  · obtain ⟨h1, h2⟩ := cond_some h; cases h2; cases hv
    exact ⟨_, _, rfl, by simpa using h1, rfl⟩
  · cases h
omit hE hH in
theorem bound_run {v v' : Value} {n y : Nat} {code : BoundsCode} (h : natOf v = some n) (hv : VR m v v') (hy : n ≤ y) : (Instr.sliceBound v' y code).run P w = .ok n w := by
  obtain ⟨k, i, rfl, h1, h2⟩ := natOf_vr h hv
  have : 0 ≤ i ∧ i ≤ (y : Int) := by omega
  simp [Instr.sliceBound, asIntOf, this, h2]

/-- Optional values. -/
def VRo (m : Mp) : Option Value → Option Value → Prop
  | none, none => True
  | some v, some v' => VR m v v'
  | _, _ => False

omit hE hH in
theorem sliceBounds_run {isS : Bool} {len cap known : Nat} {lo lo' hi hi' mx mx' : Option Value} {l h M : Nat} (hlo : VRo m lo lo') (hhi : VRo m hi hi') (hmx : VRo m mx mx')
    (eM : optNat (some known) mx = some M) (eh : optNat (cond mx.isNone (some len) none) hi = some h) (el : optNat (some 0) lo = some l) (h1 : M ≤ known) (h2 : h ≤ M) (h3 : l ≤ h) (h4 : known ≤ cap) :
    (Instr.sliceBounds isS len cap lo' hi' mx').run P w = .ok (l, h, if mx.isSome then M else cap) w := by
  cases mx with
  | none =>
    cases mx' with
    | some _ => cases hmx
    | none =>
      simp only [optNat, Option.some.injEq] at eM
      subst eM
      cases hi with
      | none =>
        cases hi' with
        | some _ => cases hhi
        | none =>
          simp only [optNat, Option.isNone_none, cond_true, Option.some.injEq] at eh
          subst eh
          cases lo with
          | none =>
            cases lo' with
            | some _ => cases hlo
            | none => simp only [optNat, Option.some.injEq] at el; subst el; simp [Instr.sliceBounds]
          | some v =>
            cases lo' with
            | none => cases hlo
            | some v' => simp [Instr.sliceBounds, bound_run (P := P) (w := w) (code := .sliceB) el hlo h3]
      | some u =>
        cases hi' with
        | none => cases hhi
        | some u' =>
          have b1 : ∀ c, (Instr.sliceBound u' cap c).run P w = .ok h w := fun c => bound_run eh hhi (by omega)
          cases lo with
          | none =>
            cases lo' with
            | some _ => cases hlo
            | none => simp only [optNat, Option.some.injEq] at el; subst el; simp [Instr.sliceBounds, b1]
          | some v =>
            cases lo' with
            | none => cases hlo
            | some v' => simp [Instr.sliceBounds, b1, bound_run (P := P) (w := w) (code := .sliceB) el hlo h3]
  | some u0 =>
    cases mx' with
    | none => cases hmx
    | some u0' =>
      have b0 : ∀ c, (Instr.sliceBound u0' cap c).run P w = .ok M w := fun c => bound_run eM hmx (by omega)
      cases hi with
      | none => cases eh
      | some u =>
        cases hi' with
        | none => cases hhi
        | some u' =>
          have b1 : ∀ c, (Instr.sliceBound u' M c).run P w = .ok h w := fun c => bound_run eh hhi h2
          cases lo with
          | none =>
            cases lo' with
            | some _ => cases hlo
            | none => simp only [optNat, Option.some.injEq] at el; subst el; simp [Instr.sliceBounds, b0, b1]
          | some v =>
            cases lo' with
            | none => cases hlo
            | some v' => simp [Instr.sliceBounds, b0, b1, bound_run (P := P) (w := w) (code := .slice3C) el hlo h3]

end

end Go.Proofs.Ytcookjolkhcjhaa.D
