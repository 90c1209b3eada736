/-
  D, part 9: one operation of D, and the model's: conversions, maps.
-/
import Derived.Test.YtcookjolkhcjhaaD8
namespace Go.Proofs.Ytcookjolkhcjhaa.D
set_option linter.unusedSectionVars false

theorem bytesOfS_plain (s : ByteArray) : ∀ v ∈ bytesOfS s, Plain v := by
  intro v hv
  simp only [bytesOfS, List.mem_map] at hv
  obtain ⟨b, _, rfl⟩ := hv
  exact .int _ _

theorem freeze_alloc (W : World) (c : Array Value) (e : TypeId) (off : Nat) :
    (W.alloc (.cells c e)).freeze ⟨W.heap.size, off, none⟩ 1 = W.alloc (.cells c e (off, off + 1)) := by
  unfold World.freeze World.alloc
  simp only [Nat.one_ne_zero, if_false]
  congr 1
  apply Array.ext_getElem?
  intro i
  rw [Array.getElem?_modify, Array.getElem?_push, Array.getElem?_push]
  by_cases hi : W.heap.size = i
  · subst hi; simp
  · rw [if_neg hi, if_neg (fun h => hi h.symm), if_neg (fun h => hi h.symm)]

def cellsB (b : ByteArray) (c : Nat) : Array Value := (b.data.map fun c => .int .u8 c.toNat) ++ Array.replicate (c - b.size) (.int .u8 0)
theorem cellsB_size {b : ByteArray} {c : Nat} (h : b.size ≤ c) : (cellsB b c).size = c := by
  have : b.data.size = b.size := rfl
  simp only [cellsB, Array.size_append, Array.size_map, Array.size_replicate]; omega
theorem loadN_len {S : St} {b o n : Nat} {l : List Value} (h : S.loadN b o n = some l) : l.length = n := by
  unfold St.loadN at h
  split at h
  · obtain ⟨h1, h2⟩ := cond_some h
    cases h2; exact Nat.eq_of_beq_eq_true h1
  · cases h
theorem shape_alloc (W : World) (c : Array Value) (e : TypeId) : (W.alloc (.cells c e)).shape? W.heap.size = some (e, c.size) := by
  have := World.alloc_heap_new W (.cells c e)
  unfold World.shape?; rw [this]
theorem stringToBytes_run {P : Program} (w : World) (e : TypeId) (b : ByteArray) : ∃ c, b.size ≤ c ∧
    (Conv.stringToBytes e b).run P w = .ok (.slice (some ⟨w.heap.size, 0, none⟩) b.size c) (w.drew.alloc (.cells (cellsB b c) e (c, c + 1))) := by
  refine ⟨b.size + (w.tape w.drawn (.appendCap b.size 0 e)) % (2 ^ 63 - b.size), Nat.le_add_right _ _, ?_⟩
  have e1 : ∀ O, ({ heap := w.heap.push O, tape := w.tape, drawn := w.drawn + 1, os := w.os, output := w.output } : World) = w.drew.alloc O := fun _ => rfl
  simp only [Conv.stringToBytes, Sem.run_bind, run_choose, Question.forced, Bool.false_eq_true, if_false, Result.andThen_ok, Question.cut, newRow, run_newObj, Sem.run_pure, markStringish, run_shape]
  generalize w.tape w.drawn (.appendCap b.size 0 e) % (2 ^ 63 - b.size) = k
  have hs := shape_alloc w.drew (cellsB b (b.size + k)) e
  have hf := freeze_alloc w.drew (cellsB b (b.size + k)) e (b.size + k)
  have hsz := cellsB_size (b := b) (c := b.size + k) (Nat.le_add_right _ _)
  rw [hsz] at hs
  unfold cellsB at hs hf
  simp only [World.size_drew] at hs hf
  simp only [e1, hs, run_freeze, hf, Result.andThen_ok]
  rfl

section
variable {E : Env} {P : Program} (hE : E.Ok P) {m : Mp} {S : St} {w : World} (hH : HR E m S w)
include hE hH

omit hE hH in
theorem bytesFold_run : ∀ (l : List Value) (bs : List UInt8) (acc : ByteArray), l.mapM byteOfV = some bs →
    (forIn (m := Sem) l acc fun c s => (match c with
      | .int .u8 n => pure (ForInStep.yield (s.push (UInt8.ofNat n.toNat)))
      | _ => do
        stuck "bytesToString: byte expected"
        pure (ForInStep.yield s))).run P w = .ok ⟨(acc.data.toList ++ bs).toArray⟩ w := by
  intro l
  induction l with
  | nil => intro bs acc h; simp at h; subst h; simp
  | cons v l ih =>
    intro bs acc h
    rw [List.mapM_cons] at h
    simp only [Option.bind_eq_bind, Option.bind_eq_some_iff, Option.pure_def, Option.some.injEq] at h
    obtain ⟨b, hb, r, hr, rfl⟩ := h
    unfold byteOfV at hb
    split at hb
    · cases hb
      rw [List.forIn_cons]
      simp only [Sem.run_bind, Sem.run_pure, Result.andThen_ok]
      rw [ih r _ hr]
      simp [ByteArray.push]
    · cases hb

theorem convertD_sim {s t : TypeId} {x x' v : Value} {S' : St} (h : convertD E S s t x = some (v, S')) (hx : VR m x x') : SP E P m S w (convert s t x') v S' := by
  unfold convertD at h
  split at h
  · rename_i u k k' n hu hu'
    obtain ⟨d, hd, rfl⟩ := und_of hE hH hu
    obtain ⟨d', hd', hu'⟩ := und_of hE hH hu'
    cases h; cases hx
    refine SV.sp hH ⟨_, ?_, .int _ _⟩
    simp only [convert, Sem.run_bind, run_und hE hd w, run_und hE hd' w, hu', Result.andThen_ok]
    simp [Conv.intToInt, wrapD_eq]
  · rename_i b hu hu'
    obtain ⟨d, hd, hu⟩ := und_of hE hH hu
    obtain ⟨d', hd', hu'⟩ := und_of hE hH hu'
    cases h; cases hx
    refine SV.sp hH ⟨_, ?_, .string _⟩
    simp only [convert, Sem.run_bind, run_und hE hd w, run_und hE hd' w, hu, hu', Result.andThen_ok]
    simp
  · rename_i u e b hu hu'
    obtain ⟨d, hd, rfl⟩ := und_of hE hH hu
    obtain ⟨d', hd', hu'⟩ := und_of hE hH hu'
    split at h
    · rename_i he
      obtain ⟨de, hde, he⟩ := und_of hE hH he
      obtain ⟨h1, h2⟩ := cond_some h
      cases h2; cases hx
      have h1 := Nat.blt_eq.mp h1
      have hlen : b.data.toList.length = b.size := Array.length_toList
      obtain ⟨cap, hcap, hrun⟩ := stringToBytes_run (P := P) w e b
      let x : BM := ⟨w.heap.size, 0, cap, 1⟩
      have hcs := cellsB_size hcap
      have hH' : HR E m S w.drew := hH.drew
      have hbl : (bytesOfS b).length = b.size := by unfold bytesOfS; rw [List.length_map]; exact hlen
      obtain ⟨h5, h6⟩ := HR.alloc hH' (.cells (bytesOfS b) (some 1) false (some (0, 0))) (.cells (cellsB b cap) e (cap, cap + 1)) x rfl (by
        refine ⟨cellsB b cap, e, _, rfl, hcs, by rw [hbl]; show 0 + b.size ≤ cap; omega, ?_, ?_, by intro z hz; cases hz; rfl⟩
        · have : List.take (bytesOfS b).length (List.drop x.base (cellsB b cap).toList) = bytesOfS b := by
            show List.take (bytesOfS b).length (List.drop 0 (cellsB b cap).toList) = bytesOfS b
            simp only [List.drop_zero, cellsB, Array.toList_append, Array.toList_map]
            rw [List.take_append_of_le_length (by simp [bytesOfS])]
            exact List.take_of_length_le (by simp [bytesOfS])
          rw [this]
          exact VRs.map_same fun v hv => (bytesOfS_plain b v hv).vr
        · intro i g1 g2 g3 g4
          have g1 : cap ≤ i := g1
          have g4 : i < cap := g4
          omega)
      refine ⟨.slice (some ⟨w.heap.size, 0, none⟩) b.size cap, _, _, ?_, ?_, h5, Fr.trans Fr.drew h6⟩
      · simp only [convert, Sem.run_bind, run_und hE hd w, run_und hE hd' w, hu', Result.andThen_ok, run_und hE hde w, he, hrun]
      · have := VR.slx (m := m.put S.next x) S.next 0 b.size cap x (by simp) hcap (by show 0 + 0 + cap * 1 = cap; omega)
        rw [hlen]
        exact this
    · cases h
  · rename_i e a len cap hu hu'
    obtain ⟨d, hd, hu⟩ := und_of hE hH hu
    obtain ⟨d', hd', hu'⟩ := und_of hE hH hu'
    split at h
    · rename_i he
      obtain ⟨de, hde, he⟩ := und_of hE hH he
      split at h
      · cases h; cases hx
        refine SV.sp hH ⟨_, ?_, .string _⟩
        simp only [convert, Sem.run_bind, run_und hE hd w, run_und hE hd' w, hu, hu', Result.andThen_ok, run_und hE hde w, he, Conv.bytesToString]
        rfl
      · rename_i b o
        simp only [Option.bind_eq_some_iff, Option.map_eq_some_iff] at h
        obtain ⟨l, h1, bs, h2, h3⟩ := h
        cases h3
        obtain ⟨x, l', h4, h5, h6⟩ := loadN_run (P := P) hH h1
        have hbs : l'.toList.mapM byteOfV = some bs := by
          have : ∀ {l l' : List Value} {bs : List UInt8}, VRs m l l' → l.mapM byteOfV = some bs → l'.mapM byteOfV = some bs := by
            intro l l' bs hr
            induction hr generalizing bs with
            | nil => intro h; exact h
            | cons h1 _ ih =>
              intro h
              rw [List.mapM_cons] at h ⊢
              simp only [Option.bind_eq_bind, Option.bind_eq_some_iff, Option.pure_def, Option.some.injEq] at h ⊢
              obtain ⟨b, hb, r, hr, rfl⟩ := h
              refine ⟨b, ?_, r, ih hr, rfl⟩
              unfold byteOfV at hb
              split at hb
              · cases h1; exact hb
              · cases hb
          exact this h6 h2
        have key : ∀ (a : Addr) (cap' : Nat), (loadCells a len).run P w = .ok l' w → SV P m w (convert s t (.slice (some a) len cap')) (.string ⟨bs.toArray⟩) := by
          intro a cap' hl
          refine ⟨_, ?_, .string _⟩
          simp only [convert, Sem.run_bind, run_und hE hd w, run_und hE hd' w, hu, hu', Result.andThen_ok, run_und hE hde w, he, Conv.bytesToString, hl]
          have := bytesFold_run (P := P) (w := w) l'.toList bs .empty hbs
          rw [← Array.forIn_toList]
          have e0 : ByteArray.empty.data.toList ++ bs = bs := by simp
          rw [e0] at this
          refine (congrArg (fun r => Result.andThen r fun a w' => Sem.run P (pure (Value.string a)) w') this).trans ?_
          rfl
        refine SV.sp hH ?_
        cases hx with
        | sl _ _ _ _ y hy _ _ => rw [h4] at hy; cases hy; exact key _ _ h5
        | slx _ _ _ _ y hy _ _ => rw [h4] at hy; cases hy; exact key _ _ h5
        | sle _ _ a y hy _ =>
          have e0 : l' = #[] := by
            have e1 := loadN_len h1
            have e2 := h6.length
            rw [e1] at e2
            exact Array.eq_empty_of_size_eq_zero (by simpa using e2.symm)
          exact key a 0 (by rw [e0]; simp [loadCells, loadCellsFrom])
        | slz _ _ a =>
          have e0 : l' = #[] := by
            have e1 := loadN_len h1
            have e2 := h6.length
            rw [e1] at e2
            exact Array.eq_empty_of_size_eq_zero (by simpa using e2.symm)
          exact key a 0 (by rw [e0]; simp [loadCells, loadCellsFrom])
      · cases h
    · cases h
  · rename_i e0 e b o len cap hu hu'
    obtain ⟨d, hd, hu⟩ := und_of hE hH hu
    obtain ⟨d', hd', hu'⟩ := und_of hE hH hu'
    obtain ⟨hc, hk⟩ := cond_some h
    clear h
    simp only [Bool.and_eq_true, Bool.not_eq_true'] at hc
    obtain ⟨⟨hst, hc0⟩, hci⟩ := hc
    have hst : s = t := Nat.eq_of_beq_eq_true hst
    subst hst
    rw [hd] at hd'; cases hd'
    rw [hu] at hu'; cases hu'
    split at hk
    · rename_i cs more he hg
      obtain ⟨de, hde, he⟩ := und_of hE hH he
      cases hk
      have hx' : ∃ y, m b = some y ∧ len ≤ cap ∧ cap ≠ inex ∧ x' = .slice (some ⟨y.blk, y.base + o, none⟩) len cap := by
        cases hx with
        | sl _ _ _ _ y hy h1 h2 => exact ⟨y, hy, h2, h1, rfl⟩
        | slx => exact absurd hci (by decide)
        | sle => exact absurd hci (by decide)
        | slz => exact absurd hc0 (by decide)
      obtain ⟨y, hy, hle, hne, rfl⟩ := hx'
      obtain ⟨x, hx1, ccs, el, fr, h1, h2, h3, h4, h5, h6⟩ := hH.obj b _ hg rfl
      rw [hy] at hx1; cases hx1
      have h5 : fr = (0, 0) := h5
      subst h5
      have hblk : y.blk < w.heap.size := (Array.getElem?_eq_some_iff.1 h1).1
      have hheap : (w.freeze ⟨y.blk, ccs.size, none⟩ 1).heap[y.blk]? = some (.cells ccs el (ccs.size, ccs.size + 1)) := by
        simp only [World.freeze, Nat.one_ne_zero, if_false, Array.getElem?_modify, if_true, h1, Option.map_some]
        simp
      obtain ⟨k1, k2⟩ := HR.upd hH (w' := w.freeze ⟨y.blk, ccs.size, none⟩ 1) (o' := .cells cs more false (some (0, 0))) hg rfl hy
        ⟨ccs, el, _, hheap, h2, h3, h4, by
          intro i g1 g2 g3 g4
          have g1 : ccs.size ≤ i := g1
          omega, h6⟩ (by simp [World.freeze]) (fun c hcb => by simp only [World.freeze, Nat.one_ne_zero, if_false, Array.getElem?_modify]; rw [if_neg (Ne.symm hcb)]) (by simp [World.freeze]) (by simp [World.freeze]) (by simp [World.freeze])
      refine ⟨_, m, w.freeze ⟨y.blk, ccs.size, none⟩ 1, ?_, .sl b o len cap y hy hne hle, k1, k2⟩
      have hsh : w.shape? y.blk = some (el, ccs.size) := by simp [World.shape?, h1]
      simp only [convert, Sem.run_bind, run_und hE hd w, hu, Result.andThen_ok, run_und hE hde w, he, beq_self_eq_true, markStringish, run_shape, hsh, run_freeze]
      rfl
    · cases hk
  · cases h

/-! ### Maps -/
omit hH in
theorem checkKey_run {kt : TypeId} {k k' : Value} (h : keyType E kt k = true) (hk : VR m k k') (emp : Bool) (n : Nat) : (Instr.checkKey emp (n + 2) kt k').run P w = .ok () w := by
  unfold keyType at h
  simp only [Bool.and_eq_true] at h
  obtain ⟨h0, h⟩ := h
  split at h
  · rename_i d hd
    split at h
    · rename_i hu; cases hk; simp [Instr.checkKey, run_und hE hd w, hu]
    · rename_i hu; cases hk; simp [Instr.checkKey, run_und hE hd w, hu]
    · rename_i hu; cases hk; simp [Instr.checkKey, run_und hE hd w, hu]
    · rename_i fs cs hu
      simp only [Bool.and_eq_true, List.all_eq_true] at h
      obtain ⟨h1, h2⟩ := h
      cases hk with
      | agg _ cs' g1 g2 =>
        rw [Instr.checkKey]
        simp only [Sem.run_bind, run_und hE hd w, hu, Result.andThen_ok]
        rw [← Array.forIn_toList]
        have key : ∀ (l : List Field), (∀ f ∈ l, f ∈ fs.toList) → (forIn (m := Sem) l PUnit.unit fun f (_ : PUnit) => (if f.name ≠ "_" then do
            Instr.checkKey emp (n + 1) f.type (← part f.type cs' f.offset)
            pure (ForInStep.yield PUnit.unit) else pure (ForInStep.yield PUnit.unit))).run P w = .ok PUnit.unit w := by
          intro l
          induction l with
          | nil => intro _; simp
          | cons f l ih =>
            intro hl
            rw [List.forIn_cons]
            have hf := h2 f (hl f (by simp))
            have ih := ih fun g hg => hl g (by simp [hg])
            have one : (if f.name ≠ "_" then do
                Instr.checkKey emp (n + 1) f.type (← part f.type cs' f.offset)
                pure (ForInStep.yield PUnit.unit) else pure (ForInStep.yield PUnit.unit) : Sem (ForInStep PUnit)).run P w = .ok (ForInStep.yield PUnit.unit) w := by
              split
              · split at hf
                · rename_i j hj
                  simp only [Bool.and_eq_true, Nat.blt_eq] at hf
                  obtain ⟨hsc, hlt⟩ := hf
                  have hag : aggD j.und = false := by
                    revert hsc; cases j.und <;> simp [aggD]
                  have hlt' : f.offset < cs'.size := by omega
                  have hpart : (part f.type cs' f.offset).run P w = .ok cs'[f.offset] w := by
                    simp [part, run_isAgg hE hj w, hag, hlt']
                  have hck : ∀ v, (Instr.checkKey emp (n + 1) f.type v).run P w = .ok () w := by
                    intro v
                    simp only [Instr.checkKey, Sem.run_bind, run_und hE hj w, Result.andThen_ok]
                    revert hsc
                    cases j.und <;> simp
                  simp [hpart, hck]
                · cases hf
              · simp
            simp only [Sem.run_bind, one, Result.andThen_ok]
            exact ih
        refine (congrArg (fun r => Result.andThen r fun _ w' => Sem.run P (pure ()) w') (key fs.toList fun f hf => hf)).trans ?_
        rfl
    · cases h
  · cases h

theorem keyEq_vr {kt : TypeId} {a b a' b' : Value} {r : Bool} (h : keyEq E S kt a b = some r) (ha : VR m a a') (hb : VR m b b') :
    ((∃ cs, a = .agg cs) → (Op.equal kt a' b').run P w = .ok r w) ∧
    ((¬ ∃ cs, a = .agg cs) → ∀ d, (d = .string ∨ d = .bool ∨ ∃ kk, d = TypeDesc.int kk) → (∀ kk x, a = .int kk x → ∃ kk, d = .int kk) → (∀ x, a = .string x → d = .string) → (∀ x, a = .bool x → d = .bool) → Instr.sameNow d a' b' = some r) := by
  unfold keyEq at h
  split at h
  · exact ⟨fun _ => eqD_run hE hH 3 kt _ _ a' b' r 10000 h ha hb (by decide), fun hn => absurd ⟨_, rfl⟩ hn⟩
  · refine ⟨(fun ⟨_, e⟩ => by cases e), fun _ => ?_⟩
    obtain ⟨h1, h2⟩ := cond_some h
    cases h2; cases ha; cases hb
    obtain rfl := kindEq_eq h1
    intro d _ hd _ _
    obtain ⟨kk, rfl⟩ := hd _ _ rfl
    simp [Instr.sameNow]; rfl
  · refine ⟨(fun ⟨_, e⟩ => by cases e), fun _ => ?_⟩
    cases h; cases ha; cases hb
    intro d _ _ hd _
    rw [hd _ rfl]
    simp only [Instr.sameNow]
    rw [beq_bytes]
  · refine ⟨(fun ⟨_, e⟩ => by cases e), fun _ => ?_⟩
    cases h; cases ha; cases hb
    intro d _ _ _ hd
    rw [hd _ rfl]
    simp [Instr.sameNow]
  · cases h

/-- What D's look in a map finds, the model's finds. -/
theorem find_run {kt : TypeId} {k k' : Value} (ht : keyType E kt k = true) (hk : VR m k k') {es es' : List MapEntry} {found : Option (Nat × MapEntry)} (h : findD E S kt k es 0 = some found) (he : ERs m es es') :
    match found with
    | none => (Instr.findKey kt k' es').run P w = .ok none w
    | some (i, e) => ∃ e', es[i]? = some e ∧ es'[i]? = some e' ∧ ER m e e' ∧ (Instr.findKey kt k' es').run P w = .ok (some (i, e'.val)) w := by
  unfold keyType at ht
  simp only [Bool.and_eq_true] at ht
  obtain ⟨hok, ht⟩ := ht
  split at ht
  · rename_i d hd
    by_cases hag : ∃ cs, k = .agg cs
    · -- a struct: the model asks
      obtain ⟨cs, rfl⟩ := hag
      have hst : ∃ fs, d.und = .struct fs := by
        split at ht <;> first | (rename_i h1 h2; cases h2; done) | (rename_i h2; cases h2; done) | (exact ⟨_, by assumption⟩) | (cases ht; done)
      obtain ⟨fs, hfs⟩ := hst
      cases hk with
      | agg _ cs' g1 g2 =>
        have ask : ∀ {es es' : List MapEntry} (i : Nat) {found : Option (Nat × MapEntry)}, ERs m es es' → findD E S kt (.agg cs) es i = some found →
            match found with
            | none => (Instr.findAsking kt (.agg cs') es' i).run P w = .ok none w
            | some (j, e) => ∃ e' q, j = i + q ∧ es[q]? = some e ∧ es'[q]? = some e' ∧ ER m e e' ∧ (Instr.findAsking kt (.agg cs') es' i).run P w = .ok (some (j, e'.val)) w := by
          intro es es' i found hr
          induction hr generalizing i found with
          | nil => intro h; cases h; simp [Instr.findAsking]
          | cons h1 h2 ih =>
            intro h
            simp only [findD, Option.bind_eq_some_iff] at h
            obtain ⟨b, hb, h⟩ := h
            have heq := (keyEq_vr (P := P) hE hH hb (VR.agg _ _ g1 g2) h1.key).1 ⟨_, rfl⟩
            cases b with
            | true =>
              cases h
              exact ⟨_, 0, rfl, rfl, rfl, h1, by simp [Instr.findAsking, heq]⟩
            | false =>
              have := ih (i + 1) h
              cases found with
              | none => simp only at this ⊢; simp [Instr.findAsking, heq, this]
              | some p =>
                obtain ⟨j, e⟩ := p
                obtain ⟨e', q, hj, q1, q2, q3, q4⟩ := this
                exact ⟨e', q + 1, by omega, by simpa using q1, by simpa using q2, q3, by simp [Instr.findAsking, heq, q4]⟩
        have hnow : ∀ l : List MapEntry, Instr.findNow d.und (.agg cs') l 0 = (match l with | [] => some none | _ => none) := by
          intro l
          cases l with
          | nil => rfl
          | cons e l => rw [hfs]; simp [Instr.findNow, Instr.sameNow]
        have hrun : ∀ r, (Instr.findAsking kt (.agg cs') es').run P w = .ok r w → (Instr.findKey kt (.agg cs') es').run P w = .ok r w := by
          intro r hr
          simp only [Instr.findKey, Sem.run_bind, run_und hE hd w, Result.andThen_ok, hnow]
          cases es' with
          | nil => simpa [Instr.findAsking] using hr
          | cons e l => exact hr
        have := ask 0 he h
        cases found with
        | none => exact hrun _ this
        | some p =>
          obtain ⟨j, e⟩ := p
          obtain ⟨e', q, hj, q1, q2, q3, q4⟩ := this
          obtain rfl : j = q := by omega
          exact ⟨e', q1, q2, q3, hrun _ q4⟩
    · have hd3 : (d.und = .string ∨ d.und = .bool ∨ ∃ kk, d.und = TypeDesc.int kk) ∧ (∀ kk x, k = .int kk x → ∃ kk, d.und = .int kk) ∧ (∀ x, k = .string x → d.und = .string) ∧ (∀ x, k = .bool x → d.und = .bool) := by
        split at ht
        · rename_i hu; exact ⟨.inr (.inr ⟨_, hu⟩), (fun _ _ _ => ⟨_, hu⟩), (fun _ e => by cases e), (fun _ e => by cases e)⟩
        · rename_i hu; exact ⟨.inl hu, (fun _ _ e => by cases e), (fun _ _ => hu), (fun _ e => by cases e)⟩
        · rename_i hu; exact ⟨.inr (.inl hu), (fun _ _ e => by cases e), (fun _ e => by cases e), (fun _ _ => hu)⟩
        · exact absurd ⟨_, rfl⟩ hag
        · cases ht
      have now : ∀ {es es' : List MapEntry} (i : Nat) {found : Option (Nat × MapEntry)}, ERs m es es' → findD E S kt k es i = some found →
          match found with
          | none => Instr.findNow d.und k' es' i = some none
          | some (j, e) => ∃ e' q, j = i + q ∧ es[q]? = some e ∧ es'[q]? = some e' ∧ ER m e e' ∧ Instr.findNow d.und k' es' i = some (some (j, e'.val)) := by
        intro es es' i found hr
        induction hr generalizing i found with
        | nil => intro h; cases h; rfl
        | cons h1 h2 ih =>
          intro h
          simp only [findD, Option.bind_eq_some_iff] at h
          obtain ⟨b, hb, h⟩ := h
          have heq := (keyEq_vr (P := P) hE hH hb hk h1.key).2 hag d.und hd3.1 hd3.2.1 hd3.2.2.1 hd3.2.2.2
          cases b with
          | true =>
            cases h
            exact ⟨_, 0, rfl, rfl, rfl, h1, by simp [Instr.findNow, heq]⟩
          | false =>
            have := ih (i + 1) h
            cases found with
            | none => simp only at this ⊢; simp [Instr.findNow, heq, this]
            | some p =>
              obtain ⟨j, e⟩ := p
              obtain ⟨e', q, hj, q1, q2, q3, q4⟩ := this
              exact ⟨e', q + 1, by omega, by simpa using q1, by simpa using q2, q3, by simp [Instr.findNow, heq, q4]⟩
      have hrun : ∀ r, Instr.findNow d.und k' es' 0 = some r → (Instr.findKey kt k' es').run P w = .ok r w := by
        intro r hr
        simp [Instr.findKey, run_und hE hd w, hr]
      have := now 0 he h
      cases found with
      | none => exact hrun _ this
      | some p =>
        obtain ⟨j, e⟩ := p
        obtain ⟨e', q, hj, q1, q2, q3, q4⟩ := this
        obtain rfl : j = q := by omega
        exact ⟨e', q1, q2, q3, hrun _ q4⟩
  · cases ht

end

end Go.Proofs.Ytcookjolkhcjhaa.D
