/-
  D, part 6: one operation of D, and the model's: structs, slices, conversions.
-/
import Derived.Test.YtcookjolkhcjhaaD5
namespace Go.Proofs.Ytcookjolkhcjhaa.D
set_option linter.unusedSectionVars false

theorem binOp_eql {t : TypeId} {a b : Value} (h1 : ∀ k p k' q, ¬ (a = .int k p ∧ b = .int k' q)) (h2 : ∀ p q, ¬ (a = .string p ∧ b = .string q))
    (h3 : ∀ k p, a ≠ .float k p) (h4 : ∀ k p q, a ≠ .complex k p q) :
    binOp .eql t a b = (do pure (.bool (← Op.equal t a b))) ∧ binOp .neq t a b = (do pure (.bool (!(← Op.equal t a b)))) := by
  constructor
  · unfold binOp; split <;> first
      | (exact absurd ⟨rfl, rfl⟩ (h1 _ _ _ _)) | (exact absurd ⟨rfl, rfl⟩ (h2 _ _)) | (exact absurd rfl (h3 _ _)) | (exact absurd rfl (h4 _ _ _)) | rfl | (simp_all; done)
  · unfold binOp; split <;> first
      | (exact absurd ⟨rfl, rfl⟩ (h1 _ _ _ _)) | (exact absurd ⟨rfl, rfl⟩ (h2 _ _)) | (exact absurd rfl (h3 _ _)) | (exact absurd rfl (h4 _ _ _)) | rfl | (simp_all; done)

/-- D knows both. -/
theorem eqD_known {E : Env} {S : St} {n : Nat} {t : TypeId} {a b : Value} {r : Bool} (h : eqD E S n t a b = some r) : a ≠ .complex .f32 0 0 ∧ b ≠ .complex .f32 0 0 := by
  cases n with
  | zero => cases h
  | succ n =>
    unfold eqD at h
    split at h
    · cases h
    · constructor
      · rintro rfl
        split at h <;> first | contradiction | (cases h; done)
      · rintro rfl
        split at h <;> first | contradiction | (cases h; done)

section
variable {E : Env} {P : Program} (hE : E.Ok P) {m : Mp} {S : St} {w : World} (hH : HR E m S w)
include hE hH

theorem guard_run {op : BinOp} {t : TypeId} {x y : Operand} {a b a' b' : Value} (ha : VR m a a') (hb : VR m b b') (ja : a ≠ .complex .f32 0 0) (jb : b ≠ .complex .f32 0 0) (h : guardD E t x y a b = true) :
    (eqGuard op t x y a' b').run P w = .ok () w := by
  have agg : ∀ c c' : Array Value, a' = .agg c → b' = .agg c' → P.eqGuardType P.depth t = false := by
    rintro c c' rfl rfl
    cases ha <;> first | exact (ja rfl).elim | skip
    cases hb <;> first | exact (jb rfl).elim | skip
    simp only [guardD] at h
    split at h
    · rename_i d hd
      obtain ⟨_, h1, _⟩ := hE.inf t d hd
      rw [h1]; simpa using h
    · cases h
  have nil : a' = .nilIface → b' = .nilIface → isConst x = true ∨ isConst y = true := by
    rintro rfl rfl
    cases ha <;> first | exact (ja rfl).elim | skip
    cases hb <;> first | exact (jb rfl).elim | skip
    simpa [guardD] using h
  clear ha hb h
  unfold eqGuard
  cases op <;> simp only [Bool.not_false, Bool.not_true, Bool.false_eq_true, if_true, if_false, Sem.run_pure]
  all_goals
    split
    · have := nil rfl rfl
      cases x <;> cases y <;> simp_all [isConst]
    · have := agg _ _ rfl rfl
      simp [this]
    · rfl

omit hE hH in
theorem VR.not_num {v v' : Value} (h : VR m v v') (j : v ≠ .complex .f32 0 0) : (∀ k p, v' = .int k p → v = .int k p) ∧ (∀ p, v' = .string p → v = .string p) ∧ (∀ k p, v' ≠ .float k p) ∧ (∀ k p q, v' ≠ .complex k p q) := by
  cases h <;> first | exact (j rfl).elim | simp

theorem binD_sim {op : BinOp} {t : TypeId} {x y : Operand} {a b a' b' v : Value} (h : binD E S op t x y a b = some v) (ha : VR m a a') (hb : VR m b b') :
    SV P m w (do eqGuard op t x y a' b'; binOp op t a' b') v := by
  unfold binD at h
  split at h
  · cases ha; cases hb
    have hg : ∀ (k k' : IntKind) (p q : Int), (eqGuard op t x y (.int k p) (.int k' q)).run P w = .ok () w := fun k k' p q => by unfold eqGuard; split <;> simp
    rename_i k p k' q
    cases op
    case shl =>
      obtain ⟨h1, h2⟩ := shiftD_run (P := P) (w := w) (t := t) (k' := k') h
      exact ⟨v, by rw [Sem.run_bind, hg]; exact h1, h2.vr⟩
    case shr =>
      obtain ⟨h1, h2⟩ := shiftD_run (P := P) (w := w) (t := t) (k' := k') h
      exact ⟨v, by rw [Sem.run_bind, hg]; exact h1, h2.vr⟩
    all_goals
      dsimp only at h
      obtain ⟨hk, h5⟩ := cond_some h
      clear h
      obtain rfl := kindEq_eq hk
      obtain ⟨h1, h2⟩ := intD_run (P := P) (w := w) (t := t) h5
      exact ⟨v, by rw [Sem.run_bind, hg]; exact h1, h2.vr⟩
  · cases ha; cases hb
    rename_i p q
    obtain ⟨h1, h2⟩ := strD_run (P := P) (w := w) (t := t) h
    exact ⟨v, by rw [Sem.run_bind]; have : (eqGuard op t x y (.string p) (.string q)).run P w = .ok () w := by unfold eqGuard; split <;> simp
                 rw [this]; exact h1, h2.vr⟩
  · rename_i n1 n2
    have hj : a ≠ .complex .f32 0 0 ∧ b ≠ .complex .f32 0 0 := by
      split at h
      · obtain ⟨_, h⟩ := cond_some h
        rw [Option.map_eq_some_iff] at h
        obtain ⟨r, h1, _⟩ := h
        exact eqD_known h1
      · obtain ⟨_, h⟩ := cond_some h
        rw [Option.map_eq_some_iff] at h
        obtain ⟨r, h1, _⟩ := h
        exact eqD_known h1
      · cases h
    obtain ⟨a1, a2, a3, a4⟩ := VR.not_num ha hj.1
    obtain ⟨b1, b2, _, _⟩ := VR.not_num hb hj.2
    obtain ⟨e1, e2⟩ := binOp_eql (t := t) (a := a') (b := b') (fun k p k' q ⟨g1, g2⟩ => n1 k p k' q (a1 k p g1) (b1 k' q g2)) (fun p q ⟨g1, g2⟩ => n2 p q (a2 p g1) (b2 q g2)) a3 a4
    split at h
    · obtain ⟨hg, h⟩ := cond_some h
      rw [Option.map_eq_some_iff] at h
      obtain ⟨r, h1, rfl⟩ := h
      have := eqD_run hE hH 6 t a b a' b' r 10000 h1 ha hb (by decide)
      exact ⟨.bool r, by rw [Sem.run_bind, guard_run hE hH ha hb hj.1 hj.2 hg, Result.andThen_ok, e1]; simp [Op.equal, Op.maxDepth, this], .bool _⟩
    · obtain ⟨hg, h⟩ := cond_some h
      rw [Option.map_eq_some_iff] at h
      obtain ⟨r, h1, rfl⟩ := h
      have := eqD_run hE hH 6 t a b a' b' r 10000 h1 ha hb (by decide)
      exact ⟨.bool (!r), by rw [Sem.run_bind, guard_run hE hH ha hb hj.1 hj.2 hg, Result.andThen_ok, e2]; simp [Op.equal, Op.maxDepth, this], .bool _⟩
    · cases h

/-! ### Building structs, arrays, slices -/
omit hE hH in
theorem foldl_splice : ∀ (vs : List Value) (cells : Array Value) (off j : Nat), off + j + vs.length ≤ cells.size →
    (vs.zipIdx j).foldl (fun cs (p : Value × Nat) => cs.setIfInBounds (off + p.2) p.1) cells = (splice cells.toList (off + j) vs).toArray := by
  intro vs
  induction vs with
  | nil => intro cells off j _; simp
  | cons v vs ih =>
    intro cells off j h
    rw [List.zipIdx_cons, List.foldl_cons]
    simp only [List.length_cons] at h
    rw [ih _ off (j + 1) (by simp; omega)]
    congr 1
    rw [show off + (j + 1) = (off + j) + 1 from rfl, ← splice_cons (by simp; omega)]
    simp

omit hE hH in
theorem fillD_run {place place' : Nat → Option (Nat × Nat)} (hp : ∀ i p, place i = some p → place' i = some p) : ∀ {parts parts' : List (Nat × Value)} {cells cells' out : List Value},
    fillD place cells parts = some out → VRs m cells cells' → parts.length = parts'.length → (∀ (i : Nat) p p', parts[i]? = some p → parts'[i]? = some p' → p.1 = p'.1 ∧ VR m p.2 p'.2) →
    ∃ out' : Array Value, Instr.fill place' cells'.toArray parts' = some out' ∧ VRs m out out'.toList := by
  intro parts
  induction parts with
  | nil =>
    intro parts' cells cells' out h hc hl _
    cases parts' with
    | nil => cases h; exact ⟨cells'.toArray, rfl, by simpa using hc⟩
    | cons _ _ => simp at hl
  | cons p parts ih =>
    intro parts' cells cells' out h hc hl hr
    cases parts' with
    | nil => simp at hl
    | cons p' parts' =>
      obtain ⟨i, v⟩ := p
      obtain ⟨i', v'⟩ := p'
      obtain ⟨h0, hv⟩ := hr 0 _ _ rfl rfl
      simp only at h0 hv
      subst h0
      simp only [fillD] at h
      split at h
      · cases h
      · rename_i off size hpl
        obtain ⟨hb, h⟩ := cond_some h
        simp only [Bool.and_eq_true, Nat.ble_eq] at hb
        obtain ⟨hs, hle⟩ := hb
        have hs := Nat.eq_of_beq_eq_true hs
        have hcv := cells_vr hv
        have hlen := hcv.length
        have hcl := hc.length
        have hsz : v'.cells.size = (cellsOf v).length := by simpa using hlen.symm
        obtain ⟨out', h1, h2⟩ := ih h (hc.splice hcv off) (by simpa using hl) (fun j q q' e e' => hr (j + 1) q q' (by simpa using e) (by simpa using e'))
        refine ⟨out', ?_, h2⟩
        simp only [Instr.fill, hp _ _ hpl]
        rw [if_neg (by simp [hsz, hs]; omega)]
        rw [← h1]
        congr 1
        have hf := foldl_splice v'.cells.toList cells'.toArray off 0 (by simp [hsz]; omega)
        simp only [Nat.add_zero] at hf
        rw [← hf]
        rw [← Array.foldl_toList]
        simp
end

end Go.Proofs.Ytcookjolkhcjhaa.D
