/-
  D, part 26: 'denC' is right: where it holds, the run comes to 'K'.
-/
import Derived.Test.YtcookjolkhcjhaaD25
namespace Go.Proofs.Ytcookjolkhcjhaa.D
noncomputable section
set_option linter.unusedVariables false
set_option linter.unusedSimpArgs false

variable {E : Env}
/-- An operation comes to K. -/
def OpW (E : Env) (A : Ac) (S : St) (o : Op) (K : Value → St → Prop) : Prop := ∃ n v S', (opD E A S o).bind (coreC E (exec E drawD n)) = some (v, S') ∧ K v S'
theorem OpW.val {A : Ac} {S S' : St} {o : Op} {v : Value} {K : Value → St → Prop} (h : opD E A S o = some (.val v S')) (k : K v S') : OpW E A S o K := ⟨0, v, S', by rw [h]; rfl, k⟩
theorem OpW.skip {A : Ac} {S S' : St} {o : Op} {K : Value → St → Prop} (h : opD E A S o = some (.skip S')) (k : K undef S') : OpW E A S o K := ⟨0, undef, S', by rw [h]; rfl, k⟩

theorem denInt_sound {op : BinOp} {k : IntKind} {p q : Int} {K : Value → Prop} (h : denInt op k p q K) : ∃ v, intD op k p q = some v ∧ K v := by
  unfold denInt at h
  split at h
  · rw [eqI_eq] at h; exact ⟨_, rfl, h⟩
  · rw [eqI_eq] at h; exact ⟨_, rfl, h⟩
  · rw [ltI_eq] at h; exact ⟨_, rfl, h⟩
  · rw [leI_eq] at h; exact ⟨_, rfl, h⟩
  · rw [ltI_eq] at h; exact ⟨_, rfl, h⟩
  · rw [leI_eq] at h; exact ⟨_, rfl, h⟩
  · rw [wrapI_eq] at h; exact ⟨_, rfl, h⟩
  · rw [wrapI_eq] at h; exact ⟨_, rfl, h⟩
  · rw [wrapI_eq] at h; exact ⟨_, rfl, h⟩
  · obtain ⟨h1, h2⟩ := needW_iff.1 h
    rw [wrapI_eq] at h2
    refine ⟨_, ?_, h2⟩
    simp only [Bool.not_eq_true'] at h1
    simp only [intD, h1, cond_false]
  · obtain ⟨h1, h2⟩ := needW_iff.1 h
    refine ⟨_, ?_, h2⟩
    simp only [Bool.not_eq_true'] at h1
    simp only [intD, h1, cond_false]
  · exact ⟨_, rfl, h⟩
  · exact ⟨_, rfl, h⟩
  · exact ⟨_, rfl, h⟩
  · exact ⟨_, rfl, h⟩
  · exact wO_iff.1 h
theorem denUn_sound {op : UnOp} {v : Value} {K : Value → Prop} (h : denUn op v K) : ∃ w, unD op v = some w ∧ K w := by
  unfold denUn at h
  split at h
  · rw [wrapI_eq] at h; exact ⟨_, rfl, h⟩
  · exact wO_iff.1 h
theorem denStr_sound {op : BinOp} {p q : ByteArray} {K : Value → Prop} (h : denStr op p q K) : ∃ v, strD op p q = some v ∧ K v := by
  unfold denStr at h
  split at h
  · obtain ⟨x, h1, h2⟩ := h; exact ⟨_, h1, h2⟩
  · exact wO_iff.1 h
theorem denEq_sound {S : St} {op : BinOp} {t : TypeId} {x y : Operand} {a b : Value} {K : Value → Prop} (hs : ∀ p q, a = .string p → b = .string q → False) (hi : ∀ k k' p q, a = .int k p → b = .int k' q → False)
    (h : denEq E S op t x y a b K) : ∃ v, binD E S op t x y a b = some v ∧ K v := by
  unfold denEq at h
  split at h
  · obtain ⟨h1, e, h2, h3⟩ := needB_iff.1 h
    refine ⟨_, ?_, h3⟩
    unfold binD
    split
    · exact (hi _ _ _ _ rfl rfl).elim
    · exact (hs _ _ rfl rfl).elim
    · simp only [h1, h2, cond_true, Option.map_some]
  · obtain ⟨h1, e, h2, h3⟩ := needB_iff.1 h
    refine ⟨_, ?_, h3⟩
    unfold binD
    split
    · exact (hi _ _ _ _ rfl rfl).elim
    · exact (hs _ _ rfl rfl).elim
    · simp only [h1, h2, cond_true, Option.map_some]
  · exact h.elim
theorem denBin_sound {S : St} {op : BinOp} {t : TypeId} {x y : Operand} {a b : Value} {K : Value → Prop} (h : denBin E S op t x y a b K) : ∃ v, binD E S op t x y a b = some v ∧ K v := by
  unfold denBin at h
  split at h
  · rename_i k p k' q
    split at h
    · obtain ⟨h1, h2⟩ := needW_iff.1 h
      refine ⟨_, ?_, h2⟩
      simp only [Bool.not_eq_true'] at h1
      simp only [binD, shiftD, h1, cond_false, shiftV, cond_true, wrapI_eq]
    · obtain ⟨h1, h2⟩ := needW_iff.1 h
      refine ⟨_, ?_, h2⟩
      simp only [Bool.not_eq_true'] at h1
      simp only [binD, shiftD, h1, cond_false, shiftV, cond_true, wrapI_eq]
    · rename_i h1 h2
      cases hk : kindEq k k' with
      | false => rw [hk] at h; exact h.elim
      | true =>
        rw [hk] at h
        obtain ⟨v, h3, h4⟩ := denInt_sound h
        refine ⟨v, ?_, h4⟩
        cases op <;> first
          | exact (h1 rfl).elim
          | exact (h2 rfl).elim
          | (simp only [binD, hk, cond_true]; exact h3)
  · obtain ⟨v, h1, h2⟩ := denStr_sound h
    exact ⟨v, h1, h2⟩
  · rename_i h1 h2
    exact denEq_sound (fun p q ha hb => h2 p q ha hb) (fun k k' p q ha hb => h1 k p k' q ha hb) h
theorem nilW_sound {v : Value} {K : Value → Prop} (h : nilW v K) : ∃ w, nilD v = some w ∧ K w := by
  unfold nilW at h
  split at h
  · obtain ⟨b, o, h1, h2⟩ := h; subst h1; exact ⟨_, rfl, h2⟩
  · exact wO_iff.1 h
theorem convW_sound {S : St} {s d : TypeId} {v : Value} {K : Value → St → Prop} (h : convW E S s d v K) : ∃ w S', convertD E S s d v = some (w, S') ∧ K w S' := by
  unfold convW at h
  split at h
  · rename_i hs hd
    rw [wrapI_eq] at h
    refine ⟨_, _, ?_, h⟩
    unfold convertD
    rw [hs, hd]
  · obtain ⟨ty, _, x, S', h1, h2⟩ := wO_iff.1 h
    exact ⟨_, _, h1, h2⟩
theorem fieldW_sound {t : TypeId} {v : Value} {f : Nat} {K : Value → Prop} (h : fieldW E t v f K) : ∃ w, fieldAddrD E t v f = some w ∧ K w := by
  unfold fieldW at h
  split at h
  · obtain ⟨b, o, h1, h2⟩ := h; subst h1; exact wO_iff.1 h2
  · exact h.elim
theorem indexW_sound {t : TypeId} {v i : Value} {K : Value → Prop} (h : indexW E t v i K) : ∃ w, indexAddrD E t v i = some w ∧ K w := by
  unfold indexW at h
  split at h
  · split at h
    · rename_i e hu
      obtain ⟨s, h1, b, o, h2, h3, h4, h5⟩ := wO_iff.1 h
      subst h2
      refine ⟨_, ?_, h5⟩
      unfold indexAddrD
      simp only [hu, h1, Option.bind_some, h3, h4, decide_true, Bool.and_true, cond_true]
    · exact h.elim
  · split at h
    · rename_i len e hu
      obtain ⟨s, h1, b, o, h2, h3, h4, h5⟩ := wO_iff.1 h
      subst h2
      refine ⟨_, ?_, h5⟩
      unfold indexAddrD
      simp only [hu, h1, Option.bind_some, h3, h4, decide_true, Bool.and_true, cond_true]
    · exact h.elim
  · exact h.elim
theorem cellsD_some {S : St} {t : TypeId} {n : Nat} {parts : List (Nat × Value)} {l : List Value} (h : cellsD E t n parts = some l) :
    buildSliceD E S t n parts = some (.slice (some ⟨S.next, 0, none⟩) n n, (S.alloc (.cells l none false none)).2) := by
  unfold cellsD at h
  unfold buildSliceD
  split at h
  · rename_i e he
    rw [he]
    simp only
    split at h
    · rename_i i hi
      rw [hi]
      simp only
      rw [Option.bind_eq_some_iff] at h ⊢
      obtain ⟨z, h1, h2⟩ := h
      obtain ⟨h3, h4⟩ := cond_some h2
      exact ⟨z, h1, by rw [h3, h4]; rfl⟩
    · cases h
  · cases h
theorem lenW_sound {S : St} {t : TypeId} {v : Value} {K : Value → Prop} (h : lenW E S t v K) : ∃ w, lenD E S t v = some w ∧ K w := by
  unfold lenW at h
  split at h
  · obtain ⟨x, h1, h2⟩ := h; exact ⟨_, h1, h2⟩
  · exact wO_iff.1 h
theorem denBuiltin_sound {S : St} {b : Builtin} {ts : Array TypeId} {ty : TypeId} {args : List Value} {K : Value → St → Prop} (h : denBuiltin E S b ts ty args K) : ∃ w S', builtinD E S b ts args = some (w, S') ∧ K w S' := by
  unfold denBuiltin at h
  split at h
  · obtain ⟨t, h1, h⟩ := wO_iff.1 h
    obtain ⟨w, h2, h3⟩ := lenW_sound h
    exact ⟨w, S, by simp only [builtinD, h1, h2, Option.bind_some, Option.map_some], h3⟩
  · obtain ⟨w, h2, h3⟩ := wO_iff.1 h
    exact ⟨w, S, by simp only [builtinD, h2, Option.map_some], h3⟩
  · obtain ⟨w, h2, h3⟩ := wO_iff.1 h
    exact ⟨w, S, by simp only [builtinD, h2, Option.map_some], h3⟩
  · obtain ⟨t, h1, h⟩ := wO_iff.1 h
    obtain ⟨u, h2, y, S', h3, h4⟩ := wO_iff.1 h
    exact ⟨_, S', by simp only [builtinD, h1, h2, Option.bind_some, h3]; rfl, h4⟩
  · obtain ⟨t, h1, S', h3, h4⟩ := wO_iff.1 h
    exact ⟨_, S', by simp only [builtinD, h1, Option.bind_some, h3, Option.map_some], h4⟩
  · obtain ⟨t, h1, S', h3, h4⟩ := wO_iff.1 h
    exact ⟨_, S', by simp only [builtinD, h1, Option.bind_some, h3, Option.map_some], h4⟩
  · obtain ⟨x, S', h3, h4⟩ := h
    exact ⟨_, S', h3, h4⟩
theorem denOp_sound {R A : Ac} {S : St} {o : Op} {ty : TypeId} {K : Value → St → Prop} (hs : Sub R A) (h : denOp E R S o ty K) : OpW E A S o K := by
  cases o with
  | move x =>
    obtain ⟨v, h1, h⟩ := wO_iff.1 h
    exact .val (by simp only [opD, ev_sub hs h1, ofV, Option.map_some]) h
  | assign x =>
    obtain ⟨v, h1, h⟩ := wO_iff.1 h
    exact .val (by simp only [opD, ev_sub hs h1, ofV, Option.map_some]) h
  | pick c a b =>
    obtain ⟨v, h1, h⟩ := wO_iff.1 h
    obtain ⟨t, rfl, hh⟩ := boolW_iff.1 h
    · rw [splitW_iff] at hh
      have h := hh
      obtain ⟨w, h2, h⟩ := wO_iff.1 h
      refine .val (v := w) (S' := S) ?_ h
      have := ev_sub hs h2
      cases t <;> (simp only [cond_true, cond_false] at this; simp only [opD, ev_sub hs h1, pickD, this, ofV, cond_true, cond_false, Option.bind_some, Option.map_some])
  | alloc e =>
    obtain ⟨z, h1, h⟩ := wO_iff.1 h
    exact .val (by simp only [opD, h1, Option.map_some, newD]) (h _ _ rfl rfl)
  | box e x =>
    obtain ⟨v, h1, h⟩ := wO_iff.1 h
    exact .val (by simp only [opD, ev_sub hs h1, Option.map_some, newD]) (h _ _ rfl rfl)
  | build t ps =>
    obtain ⟨parts, h1, h⟩ := wO_iff.1 h
    obtain ⟨v, h2, h⟩ := wO_iff.1 h
    exact .val (by simp only [opD, evps_sub hs h1, h2, ofV, Option.bind_some, Option.map_some]) h
  | buildSlice t n ps =>
    obtain ⟨parts, h1, h⟩ := wO_iff.1 h
    obtain ⟨l, h2, h⟩ := wO_iff.1 h
    exact .val (by simp only [opD, evps_sub hs h1, cellsD_some h2, ofP, Option.bind_some, Option.map_some]) (h _ _ rfl rfl)
  | load t a =>
    obtain ⟨p, h1, h⟩ := wO_iff.1 h
    obtain ⟨tt, _, x, h2, h⟩ := wO_iff.1 h
    exact .val (by simp only [opD, ev_sub hs h1, h2, ofV, Option.bind_some, Option.map_some]) h
  | store t a x =>
    obtain ⟨p, h1, h⟩ := wO_iff.1 h
    obtain ⟨v, h2, S', h3, h⟩ := wO_iff.1 h
    exact .skip (by simp only [opD, ev_sub hs h1, ev_sub hs h2, h3, ofS, Option.bind_some, Option.map_some]) h
  | nilCheck x =>
    obtain ⟨v, h1, h⟩ := wO_iff.1 h
    obtain ⟨w, h2, h⟩ := nilW_sound h
    exact .val (by simp only [opD, ev_sub hs h1, h2, ofV, Option.bind_some, Option.map_some]) h
  | binOp op t x y u =>
    obtain ⟨a, h1, h⟩ := wO_iff.1 h
    obtain ⟨b, h2, h⟩ := wO_iff.1 h
    obtain ⟨w, h3, h⟩ := denBin_sound h
    exact .val (by simp only [opD, ev_sub hs h1, ev_sub hs h2, h3, ofV, Option.bind_some, Option.map_some]) h
  | unOp op t x =>
    obtain ⟨a, h1, h⟩ := wO_iff.1 h
    obtain ⟨w, h3, h⟩ := denUn_sound h
    exact .val (by simp only [opD, ev_sub hs h1, h3, ofV, Option.bind_some, Option.map_some]) h
  | convert s d x =>
    obtain ⟨a, h1, h⟩ := wO_iff.1 h
    obtain ⟨w, S', h3, h⟩ := convW_sound h
    exact .val (by simp only [opD, ev_sub hs h1, h3, ofP, Option.bind_some, Option.map_some]) h
  | makeInterface t x =>
    obtain ⟨a, h1, h⟩ := wO_iff.1 h
    obtain ⟨w, h3, h⟩ := wO_iff.1 h
    exact .val (by simp only [opD, ev_sub hs h1, h3, ofV, Option.bind_some, Option.map_some]) h
  | makeFunc fn first captured =>
    obtain ⟨fs, h1, h⟩ := wO_iff.1 h
    obtain ⟨cs, h2, h⟩ := wO_iff.1 h
    obtain ⟨h3, h⟩ := needB_iff.1 h
    exact .val (by simp only [opD, evs_sub hs h1, evs_sub hs h2, h3, cond_true, Option.bind_some]) h
  | makeMap t r =>
    obtain ⟨x, h1, h⟩ := wO_iff.1 h
    obtain ⟨h2, h⟩ := needB_iff.1 h
    exact .val (by simp only [opD, evo_sub hs h1, h2, cond_true, Option.bind_some, newD]) (h _ _ rfl rfl)
  | makeSlice t l c =>
    obtain ⟨a, h1, h⟩ := wO_iff.1 h
    obtain ⟨b, h2, y, S', h3, h⟩ := wO_iff.1 h
    exact .val (by simp only [opD, ev_sub hs h1, ev_sub hs h2, h3, ofP, Option.bind_some, Option.map_some]; rfl) h
  | slice t x lo hi mx =>
    obtain ⟨v, h1, h⟩ := wO_iff.1 h
    obtain ⟨l, h2, h⟩ := wO_iff.1 h
    obtain ⟨hh, h3, h⟩ := wO_iff.1 h
    obtain ⟨m, h4, h⟩ := wO_iff.1 h
    obtain ⟨tt, _, w, h5, h⟩ := wO_iff.1 h
    exact .val (by simp only [opD, ev_sub hs h1, evo_sub hs h2, evo_sub hs h3, evo_sub hs h4, h5, ofV, Option.bind_some, Option.map_some]) h
  | fieldAddr t x f =>
    obtain ⟨v, h1, h⟩ := wO_iff.1 h
    obtain ⟨w, h2, h⟩ := fieldW_sound h
    exact .val (by simp only [opD, ev_sub hs h1, h2, ofV, Option.bind_some, Option.map_some]) h
  | field t x f =>
    obtain ⟨v, h1, h⟩ := wO_iff.1 h
    obtain ⟨w, h2, h⟩ := wO_iff.1 h
    exact .val (by simp only [opD, ev_sub hs h1, h2, ofV, Option.bind_some, Option.map_some]) h
  | indexAddr t x i =>
    obtain ⟨v, h1, h⟩ := wO_iff.1 h
    obtain ⟨j, h2, h⟩ := wO_iff.1 h
    obtain ⟨w, h3, h⟩ := indexW_sound h
    exact .val (by simp only [opD, ev_sub hs h1, ev_sub hs h2, h3, ofV, Option.bind_some, Option.map_some]) h
  | index t x i =>
    obtain ⟨v, h1, h⟩ := wO_iff.1 h
    obtain ⟨j, h2, h⟩ := wO_iff.1 h
    obtain ⟨tt, _, w, h3, h⟩ := wO_iff.1 h
    exact .val (by simp only [opD, ev_sub hs h1, ev_sub hs h2, h3, ofV, Option.bind_some, Option.map_some]) h
  | lookup t x k ok =>
    obtain ⟨v, h1, h⟩ := wO_iff.1 h
    obtain ⟨j, h2, h⟩ := wO_iff.1 h
    obtain ⟨tt, _, w, h3, h⟩ := wO_iff.1 h
    exact .val (by simp only [opD, ev_sub hs h1, ev_sub hs h2, h3, ofV, Option.bind_some, Option.map_some]) h
  | mapUpdate t m k x =>
    obtain ⟨v, h1, h⟩ := wO_iff.1 h
    obtain ⟨j, h2, h⟩ := wO_iff.1 h
    obtain ⟨u, h3, S', h4, h⟩ := wO_iff.1 h
    exact .skip (by simp only [opD, ev_sub hs h1, ev_sub hs h2, ev_sub hs h3, h4, ofS, Option.bind_some, Option.map_some]) h
  | insert t m k x =>
    obtain ⟨v, h1, h⟩ := wO_iff.1 h
    obtain ⟨j, h2, h⟩ := wO_iff.1 h
    obtain ⟨u, h3, S', h4, h⟩ := wO_iff.1 h
    exact .skip (by simp only [opD, ev_sub hs h1, ev_sub hs h2, ev_sub hs h3, h4, ofS, Option.bind_some, Option.map_some]) h
  | mapEntry t m k =>
    obtain ⟨v, h1, h⟩ := wO_iff.1 h
    obtain ⟨j, h2, y, S', h3, h⟩ := wO_iff.1 h
    exact .val (by simp only [opD, ev_sub hs h1, ev_sub hs h2, h3, ofP, Option.bind_some, Option.map_some]) h
  | entryStore t m s x =>
    obtain ⟨v, h1, h⟩ := wO_iff.1 h
    obtain ⟨j, h2, h⟩ := wO_iff.1 h
    obtain ⟨u, h3, S', h4, h⟩ := wO_iff.1 h
    exact .skip (by simp only [opD, ev_sub hs h1, ev_sub hs h2, ev_sub hs h3, h4, ofS, Option.bind_some, Option.map_some]) h
  | extract t i =>
    obtain ⟨v, h1, h⟩ := wO_iff.1 h
    obtain ⟨w, h2, h⟩ := wO_iff.1 h
    exact .val (by simp only [opD, ev_sub hs h1, h2, ofV, Option.bind_some, Option.map_some]) h
  | call c =>
    obtain ⟨args, h1, h⟩ := wO_iff.1 h
    cases hc : c.callee with
    | builtin b =>
      simp only [hc] at h
      obtain ⟨w, S', h2, h⟩ := denBuiltin_sound h
      exact .val (by simp only [opD, callD, hc, evs_sub hs h1, h2, ofP, Option.bind_some, Option.map_some]) h
    | value f =>
      simp only [hc] at h
      split at h
      · cases ‹_ = _›
      · rename_i g e
        cases e
        obtain ⟨n, v, S', h3, x, rfl, h⟩ := h
        refine ⟨n, _, S', ?_, h⟩
        simp only [opD, callD, hc, evs_sub hs h1, Ac.eval, Option.bind_some, calleeD, coreC]
        simpa using h3
      · rename_i g e
        cases e
        obtain ⟨u, h2, h⟩ := wO_iff.1 h
        obtain ⟨n, v, S', h3, x, rfl, h⟩ := h
        exact ⟨n, _, S', by simp only [opD, callD, hc, evs_sub hs h1, ev_sub hs h2, Option.bind_some]; exact h3, h⟩
      · cases ‹_ = _›
    | invoke r m => simp only [hc] at h
  | _ => exact h.elim

/-! ### Operations in a row -/
theorem putR_sound {R A : Ac} {dst : Option Tmp} {v : Value} {K : Ac → Prop} (hs : Sub R A) (h : putR R dst v K) : ∃ R' A', A.put dst v = some A' ∧ Sub R' A' ∧ K R' := by
  cases dst with
  | none => exact ⟨R, A, rfl, hs, h⟩
  | some d =>
    unfold putR at h
    simp only at h
    cases hb : Nat.blt d R.n with
    | false => rw [hb] at h; exact h.elim
    | true =>
      rw [hb] at h
      refine ⟨_, _, ?_, hs.set, h⟩
      simp only [Ac.put]
      rw [← hs.n, hb]; rfl
theorem guardW_sound {ops : Array Oper} {R A : Ac} {o : Oper} {K : Bool → Ac → Prop} (hs : Sub R A) (h : guardW ops R o K) : ∃ R', Sub R' A ∧ K (wantedD ops A o) R' := by
  unfold guardW at h
  unfold wantedD
  split at h
  · rename_i hg
    refine ⟨R, hs, ?_⟩
    rw [hg]; exact h
  · rename_i j want hg
    rw [hg]
    obtain ⟨t, h1, h⟩ := wO_iff.1 h
    simp only [h1]
    cases hb : Nat.blt t R.n with
    | false => rw [hb] at h; exact h.elim
    | true =>
      rw [hb] at h
      obtain ⟨v, h2, h⟩ := wO_iff.1 h
      cases hbo : boolO v with
      | none =>
        rw [hbo] at h
        refine ⟨R, hs, ?_⟩
        have ha := hs.get _ _ h2
        have : A.get t = v := by unfold Ac.get; rw [ha]; rfl
        rw [← hs.n, hb, this]
        clear this ha h2
        simp only [cond_true]
        split
        · cases hbo
        · exact h
      | some b =>
        rw [hbo] at h
        have hv := boolO_some hbo
        subst hv
        have h : splitW b fun b => K (b == want) { R with regs := R.regs.set t (.bool b) } := h
        rw [splitW_iff] at h
        have ha := hs.get _ _ h2
        refine ⟨_, hs.say ha, ?_⟩
        have : A.get t = .bool b := by unfold Ac.get; rw [ha]; rfl
        rw [← hs.n, hb, this]
        exact h
def OpsW (E : Env) (ops : Array Oper) (l : List Oper) (A : Ac) (S : St) (K : Ac → St → Prop) : Prop := ∃ n A' S' R', opsD E (exec E drawD n) ops l A S = some (A', S') ∧ Sub R' A' ∧ K R' S'
theorem contD_core {r : Runner} {dst : Option Tmp} {A : Ac} {d : DN} : contD E r dst A d = (coreC E r d).bind fun p => (A.put dst p.1).map (·, p.2) := by
  cases d <;> rfl
theorem denOps_sound {ops : Array Oper} : ∀ {l : List Oper} {R A : Ac} {S : St} {K : Ac → St → Prop}, Sub R A → denOps E ops l R S K → OpsW E ops l A S K := by
  intro l
  induction l with
  | nil => intro R A S K hs h; exact ⟨0, A, S, R, rfl, hs, h⟩
  | cons o l ih =>
    intro R A S K hs h
    unfold denOps at h
    obtain ⟨R1, hs1, h⟩ := guardW_sound hs h
    cases hw : wantedD ops A o with
    | true =>
      rw [hw, selW_true] at h
      obtain ⟨n, v, S1, h1, h⟩ := denOp_sound hs1 h
      obtain ⟨R2, A2, h2, hs2, h⟩ := putR_sound hs1 h
      obtain ⟨n', A', S', R', h3, hs', hk⟩ := ih hs2 h
      refine ⟨max n n', A', S', R', ?_, hs', hk⟩
      have e1 : oneD E (exec E drawD n) ops o A S = some (A2, S1) := by
        unfold oneD
        rw [hw, cond_true]
        have : (opD E A S o.op).bind (contD E (exec E drawD n) o.dst A) = ((opD E A S o.op).bind (coreC E (exec E drawD n))).bind fun p => (A.put o.dst p.1).map (·, p.2) := by
          rw [Option.bind_assoc]; congr 1; funext d; exact contD_core
        rw [this, h1]
        simp only [Option.bind_some, h2, Option.map_some]
      simp only [opsD]
      rw [oneD_le (exec_le E (Nat.le_max_left n n')) e1]
      exact opsD_le (exec_le E (Nat.le_max_right n n')) h3
    | false =>
      rw [hw, selW_false] at h
      obtain ⟨R2, A2, h2, hs2, h⟩ := putR_sound hs1 h
      obtain ⟨n', A', S', R', h3, hs', hk⟩ := ih hs2 h
      refine ⟨n', A', S', R', ?_, hs', hk⟩
      simp only [opsD, oneD, hw, cond_false, h2, Option.map_some]
      exact h3
theorem lowsW_sound {R A : Ac} {lim : Nat} {K : Prop} (hs : Sub R A) : ∀ {l : List Operand}, lowsW E R lim K l → (l.all fun x => match A.eval E x with | some v => vlow lim v | none => false) = true ∧ K := by
  intro l
  induction l with
  | nil => intro h; exact ⟨rfl, h⟩
  | cons x l ih =>
    intro h
    obtain ⟨v, h1, h⟩ := wO_iff.1 h
    obtain ⟨h2, h3⟩ := needB_iff.1 h
    obtain ⟨h4, h5⟩ := ih h3
    refine ⟨?_, h5⟩
    simp only [List.all_cons, ev_sub hs h1, h2, Bool.true_and]
    exact h4
theorem denM_sound {ops : Array Oper} {lim : Nat} {p : Oper × Md} {R A : Ac} {S : St} {K : Value → St → Prop} (hs : Sub R A) (hw : wantedD ops A p.1 = true) (h : denM E lim p.2 R S p.1.op p.1.type K) :
    ∃ n v S', coreM E (exec E drawD n) ops lim p A S = some (v, S') ∧ K v S' := by
  unfold denM at h
  unfold coreM
  rw [hw]
  simp only [cond_true]
  cases hm : p.2 with
  | free =>
    rw [hm] at h
    exact denOp_sound hs h
  | low =>
    rw [hm] at h
    obtain ⟨h1, h2⟩ := lowsW_sound hs h
    obtain ⟨n, v, S', h3, h4⟩ := denOp_sound hs h2
    have h1 : lowOps E A lim p.1.op = true := h1
    exact ⟨n, v, S', by simp only [h1, cond_true, h3], h4⟩
  | quiet =>
    rw [hm] at h
    obtain ⟨n, v, S', h3, h⟩ := denOp_sound hs (h _ rfl)
    obtain ⟨h4, h5⟩ := needW_iff.1 h
    exact ⟨n, v, _, by simp only [h3, Option.bind_some, h4, cond_true], h5 _ rfl⟩
def GoW (E : Env) (ops : Array Oper) (lim : Nat) (l : List (Oper × Md)) (A : Ac) (S : St) (K : Ac → St → Prop) : Prop := ∃ n A' S' R', goD E (exec E drawD n) ops lim l A S = some (A', S') ∧ Sub R' A' ∧ K R' S'
theorem denGo_sound {ops : Array Oper} {lim : Nat} : ∀ {l : List (Oper × Md)} {R A : Ac} {S : St} {K : Ac → St → Prop}, Sub R A → denGo E ops lim l R S K → GoW E ops lim l A S K := by
  intro l
  induction l with
  | nil => intro R A S K hs h; exact ⟨0, A, S, R, rfl, hs, h⟩
  | cons o l ih =>
    intro R A S K hs h
    unfold denGo at h
    obtain ⟨R1, hs1, h⟩ := guardW_sound hs h
    cases hw : wantedD ops A o.1 with
    | true =>
      rw [hw, selW_true] at h
      obtain ⟨n, v, S1, h1, h⟩ := denM_sound hs1 hw h
      obtain ⟨R2, A2, h2, hs2, h⟩ := putR_sound hs1 h
      obtain ⟨n', A', S', R', h3, hs', hk⟩ := ih hs2 h
      refine ⟨max n n', A', S', R', ?_, hs', hk⟩
      simp only [goD]
      rw [coreM_le (exec_le E (Nat.le_max_left n n')) h1]
      simp only [h2]
      exact goD_le (exec_le E (Nat.le_max_right n n')) h3
    | false =>
      rw [hw, selW_false] at h
      obtain ⟨R2, A2, h2, hs2, h⟩ := putR_sound hs1 h
      obtain ⟨n', A', S', R', h3, hs', hk⟩ := ih hs2 h
      refine ⟨n', A', S', R', ?_, hs', hk⟩
      simp only [goD, coreM, hw, cond_false, h2]
      exact h3

/-! ### Where ways meet -/
theorem memN_iff {t : Nat} : ∀ {l : List Nat}, memN t l = true ↔ t ∈ l := by
  intro l
  induction l with
  | nil => simp [memN]
  | cons u l ih =>
    simp only [memN, List.mem_cons]
    cases h : Nat.beq t u with
    | true => simp [Nat.eq_of_beq_eq_true h]
    | false =>
      have : t ≠ u := fun e => by subst e; rw [Nat.beq_refl] at h; cases h
      simp [this, ih]
theorem layL_get : ∀ {l : List (Tmp × Value)} {p : PM Value} {t : Nat} {v : Value}, (layL l p).get t = some v → (t, v) ∈ l ∨ p.get t = some v := by
  intro l
  induction l with
  | nil => intro p t v h; exact .inr h
  | cons q l ih =>
    intro p t v h
    simp only [layL, PM.get_set] at h
    split at h
    · rename_i e; cases h; subst e; exact .inl (by simp)
    · rcases ih h with h | h
      · exact .inl (List.mem_cons_of_mem _ h)
      · exact .inr h
theorem conL_mem {R : Ac} : ∀ {l : List Tmp} {t : Tmp} {v : Value}, (t, v) ∈ conL R l → t ∈ l ∧ R.regs.get t = some v := by
  intro l
  induction l with
  | nil => intro t v h; simp [conL] at h
  | cons u l ih =>
    intro t v h
    simp only [conL] at h
    split at h
    · rename_i w hw
      rcases List.mem_cons.1 h with e | h
      · cases e; exact ⟨by simp, hw⟩
      · exact ⟨List.mem_cons_of_mem _ (ih h).1, (ih h).2⟩
    · exact ⟨List.mem_cons_of_mem _ (ih h).1, (ih h).2⟩
theorem getL_zip {R : Ac} : ∀ {l : List (Tmp × Ty)} {vs : List Value}, getL R l = some vs → ∀ t v, (t, v) ∈ zipL l vs → R.regs.get t = some v := by
  intro l
  induction l with
  | nil => intro vs h t v hm; cases h; simp [zipL] at hm
  | cons p l ih =>
    intro vs h t v hm
    simp only [getL, Option.bind_eq_some_iff, Option.map_eq_some_iff] at h
    obtain ⟨w, h1, ws, h2, h3⟩ := h
    subst h3
    simp only [zipL, List.mem_cons] at hm
    rcases hm with e | hm
    · cases e; exact h1
    · exact ih h2 t v hm
/-- What stays, stays: the temporaries at the meeting. -/
theorem mkJ_sub {j : Jn} {R0 A0 R A : Ac} {c : Code} (h0 : Sub R0 A0) (hs : Sub R A) (hsame : Same (hasRF c) (asg c) A0 A) (hok : okJ j c = true) {K : JT j.dfr j.tys → Prop} (h : leafJ j R K) :
    ∃ x, K x ∧ Sub (mkJ j R0 x) A := by
  unfold leafJ at h
  obtain ⟨vs, h1, h⟩ := wO_iff.1 h
  obtain ⟨x, h2, h⟩ := wO_iff.1 h
  have hvs := decs_some (enc := Ty.enc) (fun _ _ _ h => Ty.dec_some h) h2
  simp only [okJ, Bool.and_eq_true, List.all_eq_true, Bool.not_eq_true', Bool.or_eq_true] at hok
  have key : ∀ y : JT j.dfr j.tys, jdat j.dfr y = x → jdfr j.dfr y R0.defers = A.defers → Sub (mkJ j R0 y) A := by
    intro y hy hd
    refine ⟨h0.n.trans hsame.n.symm, h0.rd.trans hsame.rd.symm, hd, fun t v ht => ?_⟩
    simp only [mkJ, hy, ← hvs] at ht
    rcases layL_get ht with hm | ht
    · exact hs.get _ _ (getL_zip h1 t v hm)
    · rcases layL_get ht with hm | ht
      · obtain ⟨h3, h4⟩ := conL_mem hm
        have := hok.1 t h3
        rw [hsame.get t fun hh => by rw [memN_iff.2 hh] at this; cases this]
        exact h0.get _ _ h4
      · cases ht
  obtain ⟨con, var, dfr⟩ := j
  cases dfr with
  | true => exact ⟨(R.defers, x), h, key _ rfl hs.dfr⟩
  | false =>
    refine ⟨x, h, key _ rfl ?_⟩
    have : hasRF c = false := by simpa using hok.2
    exact h0.dfr.trans (hsame.dfr this).symm

theorem exec_succ {n : Nat} {c : Code} {A : Ac} {S : St} : exec E drawD (n + 1) c A S = stepD E drawD n (exec E drawD n) c A S := rfl

/-! ### Code -/
def CodeW (E : Env) (c : Code) (A : Ac) (S : St) (K : Exit → Ac → St → Prop) : Prop := ∃ n e A' S' R', exec E drawD n c A S = some (e, A', S') ∧ Sub R' A' ∧ K e R' S'
theorem CodeW.mono {c : Code} {A : Ac} {S : St} {K K' : Exit → Ac → St → Prop} (h : CodeW E c A S K) (k : ∀ e R' S', K e R' S' → K' e R' S') : CodeW E c A S K' := by
  obtain ⟨n, e, A', S', R', h1, h2, h3⟩ := h; exact ⟨n, e, A', S', R', h1, h2, k _ _ _ h3⟩
theorem CodeW.seq {a b : Code} {A : Ac} {S : St} {K K1 : Exit → Ac → St → Prop} (h : CodeW E a A S K1) (hn : ∀ R' A' S', Sub R' A' → Same (hasRF a) (asg a) A A' → K1 .normal R' S' → CodeW E b A' S' K)
    (ho : ∀ e R' S', (∀ h : e = .normal, False) → K1 e R' S' → K e R' S') : CodeW E (.seq a b) A S K := by
  obtain ⟨n, e, A', S', R', h1, h2, h3⟩ := h
  by_cases he : e = .normal
  · subst he
    obtain ⟨n', e', A'', S'', R'', h4, h5, h6⟩ := hn _ _ _ h2 (exec_same E _ _ _ _ _ _ _ h1) h3
    refine ⟨max n n' + 1, e', A'', S'', R'', ?_, h5, h6⟩
    rw [exec_succ]
    simp only [stepD]
    rw [exec_le E (Nat.le_max_left n n') _ _ _ _ h1]
    exact exec_le E (Nat.le_max_right n n') _ _ _ _ h4
  · refine ⟨n + 1, e, A', S', R', ?_, h2, ho _ _ _ he h3⟩
    rw [exec_succ]
    simp only [stepD]
    rw [h1]
    cases e <;> first | exact (he rfl).elim | rfl
theorem seqK_normal {X Y : Prop} : seqK .normal X Y = Y := rfl
theorem seqK_ne {e : Exit} (h : e ≠ .normal) {X Y : Prop} : seqK e X Y = X := by cases e <;> first | exact (h rfl).elim | rfl

/-- A loop: as long as its rounds come back to P. -/
theorem loop_sound {c : Code} {σ : Type} {I : σ → Ac → Prop} {K : Exit → Ac → St → Prop} {body : (σ → St → Prop) → σ → St → Prop}
    (hb : ∀ P x A S, I x A → body P x S → CodeW E c A S fun e R' S' => seqK e (K e R' S') (∀ A', Sub R' A' → Same (hasRF c) (asg c) A A' → ∃ x', P x' S' ∧ I x' A'))
    {x : σ} {A : Ac} {S : St} (hs : I x A) (h : loopW body x S) : CodeW E (.loop c) A S K := by
  have key := h (fun x S => ∀ A, I x A → ∃ n k e A' S' R', loopD (exec E drawD n) c k A S = some (e, A', S') ∧ Sub R' A' ∧ K e R' S') ?_ A hs
  · obtain ⟨n, k, e, A', S', R', h1, h2, h3⟩ := key
    refine ⟨max n k + 1, e, A', S', R', ?_, h2, h3⟩
    rw [exec_succ]
    simp only [stepD]
    exact loopD_le (exec_le E (Nat.le_max_left n k)) (Nat.le_max_right n k) h1
  · intro x S hx A hA
    obtain ⟨n, e, A', S', R', h1, h2, h3⟩ := hb _ x A S hA hx
    by_cases he : e = .normal
    · subst he
      obtain ⟨x', h4, h5⟩ := h3 A' h2 (exec_same E _ _ _ _ _ _ _ h1)
      obtain ⟨n', k, e, A'', S'', R'', h6, h7, h8⟩ := h4 A' h5
      refine ⟨max n n', k + 1, e, A'', S'', R'', ?_, h7, h8⟩
      simp only [loopD]
      rw [exec_le E (Nat.le_max_left n n') _ _ _ _ h1]
      exact loopD_le (exec_le E (Nat.le_max_right n n')) (Nat.le_refl k) h6
    · rw [seqK_ne he] at h3
      refine ⟨n, 1, e, A', S', R', ?_, h2, h3⟩
      simp only [loopD]
      rw [h1]
      split
      · rename_i h9; cases h9; exact (he rfl).elim
      · rfl

theorem putAll_sub : ∀ {ps : List Tmp} {vs : List Value} {A : Ac}, vs.length = ps.length → (∀ p ∈ ps, Nat.blt p A.n = true) →
    ∃ A', putAll ps vs A = some A' ∧ A' = { A with regs := layF (zipL (ps.map fun p => (p, Ty.sc .any)) vs) A.regs } := by
  intro ps
  induction ps with
  | nil => intro vs A h _; cases vs with
    | nil => exact ⟨A, rfl, rfl⟩
    | cons v vs => simp at h
  | cons p ps ih =>
    intro vs A h hp
    cases vs with
    | nil => simp at h
    | cons v vs =>
      have e : A.put (some p) v = some { A with regs := A.regs.set p v } := by simp only [Ac.put]; rw [hp p (by simp)]; rfl
      obtain ⟨A', h1, h2⟩ := ih (vs := vs) (A := { A with regs := A.regs.set p v }) (by simpa using h) (fun q hq => hp q (by simp [hq]))
      exact ⟨A', by simp only [putAll, e, Option.bind_some, h1], h2⟩
theorem layF_sub : ∀ {l : List (Tmp × Value)} {p q : PM Value}, (∀ t v, p.get t = some v → q.get t = some v) → ∀ t v, (layF l p).get t = some v → (layF l q).get t = some v := by
  intro l
  induction l with
  | nil => intro p q h; exact h
  | cons x l ih =>
    intro p q h
    refine ih (fun t v ht => ?_)
    simp only [PM.get_set] at ht ⊢
    split at ht
    · rename_i e; rw [if_pos e]; exact ht
    · rename_i e; rw [if_neg e]; exact h t v ht
theorem encs1_len {ι : Type} {T : ι → Type} {enc : ∀ i, T i → Value} : ∀ (l : List ι) (s : ι) (x : Tup1 T s l), (encs1 enc s l x).length = l.length + 1 := by
  intro l
  induction l with
  | nil => intro s x; rfl
  | cons t r ih => intro s x; simp [encs1, ih]
theorem encs_len {ι : Type} {T : ι → Type} {enc : ∀ i, T i → Value} (l : List ι) (x : Tup T l) : (encs enc l x).length = l.length := by
  cases l with
  | nil => rfl
  | cons s r => exact encs1_len r s x

/-- A round of a loop over a function. -/
theorem round_sound {l : Nat} {regs : PM Value} {N dfr : Nat} {ps : Array Tmp} {a b : Code} {vs : List Value} {S : St} {k : Bool → St → Prop} {R : Ac}
    (hS : S.heap.get l = some (.loop { state := .ready, pending := none, regs, n := N, params := ps, assign := a, body := b, dfr }))
    (hl : vs.length = ps.size) (hp : ∀ p ∈ ps.toList, Nat.blt p N = true) (hN : R.n = N) (hR : ∀ t v, R.regs.get t = some v → regs.get t = some v)
    (ha : ∀ A, Sub (parR l R ps.toList vs) A → CodeW E a A S fun e R1 S1 => seqK e False
      (S1.heap.get l = some (.loop { state := .ready, pending := none, regs, n := N, params := ps, assign := a, body := b, dfr }) ∧
        ∀ A1, Sub R1 A1 → CodeW E b A1 (S1.upd l (.loop { state := .busy, pending := none, regs, n := N, params := ps, assign := a, body := b, dfr })) fun e _ S3 =>
          endRoundW l (fun st pd => .loop { state := st, pending := pd, regs, n := N, params := ps, assign := a, body := b, dfr }) e S3 k)) :
    WV E (.func (.yield l) #[] #[]) vs S fun v S' => ∃ b, v = .bool b ∧ k b S' := by
  obtain ⟨A, hA, hA'⟩ := putAll_sub (ps := ps.toList) (vs := vs) (A := { regs := regs, n := N, defers := [], rd := some l }) (by simpa using hl) hp
  have hsub : Sub (parR l R ps.toList vs) A := by
    subst hA'
    exact ⟨hN, rfl, rfl, layF_sub hR⟩
  obtain ⟨n, e, A1, S1, R1, h1, h2, h3⟩ := ha A hsub
  have he : e = .normal := by cases e <;> first | rfl | exact h3.elim
  subst he
  obtain ⟨h4, h5⟩ := h3
  obtain ⟨n', e, A2, S3, R2, h6, h7, h8⟩ := h5 A1 h2
  obtain ⟨h9, h10⟩ := h8
  have key : ∀ (q : Value × St), endRoundD l e S3 = some q → WV E (.func (.yield l) #[] #[]) vs S fun v S' => (v, S') = q := by
    intro q hq
    refine ⟨max n n', q.1, q.2, ?_, rfl⟩
    show roundF (exec E drawD (max n n')) l vs S = some q
    simp only [roundF, hS, hA, Option.bind_some]
    rw [exec_le E (Nat.le_max_left n n') _ _ _ _ h1]
    simp only [roundBody, h4, isReady, cond_true]
    rw [exec_le E (Nat.le_max_right n n') _ _ _ _ h6]
    exact hq
  cases e with
  | normal =>
    refine (key (.bool true, S3.upd l (.loop { state := .ready, pending := none, regs, n := N, params := ps, assign := a, body := b, dfr })) (by simp only [endRoundD, h9])).mono ?_
    rintro v S' e; cases e; exact ⟨true, rfl, h10 _ rfl⟩
  | ret =>
    refine (key (.bool false, S3.upd l (.loop { state := .done, pending := some .ret, regs, n := N, params := ps, assign := a, body := b, dfr })) (by simp only [endRoundD, h9])).mono ?_
    rintro v S' e; cases e; exact ⟨false, rfl, h10 _ rfl⟩
  | exit id =>
    refine (key (.bool false, S3.upd l (.loop { state := .done, pending := some (.exit id), regs, n := N, params := ps, assign := a, body := b, dfr })) (by simp only [endRoundD, h9])).mono ?_
    rintro v S' e; cases e; exact ⟨false, rfl, h10 _ rfl⟩
  | _ => exact h10.elim

theorem endLoop_sound {l : Nat} {L : LoopState → Option Code → DObj} {regs : PM Value} {N dfr : Nat} {ps : Array Tmp} {a b : Code} {S : St} {r : Bool} {ids : List Nat} {K : Exit → St → Prop} (A : Ac)
    (hL : L = fun st pd => .loop { state := st, pending := pd, regs, n := N, params := ps, assign := a, body := b, dfr }) (h : endLoopW l L S r ids K) : ∃ e S', endLoopD l A S = some (e, A, S') ∧ K e S' := by
  subst hL
  have hx : ∀ ids, endX l (fun st pd => .loop { state := st, pending := pd, regs, n := N, params := ps, assign := a, body := b, dfr }) S K ids → ∃ e S', endLoopD l A S = some (e, A, S') ∧ K e S' := by
    intro ids
    induction ids with
    | nil => intro h; exact h.elim
    | cons id ids ih =>
      rintro (⟨h1, h2⟩ | h)
      · exact ⟨_, _, by simp only [endLoopD, h1, isBusy, cond_false], h2 _ rfl⟩
      · exact ih h
  rcases h with ⟨h1, h2⟩ | h
  · exact ⟨_, _, by simp only [endLoopD, h1, isBusy, cond_false], h2 _ rfl⟩
  · cases r with
    | false => exact hx _ h
    | true =>
      rcases h with ⟨h1, h2⟩ | h
      · exact ⟨_, _, by simp only [endLoopD, h1, isBusy, cond_false], h2 _ rfl⟩
      · exact hx _ h

theorem denC_sound : ∀ (c : Code) {h : Hn} {R A : Ac} {S : St} {K : Exit → Ac → St → Prop}, Sub R A → denC E c h R S K → CodeW E c A S K := by
  intro c
  induction c with
  | skip => intro h R A S K hs hd; exact ⟨1, .normal, A, S, R, rfl, hs, hd⟩
  | label l => intro h R A S K hs hd; exact ⟨1, .normal, A, S, R, rfl, hs, hd⟩
  | region id ops d =>
    intro h R A S K hs hd
    unfold denC at hd
    cases d with
    | false =>
      obtain ⟨n, A', S', R', h1, h2, h3⟩ := denOps_sound hs hd
      refine ⟨n + 1, .normal, A', S', R', ?_, h2, h3⟩
      rw [exec_succ]
      simp only [stepD, h1, Option.map_some]
    | true =>
      obtain ⟨l, h0, hd⟩ := wO_iff.1 hd
      obtain ⟨n, A', S', R', h1, h2, h3⟩ := denGo_sound hs hd
      refine ⟨n + 1, .normal, A', S', R', ?_, h2, h3⟩
      rw [exec_succ]
      simp only [stepD, drawD, h0, h1, Option.map_some]
  | seq a b iha ihb =>
    intro h R A S K hs hd
    unfold denC at hd
    split at hd
    · refine CodeW.seq (iha hs hd) (fun R' A' S' h1 _ h2 => ihb h1 h2) (fun e R' S' he h2 => ?_)
      rw [seqK_ne he] at h2; exact h2
    · rename_i j hj
      obtain ⟨hok, hd⟩ := needB_iff.1 hd
      refine CodeW.seq (iha hs (hd _ fun _ _ h => h)) (fun R' A' S' h1 hsame h2 => ?_) (fun e R' S' he h2 => ?_)
      · rw [seqK_normal] at h2
        obtain ⟨x, h3, h4⟩ := mkJ_sub hs h1 hsame hok h2
        exact ihb h4 h3
      · rw [seqK_ne he] at h2; exact h2
  | cond x a b iha ihb =>
    intro h R A S K hs hd
    have key : ∀ (t : Bool), A.eval E x = some (.bool t) → CodeW E (cond t a b) A S K → CodeW E (.cond x a b) A S K := by
      intro t ht hc
      obtain ⟨n, e, A', S', R', h1, h2, h3⟩ := hc
      refine ⟨n + 1, e, A', S', R', ?_, h2, h3⟩
      rw [exec_succ]
      simp only [stepD, ht, Option.bind_some, condD, h1]
    unfold denC at hd
    split at hd
    · rename_i t
      obtain ⟨v, h1, hd⟩ := wO_iff.1 hd
      obtain ⟨t', rfl, hh⟩ := boolW_iff.1 hd
      · rw [splitW_iff] at hh
        have hd := hh
        have ha := hs.get _ _ h1
        refine key t' (ev_sub hs h1) ?_
        cases t' with
        | true => exact iha (hs.say ha) hd
        | false => exact ihb (hs.say ha) hd
    · obtain ⟨v, h1, hd⟩ := wO_iff.1 hd
      obtain ⟨t', rfl, hh⟩ := boolW_iff.1 hd
      · rw [splitW_iff] at hh
        have hd := hh
        refine key t' (ev_sub hs h1) ?_
        cases t' with
        | true => exact iha hs hd
        | false => exact ihb hs hd
  | block id body ih =>
    intro h R A S K hs hd
    unfold denC at hd
    obtain ⟨n, e, A', S', R', h1, h2, h3⟩ := ih hs hd
    refine ⟨n + 1, blockE id e, A', S', R', ?_, h2, h3⟩
    rw [exec_succ]
    simp only [stepD, h1]
    cases e <;> rfl
  | loop body ih =>
    intro h R A S K hs hd
    unfold denC at hd
    split at hd
    · exact hd.elim
    · rename_i j hj
      obtain ⟨hok, hd⟩ := needB_iff.1 hd
      obtain ⟨x, h1, h2⟩ := mkJ_sub hs hs (Same.refl _ _ _) hok hd
      refine loop_sound (I := fun x A1 => Sub (mkJ j R x) A1 ∧ Same (hasRF body) (asg body) A A1) (fun P x A1 S1 hs1 hb => ?_) ⟨h2, .refl _ _ _⟩ h1
      refine (ih hs1.1 hb).mono fun e R' S' hk => ?_
      by_cases he : e = .normal
      · subst he
        rw [seqK_normal] at hk ⊢
        intro A' hA' hsame
        obtain ⟨y, h3, h4⟩ := mkJ_sub hs hA' (hs1.2.trans hsame) hok hk
        exact ⟨y, h3, h4, hs1.2.trans hsame⟩
      · rw [seqK_ne he] at hk ⊢; exact hk
  | rangeFunc f ps a b iha ihb =>
    intro h R A S K hs hd
    unfold denC at hd
    split at hd
    · exact hd.elim
    · rename_i j hj
      obtain ⟨g, hg, hd⟩ := wO_iff.1 hd
      have hg' := ev_sub hs hg
      -- the loop over g, in a state in which its record is to be laid
      have key : ∀ {S1 : St} {dfr : Nat} {K' : Nat → Exit → St → Prop} (A1 : Ac), rangeW E g S1 j.tys (fun l L x S k => hasW S l (L .ready none) (needB (Nat.beq j.var.length ps.size && ps.toList.all fun p => Nat.blt p R.n)
          (denC E a h.a (parR l R ps.toList (encs Ty.enc j.tys x)) S fun e R1 S1 => seqK e False (hasW S1 l (L .ready none) (updW S1 l (L .busy none) fun S2 =>
            denC E b h.b R1 S2 fun e _ S3 => endRoundW l L e S3 k))))) (retC b) (exitsC b) K' →
          ∃ n e S', rangeGo E (exec E drawD n) g S1.next A1 (S1.alloc (.loop { state := .ready, pending := none, regs := A.regs, n := A.n, params := ps, assign := a, body := b, dfr })).2 = some (e, A1, S') ∧ K' S1.next e S' := by
        intro S1 dfr K' A1 hr
        have hr := hr S1.next _ (fun st pd => .loop { state := st, pending := pd, regs := A.regs, n := A.n, params := ps, assign := a, body := b, dfr }) rfl rfl (fun st pd => ⟨_, rfl⟩) ?_
        · obtain ⟨f, first, cap, rfl, hp, n, v, S3, h1, h2⟩ := hr
          obtain ⟨e, S', h3, h4⟩ := endLoop_sound A1 rfl h2
          refine ⟨n, e, S', ?_, h4⟩
          unfold rangeGo
          simp only [hp]
          rw [h1]
          exact h3
        · intro x S2 k hB
          obtain ⟨hS, hB⟩ := hB
          obtain ⟨hneed, hB⟩ := needB_iff.1 hB
          rw [Bool.and_eq_true, List.all_eq_true] at hneed
          refine round_sound (R := R) hS ?_ (fun p hp => by rw [← hs.n]; exact hneed.2 p hp) hs.n hs.get (fun A2 hA2 => ?_)
          · rw [encs_len]
            have := Nat.eq_of_beq_eq_true hneed.1
            simpa [Jn.tys] using this
          · refine (iha hA2 hB).mono fun e R1 S1 hk => ?_
            by_cases he : e = .normal
            · subst he
              rw [seqK_normal] at hk ⊢
              refine ⟨hk.1, fun A3 hA3 => ?_⟩
              exact (ihb hA3 (hk.2 _ rfl)).mono fun e R' S' h => h
            · rw [seqK_ne he] at hk; exact hk.elim
      unfold rangeK at hd
      split at hd
      · rename_i hrd
        have hd := hd _ _ rfl rfl
        obtain ⟨n, e, S', h1, h2⟩ := key (dfr := S.next) { A with defers := S.next :: A.defers } hd
        have hrd' := hs.rd.symm.trans hrd
        refine ⟨n + 1, e, { A with defers := S.next :: A.defers }, S', { R with defers := S.next :: R.defers }, ?_, ⟨hs.n, hs.rd, ?_, hs.get⟩, h2⟩
        · rw [exec_succ]
          simp only [hrd'] at h1
          simp only [stepD, rangeF, hg', Option.bind_some, hrd']
          exact h1
        · show S.next :: R.defers = S.next :: A.defers
          rw [hs.dfr]
      · rename_i l hrd
        obtain ⟨⟨r, hr⟩, hd⟩ := hd
        obtain ⟨n, e, S', h1, h2⟩ := key (dfr := r.dfr) A hd
        refine ⟨n + 1, e, A, S', R, ?_, hs, h2⟩
        rw [exec_succ]
        simp only [stepD, rangeF, hg', Option.bind_some, ← hs.rd, hrd, hr]
        exact h1
  | exit id => intro h R A S K hs hd; exact ⟨1, .exit id, A, S, R, rfl, hs, hd⟩
  | scope body ih =>
    intro h R A S K hs hd
    unfold denC at hd
    obtain ⟨n, e, A', S', R', h1, h2, h3⟩ := ih hs hd
    refine ⟨n + 1, e, A', S', R', ?_, h2, ?_⟩
    · rw [exec_succ]
      simp only [stepD, h1]
      cases e <;> first | exact h3.elim | rfl
    · cases e <;> first | exact h3.elim | exact h3
  | ret => intro h R A S K hs hd; exact ⟨1, .ret, A, S, R, rfl, hs, hd⟩
  | goto l => intro h R A S K hs hd; exact hd.elim
  | refuse w => intro h R A S K hs hd; exact hd.elim

/-! ### Functions -/
theorem shutW_sound : ∀ {l : List Nat} {S : St} {K : St → Prop}, shutW l S K → ∃ S', shutD l S = some S' ∧ K S' := by
  intro l
  induction l with
  | nil => intro S K h; exact ⟨S, rfl, h⟩
  | cons d l ih =>
    intro S K h
    obtain ⟨h1, h2⟩ := h
    obtain ⟨S', h3, h4⟩ := ih (h2 _ rfl)
    exact ⟨S', by simp only [shutD, h1]; exact h3, h4⟩
theorem resW_sound {R A : Ac} {S : St} (hs : Sub R A) : ∀ {l : List ResultVar} {K : List Value → Prop}, resW E R S l K → ∃ vs, resultsD E S A l = some vs ∧ K vs := by
  intro l
  induction l with
  | nil => intro K h; exact ⟨[], rfl, h⟩
  | cons r l ih =>
    intro K h
    cases r with
    | tmp t =>
      obtain ⟨v, h1, h⟩ := wO_iff.1 h
      obtain ⟨vs, h2, h3⟩ := ih h
      refine ⟨v :: vs, ?_, h3⟩
      have : A.get t = v := by unfold Ac.get; rw [hs.get _ _ h1]; rfl
      simp only [resultsD, resultD, this, Option.bind_some, h2, Option.map_some]
    | cell a t =>
      obtain ⟨p, h1, h⟩ := wO_iff.1 h
      obtain ⟨ty, _, x, h4, h⟩ := wO_iff.1 h
      obtain ⟨vs, h2, h3⟩ := ih h
      refine ⟨ty.enc x :: vs, ?_, h3⟩
      have : A.get a = p := by unfold Ac.get; rw [hs.get _ _ h1]; rfl
      simp only [resultsD, resultD, this, h4, Option.bind_some, h2, Option.map_some]
/-- A call, by its code. -/
theorem WC_den {f : Nat} {fn : Func} {c : Code} {args : List Value} {S : St} {K : Value → St → Prop} (h : Hn) (hp : E.prim f = none) (hf : E.fn f = some fn) (hc : fn.body = some c)
    (hd : denF E h fn c args S K) : WC E f args S K := by
  obtain ⟨n, e, A', S', R', h1, h2, h3⟩ := denC_sound c (R := { regs := PM.ofList args 0 .leaf, n := args.length + (fn.ntmps - args.length), defers := [], rd := none }) (A := { regs := PM.ofList args 0 .leaf, n := args.length + (fn.ntmps - args.length), defers := [], rd := none }) ⟨rfl, rfl, rfl, fun _ _ h => h⟩ hd
  have key : ∀ X, retK e X → (e = .normal ∨ e = .ret) ∧ X := by
    intro X hX
    cases e <;> first | exact ⟨.inl rfl, hX⟩ | exact ⟨.inr rfl, hX⟩ | exact hX.elim
  obtain ⟨he, h4⟩ := key _ h3
  obtain ⟨S2, h5, h6⟩ := shutW_sound h4
  obtain ⟨vs, h7, h8⟩ := resW_sound h2 h6
  refine ⟨n, tupleD vs, S2, ?_, h8⟩
  unfold callF
  simp only [hp, hf, hc, bodyF]
  rw [h1]
  have hl : leaveD E fn A' S' = some (tupleD vs, S2) := by
    unfold leaveD
    rw [← h2.dfr, h5]
    simp only [Option.bind_some, h7, Option.map_some]
  rcases he with rfl | rfl <;> exact hl

end
end Go.Proofs.Ytcookjolkhcjhaa.D
