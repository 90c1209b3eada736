/-
  D, part 17: which blocks a run writes; what an operation looks at.
-/
import Derived.Test.YtcookjolkhcjhaaD13
namespace Go.Proofs.Ytcookjolkhcjhaa.D
set_option linter.unusedSectionVars false

/-! ### What is written -/
/-- Blocks below the mark 'low' are as they were. -/
structure Lw (S S' : St) : Prop where
  low : S'.low ≤ S.low
  next : S.next ≤ S'.next
  same : ∀ b, b < S'.low → b < S.next → S'.heap.get b = S.heap.get b
namespace Lw
theorem refl (S : St) : Lw S S := ⟨Nat.le_refl _, Nat.le_refl _, fun _ _ _ => rfl⟩
theorem trans {A B C : St} (h : Lw A B) (k : Lw B C) : Lw A C :=
  ⟨Nat.le_trans k.low h.low, Nat.le_trans h.next k.next, fun b h1 h2 => (k.same b h1 (Nat.lt_of_lt_of_le h2 h.next)).trans (h.same b (Nat.lt_of_lt_of_le h1 k.low) h2)⟩
theorem alloc (S : St) (o : DObj) : Lw S (S.alloc o).2 :=
  ⟨Nat.le_refl _, Nat.le_succ _, fun b _ h2 => by simp only [St.alloc]; rw [PM.get_set_ne (by omega)]⟩
theorem upd (S : St) (b : Nat) (o : DObj) : Lw S (S.upd b o) := by
  refine ⟨?_, Nat.le_refl _, ?_⟩
  · simp only [St.upd]
    cases h : Nat.blt b S.low with
    | true => exact Nat.le_of_lt (Nat.blt_eq.mp h)
    | false => exact Nat.le_refl _
  · intro c h1 _
    simp only [St.upd] at h1 ⊢
    rw [PM.get_set_ne]
    intro e
    subst e
    cases h : Nat.blt c S.low with
    | true => rw [h] at h1; simp at h1
    | false =>
      rw [h] at h1
      simp only [cond_false] at h1
      have := Nat.blt_eq.mpr h1
      rw [this] at h; cases h
theorem storeN {S S' : St} {b o : Nat} {vs : List Value} (h : S.storeN b o vs = some S') : Lw S S' := by
  unfold St.storeN at h
  split at h
  · obtain ⟨_, h⟩ := cond_some h; cases h; exact upd _ _ _
  · cases h
end Lw

theorem storeV_lw {E : Env} {S S' : St} {t : TypeId} {a v : Value} (h : storeV E S t a v = some S') : Lw S S' := by
  unfold storeV at h
  split at h
  · split at h
    · obtain ⟨_, h⟩ := cond_some h; exact Lw.storeN h
    · cases h
  · cases h
theorem buildSliceD_lw {E : Env} {S S' : St} {t : TypeId} {n : Nat} {ps : List (Nat × Value)} {v : Value} (h : buildSliceD E S t n ps = some (v, S')) : Lw S S' := by
  unfold buildSliceD at h
  split at h
  · split at h
    · rw [Option.bind_eq_some_iff] at h
      obtain ⟨z, _, h⟩ := h
      obtain ⟨_, h⟩ := cond_some h
      rw [Option.map_eq_some_iff] at h
      obtain ⟨l, _, h⟩ := h
      cases h; exact Lw.alloc _ _
    · cases h
  · cases h
theorem makeSliceD_lw {E : Env} {S S' : St} {t : TypeId} {l c : Value} {v : Value} (h : makeSliceD E S t l c = some (v, S')) : Lw S S' := by
  unfold makeSliceD at h
  split at h
  · split at h
    · rw [Option.bind_eq_some_iff] at h
      obtain ⟨z, _, h⟩ := h
      obtain ⟨_, h⟩ := cond_some h
      cases h; exact Lw.alloc _ _
    · cases h
  · cases h
theorem convertD_lw {E : Env} {S S' : St} {s t : TypeId} {x v : Value} (h : convertD E S s t x = some (v, S')) : Lw S S' := by
  unfold convertD at h
  split at h
  · cases h; exact .refl _
  · cases h; exact .refl _
  · split at h
    · obtain ⟨_, h⟩ := cond_some h; cases h; exact Lw.alloc _ _
    · cases h
  · split at h
    · split at h
      · cases h; exact .refl _
      · simp only [Option.bind_eq_some_iff, Option.map_eq_some_iff] at h
        obtain ⟨_, _, _, _, h⟩ := h
        cases h; exact .refl _
      · cases h
    · cases h
  · obtain ⟨_, h⟩ := cond_some h
    split at h
    · cases h; exact Lw.upd _ _ _
    · cases h
  · cases h
theorem mapUpdateD_lw {E : Env} {S S' : St} {t : TypeId} {m k v : Value} (h : mapUpdateD E S t m k v = some S') : Lw S S' := by
  unfold mapUpdateD at h
  split at h
  · obtain ⟨_, h⟩ := cond_some h
    unfold mapPut at h
    split at h
    · rw [Option.bind_eq_some_iff] at h
      obtain ⟨f, _, h⟩ := h
      split at h
      · obtain ⟨_, h⟩ := cond_some h; cases h; exact Lw.upd _ _ _
      · cases h; exact Lw.upd _ _ _
    · cases h
  · cases h
theorem mapEntryD_lw {E : Env} {S S' : St} {t : TypeId} {m k v : Value} (h : mapEntryD E S t m k = some (v, S')) : Lw S S' := by
  unfold mapEntryD at h
  split at h
  · obtain ⟨_, h⟩ := cond_some h
    split at h
    · rw [Option.bind_eq_some_iff] at h
      obtain ⟨f, _, h⟩ := h
      split at h
      · obtain ⟨_, h⟩ := cond_some h; cases h; exact Lw.upd _ _ _
      · rw [Option.map_eq_some_iff] at h
        obtain ⟨z, _, h⟩ := h
        cases h; exact Lw.upd _ _ _
    · cases h
  · cases h
theorem entryStoreD_lw {S S' : St} {m s v : Value} (h : entryStoreD S m s v = some S') : Lw S S' := by
  unfold entryStoreD at h
  split at h
  · split at h
    · rw [Option.map_eq_some_iff] at h
      obtain ⟨i, _, h⟩ := h
      cases h; exact Lw.upd _ _ _
    · cases h
  · cases h
theorem appendD_lw {E : Env} {S S' : St} {t u : TypeId} {s x v : Value} (h : appendD E S t u s x = some (v, S')) : Lw S S' := by
  unfold appendD at h
  split at h
  · split at h
    · obtain ⟨_, h⟩ := cond_some h
      simp only [Option.bind_eq_some_iff] at h
      obtain ⟨z, _, n, _, new, _, h⟩ := h
      obtain ⟨_, h⟩ := cond_some h
      split at h
      · cases hb : Nat.beq n 0 with
        | true => rw [hb] at h; cases h; exact .refl _
        | false => rw [hb] at h; cases h; exact Lw.alloc _ _
      · cases hb : Nat.beq n 0 with
        | true => rw [hb] at h; cases h; exact .refl _
        | false =>
          rw [hb] at h
          simp only [cond_false] at h
          revert h
          generalize Nat.beq _ inex = q
          intro h
          cases q with
          | true =>
            simp only [cond_true] at h
            split at h
            · obtain ⟨_, h⟩ := cond_some h
              revert h
              generalize Nat.ble _ _ = q2
              intro h
              cases q2 with
              | true =>
                simp only [cond_true, Option.map_eq_some_iff] at h
                obtain ⟨S2, h1, h2⟩ := h
                cases h2; exact Lw.storeN h1
              | false =>
                obtain ⟨_, h⟩ := cond_some h
                cases h
                exact (Lw.upd _ _ _).trans (Lw.alloc _ _)
            · cases h
          | false =>
            simp only [cond_false] at h
            revert h
            generalize Nat.ble _ _ = q2
            intro h
            cases q2 with
            | true =>
              simp only [cond_true, Option.map_eq_some_iff] at h
              obtain ⟨S2, h1, h2⟩ := h
              cases h2; exact Lw.storeN h1
            | false =>
              simp only [cond_false, Option.map_eq_some_iff] at h
              obtain ⟨old, h1, h2⟩ := h
              cases h2; exact Lw.alloc _ _
      · cases h
    · cases h
  · cases h
theorem copyD_lw {E : Env} {S S' : St} {t : TypeId} {d x v : Value} (h : copyD E S t d x = some (v, S')) : Lw S S' := by
  unfold copyD at h
  split at h
  · split at h
    · simp only [Option.bind_eq_some_iff] at h
      obtain ⟨xl, _, new, _, h⟩ := h
      split at h
      · cases h; exact .refl _
      · cases hb : new.isEmpty with
        | true => rw [hb] at h; cases h; exact .refl _
        | false =>
          rw [hb] at h
          simp only [cond_false, Option.map_eq_some_iff] at h
          obtain ⟨S2, h1, h2⟩ := h
          cases h2; exact Lw.storeN h1
      · cases h
    · cases h
  · cases h
theorem deleteD_lw {E : Env} {S S' : St} {t : TypeId} {m k : Value} (h : deleteD E S t m k = some S') : Lw S S' := by
  unfold deleteD at h
  split at h
  · obtain ⟨_, h⟩ := cond_some h; cases h; exact .refl _
  · obtain ⟨_, h⟩ := cond_some h
    split at h
    · rw [Option.map_eq_some_iff] at h
      obtain ⟨f, _, h⟩ := h
      subst h
      split <;> exact Lw.upd _ _ _
    · cases h
  · cases h
theorem clearD_lw {E : Env} {S S' : St} {t : TypeId} {x : Value} (h : clearD E S t x = some S') : Lw S S' := by
  unfold clearD at h
  split at h
  · cases h; exact .refl _
  · split at h
    · cases h; exact Lw.upd _ _ _
    · cases h
  · cases h; exact .refl _
  · split at h
    · rw [Option.bind_eq_some_iff] at h
      obtain ⟨z, _, h⟩ := h
      rename_i n _ _ _ _ _
      revert h
      generalize Nat.beq _ 0 = q
      intro h
      cases q with
      | true => cases h; exact .refl _
      | false => exact Lw.storeN h
    · cases h
  · cases h
theorem builtinD_lw {E : Env} {S S' : St} {b : Builtin} {ts : Array TypeId} {args : List Value} {v : Value} (h : builtinD E S b ts args = some (v, S')) : Lw S S' := by
  unfold builtinD at h
  split at h <;> (try simp only [Option.bind_eq_some_iff, Option.map_eq_some_iff] at h)
  · obtain ⟨_, _, _, _, h⟩ := h; cases h; exact .refl _
  · obtain ⟨_, _, _, _, h⟩ := h; cases h; exact .refl _
  · obtain ⟨_, _, _, _, h⟩ := h; exact appendD_lw h
  · obtain ⟨_, _, h⟩ := h; exact copyD_lw h
  · obtain ⟨_, _, _, h1, h⟩ := h; cases h; exact deleteD_lw h1
  · obtain ⟨_, _, _, h1, h⟩ := h; cases h; exact clearD_lw h1
  · obtain ⟨_, _, h⟩ := h; cases h; exact .refl _
  · obtain ⟨_, _, h⟩ := h; cases h; exact .refl _
  · cases h

def DN.lw (S : St) : DN → Prop
  | .val _ S' => Lw S S'
  | .skip S' => Lw S S'
  | .enter _ _ S' => S' = S
  | .yield _ _ S' => S' = S
theorem lw_ofV {S : St} {x : Option Value} {r : DN} (h : ofV S x = some r) : r.lw S := by
  unfold ofV at h; rw [Option.map_eq_some_iff] at h; obtain ⟨v, _, rfl⟩ := h; exact Lw.refl _
theorem lw_ofP {S : St} {x : Option (Value × St)} {r : DN} (h : ofP x = some r) (hx : ∀ v S', x = some (v, S') → Lw S S') : r.lw S := by
  unfold ofP at h; rw [Option.map_eq_some_iff] at h; obtain ⟨⟨v, S'⟩, h1, rfl⟩ := h; exact hx v S' h1
theorem lw_ofS {S : St} {x : Option St} {r : DN} (h : ofS x = some r) (hx : ∀ S', x = some S' → Lw S S') : r.lw S := by
  unfold ofS at h; rw [Option.map_eq_some_iff] at h; obtain ⟨S', h1, rfl⟩ := h; exact hx S' h1
theorem opD_lw {E : Env} {A : Ac} {S : St} {o : Op} {r : DN} (h : opD E A S o = some r) : r.lw S := by
  cases o <;> simp only [opD, Option.bind_eq_some_iff, Option.map_eq_some_iff] at h
  case move => exact lw_ofV h
  case assign => exact lw_ofV h
  case pick => obtain ⟨_, _, h⟩ := h; exact lw_ofV h
  case alloc => obtain ⟨_, _, rfl⟩ := h; exact Lw.alloc _ _
  case box => obtain ⟨_, _, rfl⟩ := h; exact Lw.alloc _ _
  case build => obtain ⟨_, _, h⟩ := h; exact lw_ofV h
  case buildSlice => obtain ⟨_, _, h⟩ := h; exact lw_ofP h fun _ _ => buildSliceD_lw
  case load => obtain ⟨_, _, h⟩ := h; exact lw_ofV h
  case store => obtain ⟨_, _, _, _, h⟩ := h; exact lw_ofS h fun _ => storeV_lw
  case nilCheck => obtain ⟨_, _, h⟩ := h; exact lw_ofV h
  case binOp => obtain ⟨_, _, _, _, h⟩ := h; exact lw_ofV h
  case unOp => obtain ⟨_, _, h⟩ := h; exact lw_ofV h
  case convert => obtain ⟨_, _, h⟩ := h; exact lw_ofP h fun _ _ => convertD_lw
  case makeInterface => obtain ⟨_, _, h⟩ := h; exact lw_ofV h
  case makeFunc => obtain ⟨_, _, _, _, h⟩ := h; obtain ⟨_, h⟩ := cond_some h; cases h; exact Lw.refl _
  case makeMap => obtain ⟨_, _, h⟩ := h; obtain ⟨_, h⟩ := cond_some h; cases h; exact Lw.alloc _ _
  case makeSlice => obtain ⟨_, _, _, _, h⟩ := h; exact lw_ofP h fun _ _ => makeSliceD_lw
  case slice => obtain ⟨_, _, _, _, _, _, _, _, h⟩ := h; exact lw_ofV h
  case fieldAddr => obtain ⟨_, _, h⟩ := h; exact lw_ofV h
  case field => obtain ⟨_, _, h⟩ := h; exact lw_ofV h
  case indexAddr => obtain ⟨_, _, _, _, h⟩ := h; exact lw_ofV h
  case index => obtain ⟨_, _, _, _, h⟩ := h; exact lw_ofV h
  case lookup => obtain ⟨_, _, _, _, h⟩ := h; exact lw_ofV h
  case mapUpdate => obtain ⟨_, _, _, _, _, _, h⟩ := h; exact lw_ofS h fun _ => mapUpdateD_lw
  case insert => obtain ⟨_, _, _, _, _, _, h⟩ := h; exact lw_ofS h fun _ => mapUpdateD_lw
  case mapEntry => obtain ⟨_, _, _, _, h⟩ := h; exact lw_ofP h fun _ _ => mapEntryD_lw
  case entryStore => obtain ⟨_, _, _, _, _, _, h⟩ := h; exact lw_ofS h fun _ => entryStoreD_lw
  case extract => obtain ⟨_, _, h⟩ := h; exact lw_ofV h
  case call c =>
    unfold callD at h
    rw [Option.bind_eq_some_iff] at h
    obtain ⟨args, _, h⟩ := h
    split at h
    · exact lw_ofP h fun _ _ => builtinD_lw
    · rw [Option.bind_eq_some_iff] at h
      obtain ⟨f, _, h⟩ := h
      unfold calleeD at h
      split at h
      · cases h; rfl
      · cases h; rfl
      · cases h
    · cases h
  all_goals cases h

def RunLw (run : Runner) : Prop := ∀ c A S ex A' S', run c A S = some (ex, A', S') → Lw S S'
def PrimLw (E : Env) : Prop := ∀ f p, E.prim f = some p → ∀ args S v S', p args S = some (v, S') → Lw S S'
def DrawLw (draw : Draw) : Prop := ∀ E run, RunLw run → PrimLw E → ∀ ops A S A' S', draw E run ops A S = some (A', S') → Lw S S'

section
variable {E : Env} {run : Runner} (hrun : RunLw run) (hprim : PrimLw E)
include hrun hprim
theorem shutD_lw : ∀ {ds : List Nat} {S S' : St}, shutD ds S = some S' → Lw S S' := by
  intro ds
  induction ds with
  | nil => intro S S' h; cases h; exact .refl _
  | cons d ds ih =>
    intro S S' h
    simp only [shutD] at h
    split at h
    · exact (Lw.upd _ _ _).trans (ih h)
    · cases h
theorem callF_lw {f : Nat} {args : List Value} {S S' : St} {v : Value} (h : callF E run f args S = some (v, S')) : Lw S S' := by
  unfold callF at h
  split at h
  · rename_i p hp; exact hprim f p hp args S v S' h
  · split at h
    · split at h
      · unfold bodyF at h
        have key : ∀ {fn A S1}, Lw S S1 → leaveD E fn A S1 = some (v, S') → Lw S S' := by
          intro fn A S1 h1 h2
          unfold leaveD at h2
          simp only [Option.bind_eq_some_iff, Option.map_eq_some_iff] at h2
          obtain ⟨S2, h3, vs, _, h4⟩ := h2
          cases h4
          exact h1.trans (shutD_lw hrun hprim h3)
        split at h
        · rename_i A S1 h1; exact key (hrun _ _ _ _ _ _ h1) h
        · rename_i A S1 h1; exact key (hrun _ _ _ _ _ _ h1) h
        · cases h
      · cases h
    · cases h
theorem endRoundD_lw {l : Nat} {e : Exit} {S S' : St} {v : Value} (h : endRoundD l e S = some (v, S')) : Lw S S' := by
  unfold endRoundD at h
  split at h
  · split at h <;> first | (cases h; exact Lw.upd _ _ _) | cases h
  · cases h
theorem roundF_lw {l : Nat} {args : List Value} {S S' : St} {v : Value} (h : roundF run l args S = some (v, S')) : Lw S S' := by
  unfold roundF at h
  split at h
  · rw [Option.bind_eq_some_iff] at h
    obtain ⟨A, _, h⟩ := h
    split at h
    · rename_i A1 S1 h1
      have g1 := hrun _ _ _ _ _ _ h1
      unfold roundBody at h
      split at h
      · obtain ⟨_, h⟩ := cond_some h
        split at h
        · rename_i e A2 S2 h2
          exact g1.trans ((Lw.upd _ _ _).trans ((hrun _ _ _ _ _ _ h2).trans (endRoundD_lw hrun hprim h)))
        · cases h
      · cases h
    · cases h
  · cases h
theorem contD_lw {dst : Option Tmp} {A A' : Ac} {S S' : St} {r : DN} (hr : r.lw S) (h : contD E run dst A r = some (A', S')) : Lw S S' := by
  cases r with
  | val v S1 =>
    simp only [contD, Option.map_eq_some_iff] at h
    obtain ⟨_, _, h⟩ := h; cases h; exact hr
  | skip S1 =>
    simp only [contD, Option.map_eq_some_iff] at h
    obtain ⟨_, _, h⟩ := h; cases h; exact hr
  | enter f args S1 =>
    obtain rfl := hr
    simp only [contD, Option.bind_eq_some_iff, Option.map_eq_some_iff] at h
    obtain ⟨⟨v, S2⟩, h1, _, _, h⟩ := h; cases h; exact callF_lw hrun hprim h1
  | yield l args S1 =>
    obtain rfl := hr
    simp only [contD, Option.bind_eq_some_iff, Option.map_eq_some_iff] at h
    obtain ⟨⟨v, S2⟩, h1, _, _, h⟩ := h; cases h; exact roundF_lw hrun hprim h1
theorem oneD_lw {ops : Array Oper} {o : Oper} {A A' : Ac} {S S' : St} (h : oneD E run ops o A S = some (A', S')) : Lw S S' := by
  unfold oneD at h
  cases hw : wantedD ops A o with
  | true =>
    rw [hw] at h
    simp only [cond_true, Option.bind_eq_some_iff] at h
    obtain ⟨r, h1, h2⟩ := h
    exact contD_lw hrun hprim (opD_lw h1) h2
  | false =>
    rw [hw] at h
    simp only [cond_false, Option.map_eq_some_iff] at h
    obtain ⟨_, _, h⟩ := h; cases h; exact .refl _
theorem opsD_lw {ops : Array Oper} : ∀ {l : List Oper} {A A' : Ac} {S S' : St}, opsD E run ops l A S = some (A', S') → Lw S S' := by
  intro l
  induction l with
  | nil => intro A A' S S' h; cases h; exact .refl _
  | cons o l ih =>
    intro A A' S S' h
    simp only [opsD] at h
    split at h
    · rename_i A1 S1 h1; exact (oneD_lw hrun hprim h1).trans (ih h)
    · cases h
theorem loopD_lw {c : Code} : ∀ {k : Nat} {A A' : Ac} {S S' : St} {ex : Exit}, loopD run c k A S = some (ex, A', S') → Lw S S' := by
  intro k
  induction k with
  | zero => intro A A' S S' ex h; cases h
  | succ k ih =>
    intro A A' S S' ex h
    unfold loopD at h
    split at h
    · rename_i A1 S1 h1; exact (hrun _ _ _ _ _ _ h1).trans (ih h)
    · exact hrun _ _ _ _ _ _ h
theorem rangeGo_lw {g : Value} {l : Nat} {A A' : Ac} {S S' : St} {ex : Exit} (h : rangeGo E run g l A S = some (ex, A', S')) : Lw S S' := by
  unfold rangeGo at h
  split at h
  · split at h
    · cases h
    · rw [Option.bind_eq_some_iff] at h
      obtain ⟨⟨v, S1⟩, h1, h2⟩ := h
      refine (callF_lw hrun hprim h1).trans ?_
      unfold endLoopD at h2
      split at h2
      · revert h2
        generalize isBusy _ = q
        intro h2
        cases q with
        | true => cases h2
        | false =>
          simp only [cond_false] at h2
          split at h2 <;> first | (cases h2; exact Lw.upd _ _ _) | cases h2
      · cases h2
  · cases h
theorem rangeF_lw {f : Operand} {ps : Array Tmp} {assign body : Code} {A A' : Ac} {S S' : St} {ex : Exit} (h : rangeF E run f ps assign body A S = some (ex, A', S')) : Lw S S' := by
  unfold rangeF at h
  rw [Option.bind_eq_some_iff] at h
  obtain ⟨g, _, h⟩ := h
  split at h
  · exact ((Lw.alloc _ _).trans (Lw.alloc _ _)).trans (rangeGo_lw hrun hprim h)
  · split at h
    · exact (Lw.alloc _ _).trans (rangeGo_lw hrun hprim h)
    · cases h
end
theorem stepD_lw {E : Env} {draw : Draw} (hdraw : DrawLw draw) (hprim : PrimLw E) {run : Runner} (hrun : RunLw run) (k : Nat) : RunLw (stepD E draw k run) := by
  intro c A S ex A' S' h
  cases c with
  | skip => cases h; exact .refl _
  | label _ => cases h; exact .refl _
  | region id ops dr =>
    cases dr with
    | false =>
      simp only [stepD, Option.map_eq_some_iff] at h
      obtain ⟨⟨A1, S1⟩, h1, h2⟩ := h
      cases h2; exact opsD_lw hrun hprim h1
    | true =>
      simp only [stepD, Option.map_eq_some_iff] at h
      obtain ⟨⟨A1, S1⟩, h1, h2⟩ := h
      cases h2; exact hdraw E run hrun hprim _ _ _ _ _ h1
  | seq x y =>
    simp only [stepD] at h
    cases h1 : run x A S with
    | none => rw [h1] at h; cases h
    | some p =>
      obtain ⟨e1, A1, S1⟩ := p
      rw [h1] at h
      cases e1 with
      | normal => exact (hrun _ _ _ _ _ _ h1).trans (hrun _ _ _ _ _ _ h)
      | _ => cases h; exact hrun _ _ _ _ _ _ h1
  | cond c x y =>
    simp only [stepD, Option.bind_eq_some_iff] at h
    obtain ⟨v, _, h2⟩ := h
    unfold condD at h2
    split at h2
    · exact hrun _ _ _ _ _ _ h2
    · cases h2
  | block id b =>
    simp only [stepD] at h
    cases h1 : run b A S with
    | none => rw [h1] at h; cases h
    | some p =>
      obtain ⟨e1, A1, S1⟩ := p
      rw [h1] at h
      have := hrun _ _ _ _ _ _ h1
      cases e1 <;> (cases h; exact this)
  | loop b => exact loopD_lw hrun hprim h
  | rangeFunc f ps x y => exact rangeF_lw hrun hprim h
  | exit id => cases h; exact .refl _
  | scope b =>
    simp only [stepD] at h
    cases h1 : run b A S with
    | none => rw [h1] at h; cases h
    | some p =>
      obtain ⟨e1, A1, S1⟩ := p
      rw [h1] at h
      have := hrun _ _ _ _ _ _ h1
      cases e1 <;> first | (cases h; done) | (cases h; exact this)
  | ret => cases h; exact .refl _
  | goto _ => cases h
  | refuse _ => cases h
theorem exec_lw {E : Env} {draw : Draw} (hdraw : DrawLw draw) (hprim : PrimLw E) : ∀ k, RunLw (exec E draw k) := by
  intro k
  induction k with
  | zero => intro c A S ex A' S' h; cases h
  | succ k ih => exact stepD_lw hdraw hprim ih k

end Go.Proofs.Ytcookjolkhcjhaa.D
