/-
  D, part 24: more fuel, the same answer; what code leaves of its temporaries.
-/
import Derived.Test.YtcookjolkhcjhaaD22
namespace Go.Proofs.Ytcookjolkhcjhaa.D
set_option linter.unusedSectionVars false

def RLe (r r' : Runner) : Prop := ∀ c A S x, r c A S = some x → r' c A S = some x

section
variable {E : Env} {r r' : Runner} (hr : RLe r r')
include hr
theorem bodyF_le {fn : Func} {c : Code} {args : List Value} {S : St} {x : Value × St} (h : bodyF E r fn c args S = some x) : bodyF E r' fn c args S = some x := by
  unfold bodyF at h ⊢
  split at h
  · rename_i A S' h1; rw [hr _ _ _ _ h1]; exact h
  · rename_i A S' h1; rw [hr _ _ _ _ h1]; exact h
  · cases h
theorem callF_le {f : Nat} {args : List Value} {S : St} {x : Value × St} (h : callF E r f args S = some x) : callF E r' f args S = some x := by
  unfold callF at h ⊢
  cases hp : E.prim f with
  | some p => simp only [hp] at h ⊢; exact h
  | none =>
    simp only [hp] at h ⊢
    cases hf : E.fn f with
    | none => simp only [hf] at h; cases h
    | some fn =>
      simp only [hf] at h ⊢
      cases hb : fn.body with
      | none => simp only [hb] at h; cases h
      | some c => simp only [hb] at h ⊢; exact bodyF_le hr h
theorem roundBody_le {l : Nat} {body : Code} {A : Ac} {S : St} {x : Value × St} (h : roundBody r l body A S = some x) : roundBody r' l body A S = some x := by
  unfold roundBody at h ⊢
  split at h
  · rename_i q hq
    obtain ⟨h1, h2⟩ := cond_some h
    rw [h1]
    split at h2
    · rename_i e A' S2 h3; rw [hr _ _ _ _ h3]; exact h2
    · cases h2
  · cases h
theorem roundF_le {l : Nat} {args : List Value} {S : St} {x : Value × St} (h : roundF r l args S = some x) : roundF r' l args S = some x := by
  unfold roundF at h ⊢
  split at h
  · rename_i q hq
    rw [Option.bind_eq_some_iff] at h ⊢
    obtain ⟨A, h1, h2⟩ := h
    refine ⟨A, h1, ?_⟩
    split at h2
    · rename_i A1 S1 h3; rw [hr _ _ _ _ h3]; exact roundBody_le hr h2
    · cases h2
  · cases h
theorem contD_le {dst : Option Tmp} {A : Ac} {d : DN} {x : Ac × St} (h : contD E r dst A d = some x) : contD E r' dst A d = some x := by
  cases d with
  | val v S => exact h
  | skip S => exact h
  | enter f args S =>
    simp only [contD] at h ⊢
    rw [Option.bind_eq_some_iff] at h ⊢
    obtain ⟨p, h1, h2⟩ := h
    exact ⟨p, callF_le hr h1, h2⟩
  | yield l args S =>
    simp only [contD] at h ⊢
    rw [Option.bind_eq_some_iff] at h ⊢
    obtain ⟨p, h1, h2⟩ := h
    exact ⟨p, roundF_le hr h1, h2⟩
theorem oneD_le {ops : Array Oper} {o : Oper} {A : Ac} {S : St} {x : Ac × St} (h : oneD E r ops o A S = some x) : oneD E r' ops o A S = some x := by
  unfold oneD at h ⊢
  cases hw : wantedD ops A o with
  | false => rw [hw] at h; exact h
  | true =>
    rw [hw] at h
    simp only [cond_true] at h ⊢
    rw [Option.bind_eq_some_iff] at h ⊢
    obtain ⟨d, h1, h2⟩ := h
    exact ⟨d, h1, contD_le hr h2⟩
theorem opsD_le {ops : Array Oper} : ∀ {l : List Oper} {A : Ac} {S : St} {x : Ac × St}, opsD E r ops l A S = some x → opsD E r' ops l A S = some x := by
  intro l
  induction l with
  | nil => intro A S x h; exact h
  | cons o l ih =>
    intro A S x h
    simp only [opsD] at h ⊢
    split at h
    · rename_i A' S' h1; rw [oneD_le hr h1]; exact ih h
    · cases h
theorem loopD_le {c : Code} : ∀ {k k' : Nat} {A : Ac} {S : St} {x : Exit × Ac × St}, k ≤ k' → loopD r c k A S = some x → loopD r' c k' A S = some x := by
  intro k
  induction k with
  | zero => intro k' A S x _ h; cases h
  | succ k ih =>
    intro k' A S x hk h
    cases k' with
    | zero => omega
    | succ k' =>
      simp only [loopD] at h ⊢
      split at h
      · rename_i A' S' h1; rw [hr _ _ _ _ h1]; exact ih (by omega) h
      · rename_i h1
        rw [hr _ _ _ _ h]
        split
        · rename_i A' S' h2; cases h2; exact (h1 _ _ h).elim
        · rfl
theorem coreC_le {d : DN} {x : Value × St} (h : coreC E r d = some x) : coreC E r' d = some x := by
  cases d with
  | val v S => exact h
  | skip S => exact h
  | enter f args S => exact callF_le hr h
  | yield l args S => exact roundF_le hr h
theorem coreM_le {ops : Array Oper} {lim : Nat} {p : Oper × Md} {A : Ac} {S : St} {x : Value × St} (h : coreM E r ops lim p A S = some x) : coreM E r' ops lim p A S = some x := by
  unfold coreM at h ⊢
  cases hw : wantedD ops A p.1 with
  | false => rw [hw] at h; exact h
  | true =>
    rw [hw] at h
    simp only [cond_true] at h ⊢
    cases hm : p.2 with
    | free =>
      simp only [hm] at h ⊢
      rw [Option.bind_eq_some_iff] at h ⊢
      obtain ⟨d, h1, h2⟩ := h
      exact ⟨d, h1, coreC_le hr h2⟩
    | low =>
      simp only [hm] at h ⊢
      obtain ⟨h0, h⟩ := cond_some h
      rw [h0]
      simp only [cond_true]
      rw [Option.bind_eq_some_iff] at h ⊢
      obtain ⟨d, h1, h2⟩ := h
      exact ⟨d, h1, coreC_le hr h2⟩
    | quiet =>
      simp only [hm] at h ⊢
      rw [Option.bind_eq_some_iff] at h ⊢
      obtain ⟨q, h1, h2⟩ := h
      refine ⟨q, ?_, h2⟩
      rw [Option.bind_eq_some_iff] at h1 ⊢
      obtain ⟨d, h3, h4⟩ := h1
      exact ⟨d, h3, coreC_le hr h4⟩
theorem goD_le {ops : Array Oper} {lim : Nat} : ∀ {l : List (Oper × Md)} {A : Ac} {S : St} {x : Ac × St}, goD E r ops lim l A S = some x → goD E r' ops lim l A S = some x := by
  intro l
  induction l with
  | nil => intro A S x h; exact h
  | cons p l ih =>
    intro A S x h
    simp only [goD] at h ⊢
    split at h
    · rename_i v S' h1
      rw [coreM_le hr h1]
      simp only
      split at h
      · exact ih h
      · cases h
    · cases h
theorem drawD_le {ops : Array Oper} {A : Ac} {S : St} {x : Ac × St} (h : drawD E r ops A S = some x) : drawD E r' ops A S = some x := by
  unfold drawD at h ⊢
  split at h
  · exact goD_le hr h
  · cases h
theorem rangeGo_le {g : Value} {l : Nat} {A : Ac} {S : St} {x : Exit × Ac × St} (h : rangeGo E r g l A S = some x) : rangeGo E r' g l A S = some x := by
  unfold rangeGo at h ⊢
  split at h
  · split at h
    · cases h
    · rename_i hp
      rw [Option.bind_eq_some_iff] at h ⊢
      obtain ⟨p, h1, h2⟩ := h
      exact ⟨p, callF_le hr h1, h2⟩
  · cases h
theorem rangeF_le {f : Operand} {ps : Array Tmp} {a b : Code} {A : Ac} {S : St} {x : Exit × Ac × St} (h : rangeF E r f ps a b A S = some x) : rangeF E r' f ps a b A S = some x := by
  unfold rangeF at h ⊢
  rw [Option.bind_eq_some_iff] at h ⊢
  obtain ⟨g, h1, h2⟩ := h
  refine ⟨g, h1, ?_⟩
  cases hrd : A.rd with
  | none => simp only [hrd] at h2 ⊢; exact rangeGo_le hr h2
  | some l =>
    simp only [hrd] at h2 ⊢
    split at h2
    · exact rangeGo_le hr h2
    · cases h2
theorem stepD_le {n n' : Nat} (hn : n ≤ n') {c : Code} {A : Ac} {S : St} {x : Exit × Ac × St} (h : stepD E drawD n r c A S = some x) : stepD E drawD n' r' c A S = some x := by
  cases c with
  | skip => exact h
  | label l => exact h
  | region id ops d =>
    cases d with
    | false =>
      simp only [stepD] at h ⊢
      rw [Option.map_eq_some_iff] at h ⊢
      obtain ⟨p, h1, h2⟩ := h
      exact ⟨p, opsD_le hr h1, h2⟩
    | true =>
      simp only [stepD] at h ⊢
      rw [Option.map_eq_some_iff] at h ⊢
      obtain ⟨p, h1, h2⟩ := h
      exact ⟨p, drawD_le hr h1, h2⟩
  | seq a b =>
    simp only [stepD] at h ⊢
    cases ha : r a A S with
    | none => rw [ha] at h; cases h
    | some p =>
      obtain ⟨e, A', S'⟩ := p
      rw [ha] at h; rw [hr _ _ _ _ ha]
      cases e <;> first | exact hr _ _ _ _ h | exact h
  | cond c a b =>
    simp only [stepD] at h ⊢
    rw [Option.bind_eq_some_iff] at h ⊢
    obtain ⟨v, h1, h2⟩ := h
    refine ⟨v, h1, ?_⟩
    unfold condD at h2 ⊢
    split at h2
    · exact hr _ _ _ _ h2
    · cases h2
  | block id body =>
    simp only [stepD] at h ⊢
    cases ha : r body A S with
    | none => rw [ha] at h; cases h
    | some p => rw [ha] at h; rw [hr _ _ _ _ ha]; exact h
  | loop body => simp only [stepD] at h ⊢; exact loopD_le hr hn h
  | rangeFunc f ps a b => simp only [stepD] at h ⊢; exact rangeF_le hr h
  | exit id => exact h
  | scope body =>
    simp only [stepD] at h ⊢
    cases ha : r body A S with
    | none => rw [ha] at h; cases h
    | some p => rw [ha] at h; rw [hr _ _ _ _ ha]; exact h
  | ret => exact h
  | goto l => exact h
  | refuse w => exact h
end

theorem exec_le1 (E : Env) : ∀ n, RLe (exec E drawD n) (exec E drawD (n + 1)) := by
  intro n
  induction n with
  | zero => intro c A S x h; cases h
  | succ n ih => intro c A S x h; exact stepD_le ih (Nat.le_succ n) h
theorem exec_le (E : Env) {n n' : Nat} (h : n ≤ n') : RLe (exec E drawD n) (exec E drawD n') := by
  induction h with
  | refl => intro c A S x h; exact h
  | step _ ih => intro c A S x h; exact exec_le1 E _ c A S x (ih c A S x h)

/-! ### What code leaves of its temporaries -/
theorem cond_none {α : Type} {c : Bool} {x : Option α} {y : α} (h : cond c none x = some y) : c = false ∧ x = some y := by
  cases c
  · exact ⟨rfl, h⟩
  · cases h
def dstsO (ops : Array Oper) : List Tmp := ops.toList.filterMap (·.dst)
/-- The temporaries that code writes. -/
def asg : Code → List Tmp
  | .region _ ops _ => dstsO ops
  | .seq a b => asg a ++ asg b
  | .cond _ a b => asg a ++ asg b
  | .block _ b => asg b
  | .loop b => asg b
  | .scope b => asg b
  | _ => []
/-- Is a loop over a function in it? -/
def hasRF : Code → Bool
  | .rangeFunc _ _ _ _ => true
  | .seq a b => hasRF a || hasRF b
  | .cond _ a b => hasRF a || hasRF b
  | .block _ b => hasRF b
  | .loop b => hasRF b
  | .scope b => hasRF b
  | _ => false
/-- What is left as it was. -/
structure Same (d : Bool) (ts : List Tmp) (A A' : Ac) : Prop where
  n : A'.n = A.n
  rd : A'.rd = A.rd
  dfr : d = false → A'.defers = A.defers
  get : ∀ t, t ∉ ts → A'.regs.get t = A.regs.get t
theorem Same.refl (d : Bool) (ts : List Tmp) (A : Ac) : Same d ts A A := ⟨rfl, rfl, fun _ => rfl, fun _ _ => rfl⟩
theorem Same.trans {d : Bool} {ts : List Tmp} {A B C : Ac} (h : Same d ts A B) (k : Same d ts B C) : Same d ts A C :=
  ⟨k.n.trans h.n, k.rd.trans h.rd, fun e => (k.dfr e).trans (h.dfr e), fun t ht => (k.get t ht).trans (h.get t ht)⟩
theorem Same.mono {d d' : Bool} {ts ts' : List Tmp} {A B : Ac} (h : Same d ts A B) (h1 : d' = false → d = false) (h2 : ∀ t ∈ ts, t ∈ ts') : Same d' ts' A B :=
  ⟨h.n, h.rd, fun e => h.dfr (h1 e), fun t ht => h.get t fun hh => ht (h2 t hh)⟩
theorem put_same {A A' : Ac} {dst : Option Tmp} {v : Value} (h : A.put dst v = some A') {ts : List Tmp} (hd : ∀ t ∈ dst, t ∈ ts) : Same false ts A A' := by
  cases dst with
  | none => cases h; exact .refl _ _ _
  | some d =>
    unfold Ac.put at h
    obtain ⟨h1, h2⟩ := cond_some h
    cases h2
    refine ⟨rfl, rfl, fun _ => rfl, fun t ht => PM.get_set_ne ?_⟩
    rintro rfl; exact ht (hd _ rfl)
theorem contD_same {E : Env} {r : Runner} {dst : Option Tmp} {A A' : Ac} {S' : St} {d : DN} (h : contD E r dst A d = some (A', S')) {ts : List Tmp} (hd : ∀ t ∈ dst, t ∈ ts) : Same false ts A A' := by
  cases d with
  | val v S => simp only [contD] at h; rw [Option.map_eq_some_iff] at h; obtain ⟨a, h1, h2⟩ := h; cases h2; exact put_same h1 hd
  | skip S => simp only [contD] at h; rw [Option.map_eq_some_iff] at h; obtain ⟨a, h1, h2⟩ := h; cases h2; exact put_same h1 hd
  | enter f args S =>
    simp only [contD] at h; rw [Option.bind_eq_some_iff] at h; obtain ⟨p, _, h⟩ := h
    rw [Option.map_eq_some_iff] at h; obtain ⟨a, h1, h2⟩ := h; cases h2; exact put_same h1 hd
  | yield l args S =>
    simp only [contD] at h; rw [Option.bind_eq_some_iff] at h; obtain ⟨p, _, h⟩ := h
    rw [Option.map_eq_some_iff] at h; obtain ⟨a, h1, h2⟩ := h; cases h2; exact put_same h1 hd
theorem opsD_same {E : Env} {r : Runner} {ops : Array Oper} {ts : List Tmp} : ∀ {l : List Oper} {A A' : Ac} {S S' : St}, (∀ o ∈ l, ∀ t ∈ o.dst, t ∈ ts) → opsD E r ops l A S = some (A', S') → Same false ts A A' := by
  intro l
  induction l with
  | nil => intro A A' S S' _ h; cases h; exact .refl _ _ _
  | cons o l ih =>
    intro A A' S S' hl h
    simp only [opsD] at h
    split at h
    · rename_i B T h1
      refine Same.trans ?_ (ih (fun o ho => hl o (by simp [ho])) h)
      unfold oneD at h1
      cases hw : wantedD ops A o with
      | false =>
        rw [hw] at h1
        simp only [cond_false] at h1
        rw [Option.map_eq_some_iff] at h1; obtain ⟨a, h2, h3⟩ := h1; cases h3; exact put_same h2 (hl o (by simp))
      | true =>
        rw [hw] at h1
        simp only [cond_true] at h1
        rw [Option.bind_eq_some_iff] at h1; obtain ⟨d, _, h3⟩ := h1
        exact contD_same h3 (hl o (by simp))
    · cases h
theorem goD_same {E : Env} {r : Runner} {ops : Array Oper} {lim : Nat} {ts : List Tmp} : ∀ {l : List (Oper × Md)} {A A' : Ac} {S S' : St}, (∀ o ∈ l, ∀ t ∈ o.1.dst, t ∈ ts) → goD E r ops lim l A S = some (A', S') → Same false ts A A' := by
  intro l
  induction l with
  | nil => intro A A' S S' _ h; cases h; exact .refl _ _ _
  | cons o l ih =>
    intro A A' S S' hl h
    simp only [goD] at h
    split at h
    · split at h
      · rename_i h2
        exact (put_same h2 (hl o (by simp))).trans (ih (fun o ho => hl o (by simp [ho])) h)
      · cases h
    · cases h
theorem modesD_mem {E : Env} {ls : Nat} : ∀ {l : List Oper} {i : Nat} {p : Oper × Md}, p ∈ modesD E ls l i → p.1 ∈ l := by
  intro l
  induction l with
  | nil => intro i p h; simp [modesD] at h
  | cons o l ih =>
    intro i p h
    simp only [modesD, List.mem_cons] at h
    rcases h with rfl | h
    · simp
    · exact List.mem_cons_of_mem _ (ih h)
theorem mem_dstsO {ops : Array Oper} {o : Oper} (ho : o ∈ ops.toList) {t : Tmp} (ht : t ∈ o.dst) : t ∈ dstsO ops :=
  List.mem_filterMap.2 ⟨o, ho, ht⟩

def RSame (r : Runner) : Prop := ∀ c A S e A' S', r c A S = some (e, A', S') → Same (hasRF c) (asg c) A A'

theorem loopD_same {r : Runner} (hr : RSame r) {c : Code} : ∀ {k : Nat} {A A' : Ac} {S S' : St} {e : Exit}, loopD r c k A S = some (e, A', S') → Same (hasRF c) (asg c) A A' := by
  intro k
  induction k with
  | zero => intro A A' S S' e h; cases h
  | succ k ih =>
    intro A A' S S' e h
    simp only [loopD] at h
    split at h
    · rename_i B T h1; exact (hr _ _ _ _ _ _ h1).trans (ih h)
    · exact hr _ _ _ _ _ _ h
theorem rangeGo_same {E : Env} {r : Runner} {g : Value} {l : Nat} {A A' : Ac} {S S' : St} {e : Exit} (h : rangeGo E r g l A S = some (e, A', S')) : A' = A := by
  unfold rangeGo at h
  split at h
  · split at h
    · cases h
    · rw [Option.bind_eq_some_iff] at h
      obtain ⟨p, _, h2⟩ := h
      unfold endLoopD at h2
      split at h2
      · obtain ⟨_, h2⟩ := cond_none h2
        split at h2 <;> first | (cases h2; rfl) | cases h2
      · cases h2
  · cases h
theorem stepD_same {E : Env} {n : Nat} {r : Runner} (hr : RSame r) : RSame (stepD E drawD n r) := by
  intro c A S e A' S' h
  cases c with
  | skip => cases h; exact .refl _ _ _
  | label l => cases h; exact .refl _ _ _
  | region id ops d =>
    cases d with
    | false =>
      simp only [stepD] at h
      rw [Option.map_eq_some_iff] at h
      obtain ⟨p, h1, h2⟩ := h
      cases h2
      exact opsD_same (fun o ho t ht => mem_dstsO ho ht) h1
    | true =>
      simp only [stepD] at h
      rw [Option.map_eq_some_iff] at h
      obtain ⟨p, h1, h2⟩ := h
      cases h2
      unfold drawD at h1
      split at h1
      · rename_i l hl
        unfold planD at hl
        split at hl
        · cases hl; exact goD_same (fun o ho t ht => mem_dstsO (modesD_mem ho) ht) h1
        · cases hl
      · cases h1
  | seq a b =>
    simp only [stepD] at h
    cases ha : r a A S with
    | none => rw [ha] at h; cases h
    | some p =>
      obtain ⟨e1, B, T⟩ := p
      rw [ha] at h
      have h1 : Same (hasRF (.seq a b)) (asg (.seq a b)) A B := (hr _ _ _ _ _ _ ha).mono (by simp [hasRF]; exact fun h _ => h) (by simp [asg]; exact fun t h => .inl h)
      cases e1 <;> first
        | exact h1.trans ((hr _ _ _ _ _ _ h).mono (by simp [hasRF]) (by simp [asg]; exact fun t h => .inr h))
        | (cases h; exact h1)
  | cond c a b =>
    simp only [stepD] at h
    rw [Option.bind_eq_some_iff] at h
    obtain ⟨v, hv, h2⟩ := h
    clear hv
    unfold condD at h2
    split at h2
    · rename_i t
      cases t
      · exact (hr _ _ _ _ _ _ h2).mono (by simp [hasRF]) (by simp [asg]; exact fun t h => .inr h)
      · exact (hr _ _ _ _ _ _ h2).mono (by simp [hasRF]; exact fun h _ => h) (by simp [asg]; exact fun t h => .inl h)
    · cases h2
  | block id body =>
    simp only [stepD] at h
    cases ha : r body A S with
    | none => rw [ha] at h; cases h
    | some p =>
      obtain ⟨e1, B, T⟩ := p
      rw [ha] at h
      have h1 := hr _ _ _ _ _ _ ha
      cases e1 <;> (cases h; exact h1)
  | loop body => simp only [stepD] at h; exact (loopD_same hr h).mono (fun e => e) (fun _ e => e)
  | rangeFunc f ps a b =>
    simp only [stepD] at h
    unfold rangeF at h
    rw [Option.bind_eq_some_iff] at h
    obtain ⟨g, _, h2⟩ := h
    cases hrd : A.rd with
    | none =>
      simp only [hrd] at h2
      have := rangeGo_same h2
      subst this
      exact ⟨rfl, hrd.symm, by simp [hasRF], fun _ _ => rfl⟩
    | some l =>
      simp only [hrd] at h2
      split at h2
      · have := rangeGo_same h2
        subst this
        exact .refl _ _ _
      · cases h2
  | exit id => cases h; exact .refl _ _ _
  | scope body =>
    simp only [stepD] at h
    cases ha : r body A S with
    | none => rw [ha] at h; cases h
    | some p =>
      obtain ⟨e1, B, T⟩ := p
      rw [ha] at h
      have h1 := hr _ _ _ _ _ _ ha
      cases e1 <;> first | (cases h; exact h1) | cases h
  | ret => cases h; exact .refl _ _ _
  | goto l => cases h
  | refuse w => cases h
theorem exec_same (E : Env) : ∀ n, RSame (exec E drawD n) := by
  intro n
  induction n with
  | zero => intro c A S e A' S' h; cases h
  | succ n ih => intro c A S e A' S' h; exact stepD_same ih _ _ _ _ _ _ h

end Go.Proofs.Ytcookjolkhcjhaa.D
