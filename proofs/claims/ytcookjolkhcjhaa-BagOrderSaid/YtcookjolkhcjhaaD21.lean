/-
  D, part 21: a region whose order the model draws: the theorem.
-/
import Derived.Test.YtcookjolkhcjhaaD20
namespace Go.Proofs.Ytcookjolkhcjhaa.D
set_option linter.unusedSectionVars false

theorem regs_none {ops : Array Oper} {A : Ac} {Vs : Nat → Value} {L : Nat → Bool} (hL : ∀ i, L i = false) : ∀ k, regsAt ops A Vs L k = A.regs := by
  intro k
  induction k with
  | zero => rfl
  | succ k ih =>
    simp only [regsAt, hL k, cond_false, ih]
    split <;> rfl

theorem draw_any {E : Env} {P : Program} (hE : E.Ok P) {run : Runner} (hcall : CallOk E P (callF E run)) (hround : RoundOk E P (roundF run)) (hlw : RunLw run) (hplw : PrimLw E)
    {ops : Array Oper} {md : Nat → Md} {b : PM Nat} (hP : Plan E ops b md) {A A' : Ac} {S S' : St} {As : Nat → Ac} {Ss : Nat → St} {Vs : Nat → Value} (T : Tr E run ops md A A' S S' As Ss Vs)
    {rd : Option Nat} {m0 : Mp} {S0 : St} {w0 : World} {n : Nat} {Q : Exit → Act → World → Prop}
    (hQ : ∀ L a w, (∀ i, i < ops.size → L i = true) → Stg E ops b A Ss Vs rd m0 S0 w0 L a w → Q .normal a w) :
    ∀ (fuel : Nat) (listed : Array Bool) (a : Act) (w : World), listed.size = ops.size → listed.toList.countP (fun b => !b) ≤ fuel →
      Stg E ops b A Ss Vs rd m0 S0 w0 (fun j => listed.getD j false) a w → wpAnyIn (FF rd) n P .any ops Q fuel listed a w := by
  have fin : ∀ (listed : Array Bool) (a : Act) (w : World), listed.size = ops.size → Region.ready .any ops listed = [] →
      Stg E ops b A Ss Vs rd m0 S0 w0 (fun j => listed.getD j false) a w → Q .normal a w := by
    intro listed a w hs hr hS
    refine hQ _ a w ?_ hS
    intro i
    induction i using Nat.strongRecOn with
    | ind i ih =>
      intro hi
      cases hl : listed.getD i false with
      | true => rfl
      | false =>
        exfalso
        have : i ∈ Region.ready .any ops listed := by
          rw [mem_ready]
          refine ⟨?_, ops[i], Array.getElem?_eq_getElem hi, ?_⟩
          · have hi' : i < listed.size := by omega
            simp only [Array.getD_eq_getD_getElem?, Array.getElem?_eq_getElem hi', Option.getD_some] at hl ⊢; exact hl
          · intro e he hbe
            have := hP.back i _ (Array.getElem?_eq_getElem hi) e (by simpa using he) hbe
            exact ih e.on this (by omega)
        rw [hr] at this; cases this
  intro fuel
  induction fuel with
  | zero =>
    intro listed a w hs hc hS
    have hr : Region.ready .any ops listed = [] := by
      rw [List.eq_nil_iff_forall_not_mem]
      intro i hi
      rw [mem_ready] at hi
      obtain ⟨h1, o, ho, _⟩ := hi
      have hi' : i < listed.size := by rw [hs]; exact (Array.getElem?_eq_some_iff.1 ho).1
      simp only [Array.getD_eq_getD_getElem?, Array.getElem?_eq_getElem hi', Option.getD_some] at h1
      have hc0 : listed.toList.countP (fun b => !b) = 0 := by omega
      rw [List.countP_eq_zero] at hc0
      have := hc0 listed[i] (by simp)
      rw [h1] at this; simp at this
    exact ⟨hr, fin listed a w hs hr hS⟩
  | succ fuel ih =>
    intro listed a w hs hc hS
    refine ⟨fun hr => fin listed a w hs hr hS, ?_⟩
    intro i hi
    rw [mem_ready] at hi
    obtain ⟨h1, o, ho, hafter⟩ := hi
    have hi' : i < listed.size := by rw [hs]; exact (Array.getElem?_eq_some_iff.1 ho).1
    have hlf : listed[i]? = some false := by
      simp only [Array.getD_eq_getD_getElem?, Array.getElem?_eq_getElem hi', Option.getD_some] at h1 ⊢
      rw [h1]
    refine draw_step hE hcall hround hlw hplw hP T hS ho (by simp [Array.getD_eq_getD_getElem?, hlf]) hafter ?_
    intro a' w' hS'
    refine ih _ a' w' (by simpa using hs) ?_ ?_
    · have hset := count_set listed.toList i (by simpa using hlf)
      have : (listed.setIfInBounds i true).toList = listed.toList.set i true := by simp
      rw [this]; omega
    · have : (fun j => (listed.setIfInBounds i true).getD j false) = fun j => cond (Nat.beq j i) true (listed.getD j false) := by
        funext j
        simp only [Array.getD_eq_getD_getElem?, Array.getElem?_setIfInBounds]
        by_cases hij : i = j
        · subst hij; simp [hi']
        · rw [if_neg hij, PM.beq_f (Ne.symm hij)]; rfl
      rw [this]; exact hS'

theorem drawD_ok {E : Env} {P : Program} (hE : E.Ok P) (hm : P.follows .mixedOrders = true) (hprim : PrimOk E P) (hplw : PrimLw E) : DrawOk E P drawD := by
  intro run hrun hlw ops A S A' S' h m w a rd n id Q hH hA hQ
  have hcall := callF_ok hE hrun hprim
  have hround := roundF_ok hE hrun
  unfold drawD at h
  split at h
  · rename_i l hl
    obtain ⟨b, md, hP, hlen, hget⟩ := planD_spec hl
    obtain ⟨As, Ss, Vs, g1, g2, g3, g4, g5⟩ := goD_trace l h
    rw [hlen] at g3 g4
    have T : Tr E run ops md A A' S S' As Ss Vs := ⟨g1, g2, g3, g4, fun i o ho => g5 i (o, md i) (hget i o ho)⟩
    refine wpIn_region_any hm ?_
    refine draw_any hE hcall hround hlw hplw hP T (m0 := m) (S0 := S) (w0 := w) ?_ _ _ a _ (by simp) ?_ ?_
    · rintro L a' w' hL ⟨hc, m', k, hk, hkk, hH', hA', hF'⟩
      have hse : Ss ops.size = Ss k := ss_between hP T hk (Nat.le_refl _) fun q o h1 h2 ho hko => by
        have := (hkk q o ho hko).1 (hL q h2); omega
      rw [g4] at hse
      rw [regs_all T hL ops.size (Nat.le_refl _)] at hA'
      obtain ⟨e1, e2, e3⟩ := as_same T ops.size (Nat.le_refl _)
      rw [g3] at e1 e2 e3 hA'
      have he : ({ A with regs := A'.regs } : Ac) = A' := by
        cases A; cases A'; simp_all
      rw [he] at hA'
      rw [← hse] at hH' hF'
      exact hQ a' w' m' hH' hA' hF'
    · refine Nat.le_trans List.countP_le_length ?_
      simp
    · refine ⟨?_, m, 0, Nat.zero_le _, ?_, ?_, ?_, ?_⟩
      · intro i hi hl
        exfalso; simp [Array.getD_eq_getD_getElem?, hi] at hl
      · intro i o ho hk
        have hi : i < ops.size := (Array.getElem?_eq_some_iff.1 ho).1
        simp [Array.getD_eq_getD_getElem?, hi]
      · rw [g2]; exact hH.drew
      · rw [regs_none]
        · exact hA
        · intro i
          by_cases hi : i < ops.size <;> simp [Array.getD_eq_getD_getElem?, hi]
      · rw [g2]; exact Fr.drew
  · cases h

theorem coreM_lw {E : Env} {run : Runner} {ops : Array Oper} {lim : Nat} {p : Oper × Md} {A : Ac} {S S' : St} {v : Value} (hlw : RunLw run) (hplw : PrimLw E) (h : coreM E run ops lim p A S = some (v, S')) : Lw S S' := by
  have fin : ∀ {S1 S2 : St} {v : Value}, (opD E A S1 p.1.op).bind (coreC E run) = some (v, S2) → Lw S1 S2 := by
    intro S1 S2 v h
    rw [Option.bind_eq_some_iff] at h
    obtain ⟨r, h1, h2⟩ := h
    have hr := opD_lw h1
    cases r with
    | val u S1 => cases h2; exact hr
    | skip S1 => cases h2; exact hr
    | enter f args S1 => obtain rfl := hr; exact callF_lw hlw hplw h2
    | yield l args S1 => obtain rfl := hr; exact roundF_lw hlw hplw h2
  unfold coreM at h
  cases hw : wantedD ops A p.1 with
  | false => rw [hw] at h; simp only [cond_false, Option.some.injEq, Prod.mk.injEq] at h; rw [← h.2]; exact .refl _
  | true =>
    rw [hw] at h
    simp only [cond_true] at h
    cases hm : p.2 with
    | free => rw [hm] at h; exact fin h
    | low => rw [hm] at h; obtain ⟨_, h⟩ := cond_some h; exact fin h
    | quiet =>
      rw [hm] at h
      simp only [Option.bind_eq_some_iff] at h
      obtain ⟨⟨v1, S2⟩, ⟨r, h1, h2⟩, h3⟩ := h
      obtain ⟨hle, h4⟩ := cond_some h3
      have e := Option.some.inj h4
      rw [← (Prod.mk.inj e).2]
      have hL := fin (by rw [Option.bind_eq_some_iff]; exact ⟨r, h1, h2⟩)
      have hle : lim ≤ S2.low := Nat.ble_eq.mp hle
      refine ⟨Nat.min_le_left _ _, hL.next, ?_⟩
      intro b hb1 hb2
      have hb1 : b < min S.low lim := hb1
      exact hL.same b (by omega) hb2

theorem drawD_lw : DrawLw drawD := by
  intro E run hlw hplw ops A S A' S' h
  unfold drawD at h
  split at h
  · rename_i l hl
    have key : ∀ (lim : Nat) (l : List (Oper × Md)) {A : Ac} {S : St}, goD E run ops lim l A S = some (A', S') → Lw S S' := by
      intro lim l
      induction l with
      | nil => intro A S h; cases h; exact .refl _
      | cons p l ih =>
        intro A S h
        simp only [goD] at h
        split at h
        · rename_i v S1 h1
          split at h
          · exact (coreM_lw hlw hplw h1).trans (ih h)
          · cases h
        · cases h
    exact key _ _ h
  · cases h

/-- What D's run comes to, the model's comes to. -/
theorem execD_ok {E : Env} {P : Program} (hE : E.Ok P) (hm : P.follows .mixedOrders = true) (hprim : PrimOk E P) (hplw : PrimLw E) (k : Nat) : CallOk E P (callF E (exec E drawD k)) :=
  callF_ok hE (exec_ok hE hprim hplw (drawD_ok hE hm hprim hplw) drawD_lw k) hprim

end Go.Proofs.Ytcookjolkhcjhaa.D
