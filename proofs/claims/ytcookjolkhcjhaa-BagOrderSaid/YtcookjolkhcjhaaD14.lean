/-
  D, part 14: code, calls, rounds: what D's run comes to, the model's comes to.
-/
import Derived.Test.YtcookjolkhcjhaaD17
namespace Go.Proofs.Ytcookjolkhcjhaa.D
set_option linter.unusedSectionVars false

/-- The fence that lets everything in, in a round of the loop 'rd'. -/
def FF (rd : Option Nat) : Fence := { Fence.wide with round := rd }
@[simp] theorem FF_round (rd : Option Nat) : (FF rd).round = rd := rfl
theorem FF_fn (rd : Option Nat) (f : FuncId) : (FF rd).fn f := trivial
theorem FF_depth (rd : Option Nat) {n : Nat} : (FF rd).depth.isSome = true → 1 ≤ n := by simp [FF, Fence.wide]
theorem callsIn_FF {rd : Option Nat} {n : Nat} {P : Program} {f : FuncId} {args : Array Value} {w : World} {R : Ending → World → Prop} (h : CallsIn (FF none) n P f args w R) :
    CallsIn (FF rd) n P f args w R := h

section moves
variable {P : Program} {b : Frame} {a : Act} {k : List Item} {cs : List Frame} {w : World} {F : Fence} {n : Nat} {Q : Exit → Act → World → Prop}
theorem stepR_scope {c : Code} : step P (lone (b.atR a (.code (.scope c) :: k)) cs w) = .next (lone (b.atR a (.code c :: .inScope c :: k)) cs w) :=
  step_lone_go (by simp [stepG, stepG.exec, Frame.atR])
theorem stepR_inScope {c : Code} : step P (lone (b.atR a (.inScope c :: k)) cs w) = .next (lone (b.atR a k) cs w) :=
  step_lone_go (by simp [stepG, stepG.exec, Frame.atR])
/-- A way out, but for a goto. -/
def noGo (Q : Exit → Act → World → Prop) : Exit → Act → World → Prop
  | .goto _, _, _ => False
  | e, a, w => Q e a w
theorem wpIn_scope {c : Code} (h : c.wpIn F n P (noGo Q) a w) : (Code.scope c).wpIn F n P Q a w := by
  intro b k cs hro hb hr
  have h0 : (lone (b.atR a (.code (.scope c) :: k)) cs w).fenced P F := fenced_calm hb hr rfl
  obtain ⟨e, a₁, w₁, hq, harr⟩ := h b (.inScope c :: k) cs hro hb hr
  cases e with
  | normal => exact ⟨.normal, a₁, w₁, hq, .head h0 stepR_scope (StepsIn.trans harr (.one (fenced_calm hb hr rfl) stepR_inScope))⟩
  | exit id =>
    have hx : exitTo id (.inScope c :: k) = exitTo id k := by simp [exitTo]
    exact ⟨.exit id, a₁, w₁, hq, fun k' hk => .head h0 stepR_scope (harr.1 k' (by rw [hx]; exact hk)),
      fun hr' hk => let ⟨k₁, h1, h2⟩ := harr.2 hr' (by rw [hx]; exact hk); ⟨k₁, h1, .head h0 stepR_scope h2⟩⟩
  | goto l => exact hq.elim
  | ret => exact ⟨.ret, a₁, w₁, hq, .of_steps (b := b) (k := k) (cs := cs) (e := .ret) (.one h0 stepR_scope) harr⟩
  | panic ch => exact ⟨.panic ch, a₁, w₁, hq, .of_steps (b := b) (k := k) (cs := cs) (e := .panic ch) (.one h0 stepR_scope) harr⟩
  | outgrown => exact ⟨.outgrown, a₁, w₁, hq, .of_steps (b := b) (k := k) (cs := cs) (e := .outgrown) (.one h0 stepR_scope) harr⟩
end moves

/-! ### The claims -/
def RunOk (E : Env) (P : Program) (run : Runner) : Prop :=
  ∀ c A S ex A' S', run c A S = some (ex, A', S') → ∀ m w a rd n (Q : Exit → Act → World → Prop), HR E m S w → AR E m A a rd →
    (∀ a' w' m', HR E m' S' w' → AR E m' A' a' rd → Fr m S w m' S' w' → Q ex a' w') → c.wpIn (FF rd) n P Q a w
def CallOk (E : Env) (P : Program) (call : Nat → List Value → St → Option (Value × St)) : Prop :=
  ∀ f args S v S', call f args S = some (v, S') → Enterable P f ∧ ∀ m w (args' : Array Value) n, HR E m S w → VRs m args args'.toList →
    CallsIn (FF none) n P f args' w fun e w' => ∃ v' m', e = .returned v' ∧ VR m' v v' ∧ HR E m' S' w' ∧ Fr m S w m' S' w'
def RoundOk (E : Env) (P : Program) (round : Nat → List Value → St → Option (Value × St)) : Prop :=
  ∀ l args S v S', round l args S = some (v, S') → ∀ m w x (args' : Array Value) rd n, m l = some x → HR E m S w → VRs m args args'.toList →
    ∃ fn tmps assign body, (Instr.yield x.blk args').run P w = .ok (.round x.blk fn tmps assign body) w ∧
      RoundIn (FF rd) n P x.blk fn tmps assign body w fun e w' => ∃ v' m', e = .returned v' ∧ VR m' v v' ∧ HR E m' S' w' ∧ Fr m S w m' S' w'
def PrimOk (E : Env) (P : Program) : Prop := ∀ f p, E.prim f = some p → CallOk E P (fun g args S => if g = f then p args S else none)
def DrawOk (E : Env) (P : Program) (draw : Draw) : Prop :=
  ∀ run, RunOk E P run → RunLw run → ∀ ops A S A' S', draw E run ops A S = some (A', S') → ∀ m w a rd n id (Q : Exit → Act → World → Prop), HR E m S w → AR E m A a rd →
    (∀ a' w' m', HR E m' S' w' → AR E m' A' a' rd → Fr m S w m' S' w' → Q .normal a' w') → (Code.region id ops true).wpIn (FF rd) n P Q a w

/-! ### Operations in a row -/
theorem wanted_eq {E : Env} {m : Mp} {A : Ac} {a : Act} {rd : Option Nat} (hA : AR E m A a rd) (ops : Array Oper) (o : Oper) : wantedD ops A o = Region.wanted o (yielded ops a.tmps) := by
  unfold wantedD Region.wanted
  cases o.guard with
  | none => rfl
  | some p =>
    obtain ⟨j, want⟩ := p
    simp only [yielded]
    cases hd : (ops[j]?).bind (·.dst) with
    | none => simp
    | some t =>
      simp only [Option.bind_some]
      have hv := hA.tmps.reg t
      have hs := hA.tmps.size
      by_cases ht : t < A.n
      · have hb : Nat.blt t A.n = true := Nat.blt_eq.mpr ht
        have hts : t < a.tmps.size := by rw [hs]; exact ht
        have e1 : a.tmps[t]? = some a.tmps[t] := Array.getElem?_eq_getElem hts
        have e2 : a.tmps.getD t undef = a.tmps[t] := by simp [Array.getD_eq_getD_getElem?, e1]
        rw [e2] at hv
        rw [hb, e1]
        simp only [cond_true, Ac.get]
        generalize (A.regs.get t).getD undef = v at hv
        generalize a.tmps[t] = v' at hv
        cases hv <;> first
          | (simp; done)
          | (rename_i _ _ hnb
             simp only [Bool.false_eq, ← Bool.not_eq_true]
             split
             · rename_i e; cases e; exact (hnb _ rfl).elim
             · simp)
      · have hb : Nat.blt t A.n = false := Bool.eq_false_iff.2 fun h => ht (Nat.blt_eq.mp h)
        have e1 : a.tmps[t]? = none := Array.getElem?_eq_none (by rw [hs]; exact Nat.le_of_not_lt ht)
        rw [hb, e1]; simp

section
variable {E : Env} {P : Program} (hE : E.Ok P) {run : Runner} (hcall : CallOk E P (callF E run)) (hround : RoundOk E P (roundF run))
include hE hcall hround

theorem oneD_ok {o : Oper} {A A' : Ac} {S S' : St} (h : (opD E A S o.op).bind (contD E run o.dst A) = some (A', S')) {m : Mp} {w : World} {a : Act} {rd : Option Nat} {n : Nat}
    (hH : HR E m S w) (hA : AR E m A a rd) {next : Act → World → Prop} {Q : Exit → Act → World → Prop} (hQ : ∀ a' w' m', HR E m' S' w' → AR E m' A' a' rd → Fr m S w m' S' w' → next a' w') :
    o.wpIn (FF rd) n P a w next Q := by
  rw [Option.bind_eq_some_iff] at h
  obtain ⟨r, h1, h2⟩ := h
  have hs := op_sim hE hH hA h1
  refine ⟨fun _ _ => trivial, ?_⟩
  have hnd : ∀ c, o.op ≠ .defer c := fun c e => by rw [e] at h1; cases h1
  rw [FF_round, Oper.semAt_eq _ _ _ hnd]
  cases r with
  | val v S1 =>
    obtain ⟨v', m', w', g1, g2, g3, g4⟩ := hs
    rw [g1, Oper.uponIn_value]
    simp only [contD, Option.map_eq_some_iff] at h2
    obtain ⟨A1, h3, h4⟩ := h2
    cases h4
    exact hQ _ _ m' g3 (put_ar (hA.mono g4.le) h3 g2) g4
  | skip S1 =>
    obtain ⟨m', w', g1, g3, g4⟩ := hs
    rw [g1, Oper.uponIn_skip]
    simp only [contD, Option.map_eq_some_iff] at h2
    obtain ⟨A1, h3, h4⟩ := h2
    cases h4
    exact hQ _ _ m' g3 (put_ar (hA.mono g4.le) h3 VR.undef) g4
  | enter f args S1 =>
    obtain ⟨rfl, g1⟩ := hs
    simp only [contD, Option.bind_eq_some_iff, Option.map_eq_some_iff] at h2
    obtain ⟨⟨v, S2⟩, h3, A1, h4, h5⟩ := h2
    cases h5
    obtain ⟨hent, hc⟩ := hcall f args S1 v _ h3
    obtain ⟨args', g2, g3⟩ := g1 hent
    rw [g2, Oper.uponIn_enter]
    refine ⟨FF_depth rd, (callsIn_FF (hc m w args' (n - 1) hH g3)).mono ?_⟩
    rintro e w' ⟨v', m', rfl, k1, k2, k3⟩
    exact hQ _ _ m' k2 (put_ar (hA.mono k3.le) h4 k1) k3
  | yield l args S1 =>
    obtain ⟨rfl, x, args', g1, g2, g3⟩ := hs
    simp only [contD, Option.bind_eq_some_iff, Option.map_eq_some_iff] at h2
    obtain ⟨⟨v, S2⟩, h3, A1, h4, h5⟩ := h2
    cases h5
    obtain ⟨fn, tmps, assign, body, k1, k2⟩ := hround l args S1 v _ h3 m w x args' rd (n - 1) g1 hH g3
    rw [g2, k1, Oper.uponIn_round]
    refine ⟨FF_depth rd, k2.mono ?_⟩
    rintro e w' ⟨v', m', rfl, q1, q2, q3⟩
    exact hQ _ _ m' q2 (put_ar (hA.mono q3.le) h4 q1) q3

theorem opsD_ok {ops : Array Oper} : ∀ (l : List Nat) {A A' : Ac} {S S' : St}, opsD E run ops (l.filterMap (ops[·]?)) A S = some (A', S') → ∀ {m : Mp} {w : World} {a : Act} {rd : Option Nat} {n : Nat} {Q : Exit → Act → World → Prop},
    HR E m S w → AR E m A a rd → (∀ a' w' m', HR E m' S' w' → AR E m' A' a' rd → Fr m S w m' S' w' → Q .normal a' w') → wpOpsIn (FF rd) n P ops Q l a w := by
  intro l
  induction l with
  | nil =>
    intro A A' S S' h m w a rd n Q hH hA hQ
    cases h
    exact hQ a w m hH hA (.refl _ _ _)
  | cons i l ih =>
    intro A A' S S' h m w a rd n Q hH hA hQ
    cases ho : ops[i]? with
    | none =>
      have : (i :: l).filterMap (ops[·]?) = l.filterMap (ops[·]?) := by simp [ho]
      rw [this] at h
      simp only [wpOpsIn, ho]
      exact ih h hH hA hQ
    | some o =>
      have : (i :: l).filterMap (ops[·]?) = o :: l.filterMap (ops[·]?) := by simp [ho]
      rw [this] at h
      simp only [opsD] at h
      split at h
      · rename_i A1 S1 h1
        simp only [wpOpsIn, ho]
        rw [← wanted_eq hA]
        unfold oneD at h1
        cases hw : wantedD ops A o with
        | true =>
          rw [hw] at h1
          simp only [if_true]
          exact oneD_ok hE hcall hround h1 hH hA fun a' w' m' g1 g2 g3 => ih h g1 g2 fun a2 w2 m2 k1 k2 k3 => hQ a2 w2 m2 k1 k2 (g3.trans k3)
        | false =>
          rw [hw] at h1
          simp only [cond_false, Option.map_eq_some_iff] at h1
          obtain ⟨A2, h2, h3⟩ := h1
          cases h3
          simp only [Bool.false_eq_true, if_false]
          exact ⟨fun _ _ => trivial, ih h hH (put_ar hA h2 VR.undef) hQ⟩
      · cases h
end

theorem range_filterMap_list {α : Type} : ∀ (l : List α), (List.range l.length).filterMap (l[·]?) = l := by
  intro l
  induction l with
  | nil => rfl
  | cons x l ih =>
    rw [List.length_cons, List.range_succ_eq_map, List.filterMap_cons]
    simp only [List.getElem?_cons_zero, List.filterMap_map]
    congr 1
theorem range_filterMap (ops : Array Oper) : (List.range ops.size).filterMap (ops[·]?) = ops.toList := by
  have := range_filterMap_list ops.toList
  simpa using this

end Go.Proofs.Ytcookjolkhcjhaa.D
