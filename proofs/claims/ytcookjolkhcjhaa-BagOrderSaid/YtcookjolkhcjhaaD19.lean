/-
  D, part 19: a region whose order the model draws: whatever order is drawn, it comes to what D's run comes to.
-/
import Derived.Test.YtcookjolkhcjhaaD18
namespace Go.Proofs.Ytcookjolkhcjhaa.D
noncomputable section
set_option linter.unusedSectionVars false

theorem HR.low {E : Env} {m : Mp} {S : St} {w : World} (h : HR E m S w) (l : Nat) : HR E m { S with low := l } w := ⟨h.dom, h.glob, h.obj, h.inj⟩
theorem Fr.low {m m' : Mp} {S S' : St} {w w' : World} {l l' : Nat} (h : Fr m { S with low := l } w m' S' w') : Fr m S w m' { S' with low := l' } w' :=
  ⟨h.le, h.size, h.os, h.tape, h.output, h.keep, h.own⟩

theorem core_ok {E : Env} {P : Program} (hE : E.Ok P) {run : Runner} (hcall : CallOk E P (callF E run)) (hround : RoundOk E P (roundF run)) {o : Oper} {A : Ac} {S S' : St} {r : DN} {v : Value}
    (h1 : opD E A S o.op = some r) (h2 : coreC E run r = some (v, S')) {m : Mp} {w : World} {a : Act} {rd : Option Nat} {n : Nat}
    (hH : HR E m S w) (hA : AR E m A a rd) {next : Act → World → Prop} {Q : Exit → Act → World → Prop} (hQ : ∀ v' w' m', VR m' v v' → HR E m' S' w' → Fr m S w m' S' w' → next (a.put o.dst v') w') :
    o.wpIn (FF rd) n P a w next Q := by
  have hs := op_sim hE hH hA h1
  refine ⟨fun _ _ => trivial, ?_⟩
  have hnd : ∀ c, o.op ≠ .defer c := fun c e => by rw [e] at h1; cases h1
  rw [FF_round, Oper.semAt_eq _ _ _ hnd]
  cases r with
  | val u S1 =>
    obtain ⟨v', m', w', g1, g2, g3, g4⟩ := hs
    rw [g1, Oper.uponIn_value]
    cases h2
    exact hQ _ _ m' g2 g3 g4
  | skip S1 =>
    obtain ⟨m', w', g1, g3, g4⟩ := hs
    rw [g1, Oper.uponIn_skip]
    cases h2
    exact hQ _ _ m' VR.undef g3 g4
  | enter f args S1 =>
    obtain ⟨rfl, g1⟩ := hs
    obtain ⟨hent, hc⟩ := hcall f args S1 v S' h2
    obtain ⟨args', g2, g3⟩ := g1 hent
    rw [g2, Oper.uponIn_enter]
    refine ⟨FF_depth rd, (callsIn_FF (hc m w args' (n - 1) hH g3)).mono ?_⟩
    rintro e w' ⟨v', m', rfl, k1, k2, k3⟩
    exact hQ _ _ m' k1 k2 k3
  | yield l args S1 =>
    obtain ⟨rfl, x, args', g1, g2, g3⟩ := hs
    obtain ⟨fn, tmps, assign, body, k1, k2⟩ := hround l args S1 v S' h2 m w x args' rd (n - 1) g1 hH g3
    rw [g2, k1, Oper.uponIn_round]
    refine ⟨FF_depth rd, k2.mono ?_⟩
    rintro e w' ⟨v', m', rfl, q1, q2, q3⟩
    exact hQ _ _ m' q1 q2 q3

/-! ### The plan -/
theorem mask_spec {acc : PM Nat} {j : Nat} : ∀ (l : List Edge) (s : Nat), (l.foldl (fun s e => cond (Region.binds .any e) (s ||| 2 ^ e.on ||| bget acc e.on) s) s).testBit j = true →
    s.testBit j = true ∨ ∃ e ∈ l, Region.binds .any e = true ∧ (e.on = j ∨ (bget acc e.on).testBit j = true) := by
  intro l
  induction l with
  | nil => intro s h; exact .inl h
  | cons e l ih =>
    intro s h
    rw [List.foldl_cons] at h
    rcases ih _ h with h | ⟨e', h1, h2⟩
    · cases hb : Region.binds .any e with
      | false => rw [hb] at h; exact .inl h
      | true =>
        rw [hb] at h
        simp only [cond_true, Nat.testBit_or, Bool.or_eq_true, Nat.testBit_two_pow, decide_eq_true_eq] at h
        rcases h with (h | h) | h
        · exact .inl h
        · exact .inr ⟨e, by simp, hb, .inl h⟩
        · exact .inr ⟨e, by simp, hb, .inr h⟩
    · exact .inr ⟨e', by simp [h1], h2⟩
theorem fullB_spec {mask i j : Nat} (h : fullB mask i = true) (hj : j < i) : mask.testBit j = true := by
  have h := Nat.eq_of_beq_eq_true h
  have h2 : (mask &&& (2 ^ i - 1)).testBit j = (2 ^ i - 1).testBit j := by
    have : mask &&& (2 ^ i - 1) = 2 ^ i - 1 := h
    rw [this]
  rw [Nat.testBit_and, Nat.testBit_two_pow_sub_one] at h2
  simpa [hj] using h2
theorem lessM_spec {m mask j : Nat} (h1 : m.testBit j = true) (h2 : mask.testBit j = false) : (lessM m mask).testBit j = true := by
  show (m ^^^ (m &&& mask)).testBit j = true
  rw [Nat.testBit_xor, Nat.testBit_and, h1, h2]; rfl
theorem looseD_spec {un ls i j : Nat} (h : un.testBit j = true) : (looseD un ls i).testBit j = true ∧ (looseD un ls i).testBit i = true := by
  have h0 : un ≠ 0 := by rintro rfl; simp at h
  unfold looseD
  rw [PM.beq_f h0]
  simp only [cond_false, Nat.testBit_or, h, Nat.testBit_two_pow]
  simp
theorem looseD_mono {un ls i j : Nat} (h : ls.testBit j = true) : (looseD un ls i).testBit j = true := by
  unfold looseD
  cases Nat.beq un 0 with
  | true => exact h
  | false => simp only [cond_false, Nat.testBit_or, h]; simp
theorem rowB_spec {ops : Array Oper} {o : Oper} {k : Kd} {mask : Nat} : ∀ {pre : List (Nat × Oper × Kd)}, rowB ops o k mask pre = true → ∀ j x kx, (j, x, kx) ∈ pre → mask.testBit j = true ∨ (compat kx k = true ∧ x.apart ops o = true) := by
  intro pre
  induction pre with
  | nil => intro _ j x kx h; cases h
  | cons p pre ih =>
    intro h j x kx hm
    obtain ⟨j', x', kx'⟩ := p
    simp only [rowB, Bool.and_eq_true, Bool.or_eq_true] at h
    rcases List.mem_cons.1 hm with e | hm
    · cases e; exact h.1
    · exact ih h.2 j x kx hm

/-- What a pass has found of one operation. -/
structure Found (E : Env) (ops : Array Oper) (full : List Oper) (b : PM Nat) (ls i : Nat) (o : Oper) : Prop where
  back : ∀ e ∈ o.after.toList, Region.binds .any e = true → e.on < i
  befs : ∀ j, bef b j i = true → ∃ e ∈ o.after.toList, Region.binds .any e = true ∧ (e.on = j ∨ (bef b j e.on = true ∧ e.on < i))
  pair : ∀ j x, j < i → full[j]? = some x → bef b j i = true ∨ (compat (kindD E x.op) (kindD E o.op) = true ∧ x.apart ops o = true)
  loose : ∀ j x, j < i → full[j]? = some x → clash (kindD E x.op) (kindD E o.op) = true → bef b j i = false → ls.testBit j = true ∧ ls.testBit i = true

theorem passD_spec {E : Env} {ops : Array Oper} : ∀ (os pre' : List Oper) (acc : PM Nat) (pre : List (Nat × Oper × Kd)) (m1 m2 ls : Nat) (b : PM Nat) (lsF : Nat),
    passD E ops os pre'.length acc pre m1 m2 ls = some (b, lsF) → (∀ j x, pre'[j]? = some x → (j, x, kindD E x.op) ∈ pre) →
    (∀ j x, pre'[j]? = some x → kindD E x.op = .k1 → m1.testBit j = true) → (∀ j x, pre'[j]? = some x → kindD E x.op = .k2 → m2.testBit j = true) →
    (∀ j, j < pre'.length → bget b j = bget acc j) ∧ (∀ j, ls.testBit j = true → lsF.testBit j = true) ∧ ∀ q o, os[q]? = some o → Found E ops (pre' ++ os) b lsF (pre'.length + q) o := by
  intro os
  induction os with
  | nil =>
    intro pre' acc pre m1 m2 ls b lsF h _ _ _
    cases h
    exact ⟨fun _ _ => rfl, fun _ h => h, by simp⟩
  | cons o os ih =>
    intro pre' acc pre m1 m2 ls b lsF h hpre h1 h2
    simp only [passD, force_eq] at h
    obtain ⟨hc, h⟩ := cond_some h
    simp only [Bool.and_eq_true, Bool.or_eq_true] at hc
    obtain ⟨hback, hrow⟩ := hc
    -- the rest of the pass
    have rest : ∃ m1' m2' ls', passD E ops os (pre' ++ [o]).length (acc.set pre'.length (maskD o acc)) ((pre'.length, o, kindD E o.op) :: pre) m1' m2' ls' = some (b, lsF) ∧
        (∀ j, m1.testBit j = true → m1'.testBit j = true) ∧ (∀ j, m2.testBit j = true → m2'.testBit j = true) ∧ (∀ j, ls.testBit j = true → ls'.testBit j = true) ∧
        (kindD E o.op = .k1 → m1'.testBit pre'.length = true) ∧ (kindD E o.op = .k2 → m2'.testBit pre'.length = true) ∧
        (∀ j x, pre'[j]? = some x → clash (kindD E x.op) (kindD E o.op) = true → (maskD o acc).testBit j = false → ls'.testBit j = true ∧ ls'.testBit pre'.length = true) := by
      have hlen : (pre' ++ [o]).length = pre'.length + 1 := by simp
      rw [hlen]
      have two : ∀ (m n : Nat), (m ||| 2 ^ n).testBit n = true := fun m n => by simp [Nat.testBit_or]
      have more : ∀ (m n j : Nat), m.testBit j = true → (m ||| 2 ^ n).testBit j = true := fun m n j hj => by simp [Nat.testBit_or, hj]
      cases hk : kindD E o.op with
      | k0 =>
        rw [hk] at h
        refine ⟨m1, m2, ls, h, fun _ h => h, fun _ h => h, fun _ h => h, by simp, by simp, ?_⟩
        intro j x _ hcl _
        cases hkx : kindD E x.op <;> rw [hkx] at hcl <;> cases hcl
      | k1 =>
        rw [hk] at h
        refine ⟨_, m2, _, h, more _ _, fun _ h => h, fun j h => looseD_mono h, fun _ => two _ _, by simp, ?_⟩
        intro j x hx hcl hb
        cases hkx : kindD E x.op <;> rw [hkx] at hcl <;> first | (cases hcl; done) | skip
        exact looseD_spec (lessM_spec (h2 j x hx hkx) hb)
      | k2 =>
        rw [hk] at h
        refine ⟨m1, _, _, h, fun _ h => h, more _ _, fun j h => looseD_mono h, by simp, fun _ => two _ _, ?_⟩
        intro j x hx hcl hb
        cases hkx : kindD E x.op <;> rw [hkx] at hcl <;> first | (cases hcl; done) | skip
        exact looseD_spec (lessM_spec (h1 j x hx hkx) hb)
    obtain ⟨m1', m2', ls', hp, g1, g2, g3, g4, g5, g6⟩ := rest
    have old : ∀ {j x}, (pre' ++ [o])[j]? = some x → pre'[j]? = some x ∨ (j = pre'.length ∧ x = o) := by
      intro j x hx
      rcases Nat.lt_trichotomy j pre'.length with hj | hj | hj
      · rw [List.getElem?_append_left hj] at hx; exact .inl hx
      · subst hj; simp at hx; exact .inr ⟨rfl, hx.symm⟩
      · rw [List.getElem?_eq_none (by simp; omega)] at hx; cases hx
    obtain ⟨k1, k2, k3⟩ := ih (pre' ++ [o]) _ _ m1' m2' ls' b lsF hp
      (fun j x hx => by
        rcases old hx with hx | ⟨rfl, rfl⟩
        · exact List.mem_cons_of_mem _ (hpre j x hx)
        · simp)
      (fun j x hx hk => by
        rcases old hx with hx | ⟨rfl, rfl⟩
        · exact g1 _ (h1 j x hx hk)
        · exact g4 hk)
      (fun j x hx hk => by
        rcases old hx with hx | ⟨rfl, rfl⟩
        · exact g2 _ (h2 j x hx hk)
        · exact g5 hk)
    have bold : ∀ j, j < pre'.length → bget b j = bget acc j := fun j hj => by
      rw [k1 j (by simp; omega)]
      unfold bget; rw [PM.get_set_ne (by omega)]
    have bnew : bget b pre'.length = maskD o acc := by
      rw [k1 _ (by simp)]
      unfold bget; simp
    refine ⟨bold, fun j hj => k2 j (g3 j hj), ?_⟩
    have hback' : ∀ e ∈ o.after.toList, Region.binds .any e = true → e.on < pre'.length := by
      intro e he hbe
      simp only [backB, List.all_eq_true, Bool.or_eq_true, Bool.not_eq_true'] at hback
      rcases hback e he with h | h
      · rw [hbe] at h; cases h
      · exact Nat.blt_eq.mp h
    intro q o' hq
    cases q with
    | zero =>
      simp only [List.getElem?_cons_zero, Option.some.injEq] at hq
      subst hq
      have hfull : ∀ {j x}, j < pre'.length → (pre' ++ o :: os)[j]? = some x → pre'[j]? = some x := fun hj hx => by
        rwa [List.getElem?_append_left hj] at hx
      refine ⟨hback', ?_, ?_, ?_⟩
      · intro j hj
        unfold bef at hj
        rw [Nat.add_zero, bnew] at hj
        unfold maskD at hj
        rcases mask_spec _ _ hj with h0 | ⟨e, he, hbe, hor⟩
        · simp at h0
        · have hlt := hback' e he hbe
          exact ⟨e, he, hbe, hor.imp id fun g => ⟨by unfold bef; rw [bold _ hlt]; exact g, hlt⟩⟩
      · intro j x hj hx
        unfold bef
        rw [Nat.add_zero, bnew]
        have hj : j < pre'.length := hj
        rcases hrow with hrow | hrow
        · exact .inl (fullB_spec hrow hj)
        · exact rowB_spec hrow j x _ (hpre j x (hfull hj hx))
      · intro j x hj hx hcl hb
        unfold bef at hb
        rw [Nat.add_zero, bnew] at hb
        have := g6 j x (hfull hj hx) hcl hb
        exact ⟨k2 _ this.1, k2 _ this.2⟩
    | succ q =>
      have := k3 q o' (by simpa using hq)
      have e1 : pre' ++ [o] ++ os = pre' ++ o :: os := by simp
      have e2 : (pre' ++ [o]).length + q = pre'.length + (q + 1) := by simp; omega
      rw [e1, e2] at this
      exact this

/-- What the plan says of a region. -/
structure Plan (E : Env) (ops : Array Oper) (b : PM Nat) (md : Nat → Md) : Prop where
  back : ∀ i o, ops[i]? = some o → ∀ e ∈ o.after.toList, Region.binds .any e = true → e.on < i
  pair : ∀ i j x y, j < i → ops[j]? = some x → ops[i]? = some y → bef b j i = true ∨ (compat (kindD E x.op) (kindD E y.op) = true ∧ x.apart ops y = true)
  befs : ∀ i o, ops[i]? = some o → ∀ j, bef b j i = true → ∃ e ∈ o.after.toList, Region.binds .any e = true ∧ (e.on = j ∨ (bef b j e.on = true ∧ e.on < i))
  loose : ∀ i j x y, i ≠ j → ops[i]? = some x → ops[j]? = some y → clash (kindD E y.op) (kindD E x.op) = true → bef b j i = false → bef b i j = false → md i = (match kindD E x.op with | .k1 => .low | .k2 => .quiet | .k0 => .free)
  tight : ∀ i x, ops[i]? = some x → (md i = .low → kindD E x.op = .k1) ∧ (md i = .quiet → kindD E x.op = .k2)

theorem modesD_get {E : Env} {ls : Nat} : ∀ (l : List Oper) (i q : Nat) (o : Oper), l[q]? = some o → (modesD E ls l i)[q]? = some (o, modeD E ls o (i + q)) := by
  intro l
  induction l with
  | nil => intro i q o h; simp at h
  | cons x l ih =>
    intro i q o h
    cases q with
    | zero => simp at h; subst h; simp [modesD]
    | succ q =>
      simp only [modesD, List.getElem?_cons_succ]
      rw [ih (i + 1) q o (by simpa using h)]
      have : i + 1 + q = i + (q + 1) := by omega
      rw [this]
theorem modesD_length {E : Env} {ls : Nat} : ∀ (l : List Oper) (i : Nat), (modesD E ls l i).length = l.length := by
  intro l
  induction l with
  | nil => intro i; rfl
  | cons x l ih => intro i; simp [modesD, ih]

theorem planD_spec {E : Env} {ops : Array Oper} {l : List (Oper × Md)} (h : planD E ops = some l) : ∃ b md, Plan E ops b md ∧ l.length = ops.size ∧ ∀ i o, ops[i]? = some o → l[i]? = some (o, md i) := by
  unfold planD at h
  split at h
  · rename_i b ls hp
    cases h
    obtain ⟨_, _, k⟩ := passD_spec ops.toList [] .leaf [] 0 0 0 b ls hp (by simp) (by simp) (by simp)
    simp only [List.length_nil, List.nil_append, Nat.zero_add] at k
    have get : ∀ {i : Nat} {o : Oper}, ops[i]? = some o → ops.toList[i]? = some o := fun h => by simpa using h
    refine ⟨b, fun i => match ops[i]? with | some o => modeD E ls o i | none => .free, ⟨?_, ?_, ?_, ?_, ?_⟩, by simp [modesD_length], ?_⟩
    · intro i o ho; exact (k i o (get ho)).back
    · intro i j x y hji hx hy; exact (k i y (get hy)).pair j x hji (get hx)
    · intro i o ho; exact (k i o (get ho)).befs
    · intro i j x y hne hx hy hcl h1 h2
      have hl : ls.testBit i = true := by
        rcases Nat.lt_or_gt_of_ne hne with hlt | hgt
        · have hcl' : clash (kindD E x.op) (kindD E y.op) = true := by
            cases hkx : kindD E x.op <;> cases hky : kindD E y.op <;> rw [hkx, hky] at hcl <;> first | rfl | cases hcl
          exact ((k j y (get hy)).loose i x hlt (get hx) hcl' h2).1
        · exact ((k i x (get hx)).loose j y hgt (get hy) hcl h1).2
      simp only [hx, modeD, hl, cond_true]
      cases kindD E x.op <;> rfl
    · intro i x hx
      simp only [hx, modeD]
      cases ls.testBit i with
      | false => simp
      | true => simp only [cond_true]; cases kindD E x.op <;> simp
    · intro i o ho
      rw [modesD_get _ 0 i o (get ho)]
      simp only [ho, Nat.zero_add]
  · cases h

/-! ### D's run, step by step -/
structure Tr (E : Env) (run : Runner) (ops : Array Oper) (md : Nat → Md) (A A' : Ac) (S S' : St) (As : Nat → Ac) (Ss : Nat → St) (Vs : Nat → Value) : Prop where
  a0 : As 0 = A
  s0 : Ss 0 = S
  an : As ops.size = A'
  sn : Ss ops.size = S'
  step : ∀ i o, ops[i]? = some o → coreM E run ops S.next (o, md i) (As i) (Ss i) = some (Vs i, Ss (i + 1)) ∧ (As i).put o.dst (Vs i) = some (As (i + 1))

theorem goD_trace {E : Env} {run : Runner} {ops : Array Oper} {lim : Nat} : ∀ (l : List (Oper × Md)) {A A' : Ac} {S S' : St}, goD E run ops lim l A S = some (A', S') →
    ∃ (As : Nat → Ac) (Ss : Nat → St) (Vs : Nat → Value), As 0 = A ∧ Ss 0 = S ∧ As l.length = A' ∧ Ss l.length = S' ∧ ∀ i p, l[i]? = some p → coreM E run ops lim p (As i) (Ss i) = some (Vs i, Ss (i + 1)) ∧ (As i).put p.1.dst (Vs i) = some (As (i + 1)) := by
  intro l
  induction l with
  | nil => intro A A' S S' h; cases h; exact ⟨fun _ => A, fun _ => S, fun _ => undef, rfl, rfl, rfl, rfl, by simp⟩
  | cons p l ih =>
    intro A A' S S' h
    simp only [goD] at h
    split at h
    · rename_i v S1 h1
      split at h
      · rename_i A1 h2
        obtain ⟨As, Ss, Vs, g1, g2, g3, g4, g5⟩ := ih h
        refine ⟨fun | 0 => A | k + 1 => As k, fun | 0 => S | k + 1 => Ss k, fun | 0 => v | k + 1 => Vs k, rfl, rfl, g3, g4, ?_⟩
        intro i q hq
        cases i with
        | zero => simp at hq; subst hq; simp only [g1, g2]; exact ⟨h1, h2⟩
        | succ i => exact g5 i q (by simpa using hq)
      · cases h
    · cases h

theorem count_set : ∀ (l : List Bool) (i : Nat), l[i]? = some false → (l.set i true).countP (fun b => !b) + 1 = l.countP (fun b => !b) := by
  intro l
  induction l with
  | nil => intro i h; simp at h
  | cons b l ih =>
    intro i h
    cases i with
    | zero => simp at h; subst h; simp
    | succ i =>
      have := ih i (by simpa using h)
      simp only [List.set_cons_succ, List.countP_cons]
      omega

/-! ### The temporaries, where some operations are done -/
section
variable {E : Env} {run : Runner} {ops : Array Oper} {md : Nat → Md} {b : PM Nat} (hP : Plan E ops b md) {A A' : Ac} {S S' : St} {As : Nat → Ac} {Ss : Nat → St} {Vs : Nat → Value} (T : Tr E run ops md A A' S S' As Ss Vs)
def regsAt (ops : Array Oper) (A : Ac) (Vs : Nat → Value) (L : Nat → Bool) : Nat → PM Value
  | 0 => A.regs
  | k + 1 => match (ops[k]?).bind (·.dst) with | some d => cond (L k) ((regsAt ops A Vs L k).set d (Vs k)) (regsAt ops A Vs L k) | none => regsAt ops A Vs L k
def Cl (ops : Array Oper) (b : PM Nat) (L : Nat → Bool) : Prop := ∀ i, i < ops.size → L i = true → ∀ j, bef b j i = true → L j = true
/-- The slots that an operation looks at or writes. -/
def about (ops : Array Oper) (o : Oper) (t : Nat) : Prop := t ∈ o.looksAt ops ∨ o.dst = some t

include T
theorem as_step (i : Nat) (hi : i < ops.size) : (As (i + 1)).n = (As i).n ∧ (As (i + 1)).defers = (As i).defers ∧ (As (i + 1)).rd = (As i).rd ∧
    (As (i + 1)).regs = (match (ops[i]?).bind (·.dst) with | some d => (As i).regs.set d (Vs i) | none => (As i).regs) ∧ (∀ d, (ops[i]?).bind (·.dst) = some d → d < (As i).n) := by
  have ho : ops[i]? = some ops[i] := Array.getElem?_eq_getElem hi
  have := (T.step i _ ho).2
  rw [ho]
  simp only [Option.bind_some]
  cases hd : ops[i].dst with
  | none => rw [hd] at this; rw [← Option.some.inj this]; simp
  | some d =>
    rw [hd] at this
    obtain ⟨h1, h2⟩ := cond_some this
    rw [← Option.some.inj h2]
    exact ⟨rfl, rfl, rfl, rfl, fun d' hd' => by cases hd'; exact Nat.blt_eq.mp h1⟩
theorem as_same : ∀ (i : Nat), i ≤ ops.size → (As i).n = A.n ∧ (As i).defers = A.defers ∧ (As i).rd = A.rd := by
  intro i
  induction i with
  | zero => intro _; rw [T.a0]; exact ⟨rfl, rfl, rfl⟩
  | succ i ih =>
    intro hi
    obtain ⟨h1, h2, h3, _⟩ := as_step T i (by omega)
    obtain ⟨g1, g2, g3⟩ := ih (by omega)
    exact ⟨h1.trans g1, h2.trans g2, h3.trans g3⟩
theorem regs_all {L : Nat → Bool} (hL : ∀ i, i < ops.size → L i = true) : ∀ k, k ≤ ops.size → regsAt ops A Vs L k = (As k).regs := by
  intro k
  induction k with
  | zero => intro _; rw [T.a0]; rfl
  | succ k ih =>
    intro hk
    obtain ⟨_, _, _, h4, _⟩ := as_step T k (by omega)
    rw [h4]
    simp only [regsAt, hL k (by omega), cond_true, ih (by omega)]
include hP

theorem writer_after {L : Nat → Bool} (hc : Cl ops b L) {i j t : Nat} {x y : Oper} (hij : i < j) (hx : ops[i]? = some x) (hy : ops[j]? = some y) (hd : y.dst = some t) (hab : about ops x t) (hl : L i = false) (hlj : L j = true) : False := by
  rcases hP.pair j i x y hij hx hy with h | ⟨_, h⟩
  · have := hc j (Array.getElem?_eq_some_iff.1 hy).1 hlj i h
    rw [hl] at this; cases this
  · obtain ⟨h1, h2, h3⟩ := Oper.apart_spec h
    rcases hab with hab | hab
    · exact h3 t hd hab
    · exact h2 t hab hd
theorem writer_before {L : Nat → Bool} {i j t : Nat} {x y : Oper} (hji : j < i) (hx : ops[i]? = some x) (hy : ops[j]? = some y) (hd : y.dst = some t) (hab : about ops x t) (hr : ∀ j, bef b j i = true → L j = true) : L j = true := by
  rcases hP.pair i j y x hji hy hx with h | ⟨_, h⟩
  · exact hr j h
  · obtain ⟨h1, h2, h3⟩ := Oper.apart_spec h
    rcases hab with hab | hab
    · exact absurd hab (h1 t hd)
    · exact absurd hab (h2 t hd)

theorem regs_agree {L : Nat → Bool} (hc : Cl ops b L) {i : Nat} {x : Oper} (hx : ops[i]? = some x) (hl : L i = false) (hr : ∀ j, bef b j i = true → L j = true) {t : Nat} (hab : about ops x t) :
    (regsAt ops A Vs L ops.size).get t = (As i).regs.get t := by
  have hi : i < ops.size := (Array.getElem?_eq_some_iff.1 hx).1
  have one : ∀ k, k ≤ i → (regsAt ops A Vs L k).get t = (As k).regs.get t := by
    intro k
    induction k with
    | zero => intro _; rw [T.a0]; rfl
    | succ k ih =>
      intro hk
      obtain ⟨_, _, _, h4, _⟩ := as_step T k (by omega)
      rw [h4]
      have ho : ops[k]? = some ops[k] := Array.getElem?_eq_getElem (by omega)
      simp only [regsAt, ho, Option.bind_some]
      cases hd : ops[k].dst with
      | none => exact ih (by omega)
      | some d =>
        simp only
        by_cases hdt : d = t
        · subst hdt
          have := writer_before hP T (L := L) (j := k) (by omega) hx ho hd hab hr
          rw [this]; simp
        · rw [PM.get_set_ne (Ne.symm hdt), ← ih (by omega)]
          cases L k with
          | true => simp only [cond_true]; rw [PM.get_set_ne (Ne.symm hdt)]
          | false => rfl
  have two : ∀ k, i ≤ k → k ≤ ops.size → (regsAt ops A Vs L k).get t = (As i).regs.get t := by
    intro k
    induction k with
    | zero => intro h0 _; obtain rfl : i = 0 := by omega
              exact one 0 (Nat.le_refl _)
    | succ k ih =>
      intro h0 hk
      by_cases he : i = k + 1
      · subst he; exact one _ (Nat.le_refl _)
      · have hik : i ≤ k := by omega
        rw [← ih hik (by omega)]
        have ho : ops[k]? = some ops[k] := Array.getElem?_eq_getElem (by omega)
        simp only [regsAt, ho, Option.bind_some]
        cases hd : ops[k].dst with
        | none => rfl
        | some d =>
          simp only
          cases hlk : L k with
          | false => rfl
          | true =>
            simp only [cond_true]
            rw [PM.get_set_ne]
            intro e
            subst e
            by_cases hki : k = i
            · subst hki; rw [hl] at hlk; cases hlk
            · exact writer_after hP T hc (by omega) hx ho hd hab hl hlk
  exact two ops.size (by omega) (Nat.le_refl _)

theorem regs_add {L : Nat → Bool} (hc : Cl ops b L) {i : Nat} {x : Oper} (hx : ops[i]? = some x) (hl : L i = false) (t : Nat) :
    (regsAt ops A Vs (fun j => cond (Nat.beq j i) true (L j)) ops.size).get t = if x.dst = some t then some (Vs i) else (regsAt ops A Vs L ops.size).get t := by
  have hi : i < ops.size := (Array.getElem?_eq_some_iff.1 hx).1
  by_cases hd : x.dst = some t
  · rw [if_pos hd]
    have key : ∀ k, i < k → k ≤ ops.size → (regsAt ops A Vs (fun j => cond (Nat.beq j i) true (L j)) k).get t = some (Vs i) := by
      intro k
      induction k with
      | zero => intro h; omega
      | succ k ih =>
        intro h0 hk
        by_cases he : k = i
        · subst he
          have hbe : Nat.beq k k = true := by simp
          simp only [regsAt, hx, Option.bind_some, hd, hbe, cond_true, PM.get_set_same]
        · have ho : ops[k]? = some ops[k] := Array.getElem?_eq_getElem (by omega)
          have ih := ih (by omega) (by omega)
          simp only [regsAt, ho, Option.bind_some, PM.beq_f he, cond_false]
          cases hdk : ops[k].dst with
          | none => exact ih
          | some d =>
            simp only
            cases hlk : L k with
            | false => exact ih
            | true =>
              simp only [cond_true]
              rw [PM.get_set_ne]
              · exact ih
              · intro e
                subst e
                exact writer_after hP T hc (by omega) hx ho hdk (.inr hd) hl hlk
    exact key _ hi (Nat.le_refl _)
  · rw [if_neg hd]
    have key : ∀ k, k ≤ ops.size → (regsAt ops A Vs (fun j => cond (Nat.beq j i) true (L j)) k).get t = (regsAt ops A Vs L k).get t := by
      intro k
      induction k with
      | zero => intro _; rfl
      | succ k ih =>
        intro hk
        have ih := ih (by omega)
        have ho : ops[k]? = some ops[k] := Array.getElem?_eq_getElem (by omega)
        simp only [regsAt, ho, Option.bind_some]
        cases hdk : ops[k].dst with
        | none => exact ih
        | some d =>
          simp only
          by_cases he : k = i
          · subst he
            have e1 : ops[k] = x := by rw [ho] at hx; cases hx; rfl
            rw [e1] at hdk
            have hdt : d ≠ t := fun e => hd (by rw [hdk, e])
            have hbe : Nat.beq k k = true := by simp
            rw [hbe, hl]
            simp only [cond_true, cond_false]
            rw [PM.get_set_ne (Ne.symm hdt)]; exact ih
          · rw [PM.beq_f he]
            simp only [cond_false]
            cases L k with
            | false => exact ih
            | true =>
              simp only [cond_true, PM.get_set]
              split
              · rfl
              · exact ih
    exact key _ (Nat.le_refl _)
end

end
end Go.Proofs.Ytcookjolkhcjhaa.D
