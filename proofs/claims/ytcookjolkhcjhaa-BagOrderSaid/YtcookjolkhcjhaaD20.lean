/-
  D, part 20: whatever order the model draws (the memory; the theorem).
-/
import Derived.Test.YtcookjolkhcjhaaD19
namespace Go.Proofs.Ytcookjolkhcjhaa.D
set_option linter.unusedSectionVars false

section
variable {E : Env} {run : Runner} {ops : Array Oper} {md : Nat → Md} {b : PM Nat} (hP : Plan E ops b md) {A A' : Ac} {S S' : St} {As : Nat → Ac} {Ss : Nat → St} {Vs : Nat → Value} (T : Tr E run ops md A A' S S' As Ss Vs)
include hP T

/-- What is not of the third kind leaves memory alone. -/
theorem ss_same {i : Nat} {o : Oper} (ho : ops[i]? = some o) (hk : kindD E o.op ≠ .k2) : Ss (i + 1) = Ss i := by
  have h := (T.step i o ho).1
  unfold coreM at h
  cases hw : wantedD ops (As i) o with
  | false => rw [hw] at h; simp only [cond_false, Option.some.injEq, Prod.mk.injEq] at h; exact h.2.symm
  | true =>
    rw [hw] at h
    simp only [cond_true] at h
    have fin : ∀ {S1 S2 : St} {v : Value}, (opD E (As i) S1 o.op).bind (coreC E run) = some (v, S2) → S2 = S1 := by
      intro S1 S2 v h
      rw [Option.bind_eq_some_iff] at h
      obtain ⟨r, h1, h2⟩ := h
      obtain ⟨u, rfl⟩ := opD_k h1 hk
      cases h2; rfl
    cases hm : md i with
    | free => rw [hm] at h; exact fin h
    | low => rw [hm] at h; obtain ⟨_, h⟩ := cond_some h; exact fin h
    | quiet => exact absurd ((hP.tight i o ho).2 hm) hk
theorem ss_between {i j : Nat} (hij : i ≤ j) (hj : j ≤ ops.size) (hn : ∀ q o, i ≤ q → q < j → ops[q]? = some o → kindD E o.op ≠ .k2) : Ss j = Ss i := by
  induction j with
  | zero => obtain rfl : i = 0 := by omega
            rfl
  | succ j ih =>
    by_cases he : i = j + 1
    · subst he; rfl
    · have hlt : j < ops.size := by omega
      rw [ss_same hP T (Array.getElem?_eq_getElem hlt) (hn j _ (by omega) (by omega) (Array.getElem?_eq_getElem hlt))]
      exact ih (by omega) (by omega) fun q o h1 h2 => hn q o h1 (by omega)
/-- A quiet one leaves the blocks below the mark alone. -/
theorem ss_quiet (hlw : RunLw run) (hplw : PrimLw E) {i : Nat} {o : Oper} (ho : ops[i]? = some o) (hq : md i = .quiet) (hnx : S.next ≤ (Ss i).next) : Agree S.next (Ss i) (Ss (i + 1)) := by
  have h := (T.step i o ho).1
  unfold coreM at h
  cases hw : wantedD ops (As i) o with
  | false => rw [hw] at h; simp only [cond_false, Option.some.injEq, Prod.mk.injEq] at h; rw [← h.2]; exact fun _ _ => rfl
  | true =>
    rw [hw, hq] at h
    simp only [cond_true, Option.bind_eq_some_iff] at h
    obtain ⟨⟨v, S2⟩, ⟨r, h1, h2⟩, h3⟩ := h
    obtain ⟨hle, h4⟩ := cond_some h3
    have e := Option.some.inj h4
    rw [← (Prod.mk.inj e).2]
    intro q hq'
    have hr := opD_lw h1
    have : Lw { Ss i with low := S.next } S2 := by
      cases r with
      | val u S1 => cases h2; exact hr
      | skip S1 => cases h2; exact hr
      | enter f args S1 => obtain rfl := hr; exact callF_lw hlw hplw h2
      | yield l args S1 => obtain rfl := hr; exact roundF_lw hlw hplw h2
    have hle : S.next ≤ S2.low := Nat.ble_eq.mp hle
    exact this.same q (by omega) (by show q < (Ss i).next; omega)
theorem ss_next (hlw : RunLw run) (hplw : PrimLw E) : ∀ i, i ≤ ops.size → S.next ≤ (Ss i).next := by
  intro i
  induction i with
  | zero => intro _; rw [T.s0]; exact Nat.le_refl _
  | succ i ih =>
    intro hi
    have hlt : i < ops.size := by omega
    have ih := ih (by omega)
    have ho : ops[i]? = some ops[i] := Array.getElem?_eq_getElem hlt
    have h := (T.step i _ ho).1
    unfold coreM at h
    have fin : ∀ {S1 S2 : St} {v : Value}, (opD E (As i) S1 ops[i].op).bind (coreC E run) = some (v, S2) → Lw S1 S2 := by
      intro S1 S2 v h
      rw [Option.bind_eq_some_iff] at h
      obtain ⟨r, h1, h2⟩ := h
      have hr := opD_lw h1
      cases r with
      | val u S1 => cases h2; exact hr
      | skip S1 => cases h2; exact hr
      | enter f args S1 => obtain rfl := hr; exact callF_lw hlw hplw h2
      | yield l args S1 => obtain rfl := hr; exact roundF_lw hlw hplw h2
    cases hw : wantedD ops (As i) ops[i] with
    | false => rw [hw] at h; simp only [cond_false, Option.some.injEq, Prod.mk.injEq] at h; rw [← h.2]; exact ih
    | true =>
      rw [hw] at h
      simp only [cond_true] at h
      cases hm : md i with
      | free => rw [hm] at h; exact Nat.le_trans ih (fin h).next
      | low => rw [hm] at h; obtain ⟨_, h⟩ := cond_some h; exact Nat.le_trans ih (fin h).next
      | quiet =>
        rw [hm] at h
        simp only [Option.bind_eq_some_iff] at h
        obtain ⟨⟨v, S2⟩, h1, h3⟩ := h
        obtain ⟨_, h4⟩ := cond_some h3
        have e := Option.some.inj h4
        rw [← (Prod.mk.inj e).2]
        have := (fin (by rw [Option.bind_eq_some_iff]; exact h1)).next
        exact Nat.le_trans ih this

theorem Agree.trans {lim : Nat} {S1 S2 S3 : St} (h : Agree lim S1 S2) (k : Agree lim S2 S3) : Agree lim S1 S3 := fun q hq => (k q hq).trans (h q hq)
theorem Agree.symm {lim : Nat} {S1 S2 : St} (h : Agree lim S1 S2) : Agree lim S2 S1 := fun q hq => (h q hq).symm
theorem ss_agree (hlw : RunLw run) (hplw : PrimLw E) {i j : Nat} (hij : i ≤ j) (hj : j ≤ ops.size) (hq : ∀ q o, i ≤ q → q < j → ops[q]? = some o → kindD E o.op = .k2 → md q = .quiet) : Agree S.next (Ss i) (Ss j) := by
  induction j with
  | zero => obtain rfl : i = 0 := by omega
            exact fun _ _ => rfl
  | succ j ih =>
    by_cases he : i = j + 1
    · subst he; exact fun _ _ => rfl
    · have hlt : j < ops.size := by omega
      have ho : ops[j]? = some ops[j] := Array.getElem?_eq_getElem hlt
      have ih := ih (by omega) (by omega) fun q o h1 h2 => hq q o h1 (by omega)
      refine Agree.trans hP T ih ?_
      by_cases hk : kindD E ops[j].op = .k2
      · exact ss_quiet hP T hlw hplw ho (hq j _ (by omega) (by omega) ho hk) (ss_next hP T hlw hplw j (by omega))
      · rw [ss_same hP T ho hk]; exact fun _ _ => rfl
end

theorem TR.congr {m : Mp} {r r' : PM Value} {n : Nat} {tmps : Array Value} (h : TR m r n tmps) (e : ∀ t, (r'.get t).getD undef = (r.get t).getD undef) : TR m r' n tmps :=
  ⟨h.size, fun t => by rw [e]; exact h.reg t⟩

/-- Where some operations are done. -/
structure Stg (E : Env) (ops : Array Oper) (b : PM Nat) (A : Ac) (Ss : Nat → St) (Vs : Nat → Value) (rd : Option Nat) (m0 : Mp) (S0 : St) (w0 : World) (L : Nat → Bool) (a : Act) (w : World) : Prop where
  closed : Cl ops b L
  ex : ∃ m k, k ≤ ops.size ∧ (∀ i o, ops[i]? = some o → kindD E o.op = .k2 → (L i = true ↔ i < k)) ∧ HR E m (Ss k) w ∧ AR E m { A with regs := regsAt ops A Vs L ops.size } a rd ∧ Fr m0 S0 w0 m (Ss k) w

theorem draw_step {E : Env} {P : Program} (hE : E.Ok P) {run : Runner} (hcall : CallOk E P (callF E run)) (hround : RoundOk E P (roundF run)) (hlw : RunLw run) (hplw : PrimLw E)
    {ops : Array Oper} {md : Nat → Md} {b : PM Nat} (hP : Plan E ops b md) {A A' : Ac} {S S' : St} {As : Nat → Ac} {Ss : Nat → St} {Vs : Nat → Value} (T : Tr E run ops md A A' S S' As Ss Vs)
    {rd : Option Nat} {m0 : Mp} {S0 : St} {w0 : World} {n : Nat} {Q : Exit → Act → World → Prop}
    {L : Nat → Bool} {a : Act} {w : World} (hS : Stg E ops b A Ss Vs rd m0 S0 w0 L a w) {i : Nat} {o : Oper} (ho : ops[i]? = some o) (hl : L i = false) (hr : ∀ e ∈ o.after, Region.binds .any e = true → L e.on = true)
    {K : Act → World → Prop} (hK : ∀ a' w', Stg E ops b A Ss Vs rd m0 S0 w0 (fun j => cond (Nat.beq j i) true (L j)) a' w' → K a' w') : wpOpIn (FF rd) n P ops Q i K a w := by
  obtain ⟨hc, m, k, hk, hkk, hH, hA, hF⟩ := hS
  have hi : i < ops.size := (Array.getElem?_eq_some_iff.1 ho).1
  -- what comes before is done
  have hbef : ∀ j, bef b j i = true → L j = true := by
    intro j hj
    obtain ⟨e, he, hbe, hor⟩ := hP.befs i o ho j hj
    have hel := hr e (by simpa using he) hbe
    rcases hor with rfl | ⟨h1, h2⟩
    · exact hel
    · exact hc e.on (by omega) hel j h1
  obtain ⟨hcore, hput⟩ := T.step i o ho
  obtain ⟨han, had, har⟩ := as_same T i (by omega)
  let A1 : Ac := { A with regs := regsAt ops A Vs L ops.size }
  have hag : ∀ t, about ops o t → A1.get t = (As i).get t := fun t ht => by
    show ((regsAt ops A Vs L ops.size).get t).getD undef = _
    rw [regs_agree hP T hc ho hl hbef ht]; rfl
  have hw : wantedD ops A1 o = wantedD ops (As i) o := by
    unfold wantedD
    cases hg : o.guard with
    | none => rfl
    | some p =>
      obtain ⟨g, want⟩ := p
      simp only
      cases hd : (ops[g]?).bind (·.dst) with
      | none => rfl
      | some t =>
        simp only
        rw [hag t (.inl (by simp [Oper.looksAt, hg, hd]))]
        have : A1.n = (As i).n := han.symm
        rw [this]
  -- the new stage
  have hcl' : Cl ops b (fun j => cond (Nat.beq j i) true (L j)) := by
    intro q hq hlq j hj
    by_cases hqi : q = i
    · subst hqi
      have := hbef j hj
      simp [this]
    · have hlq : L q = true := by simpa [PM.beq_f hqi] using hlq
      have := hc q hq hlq j hj
      simp [this]
  have hdn : ∀ d, o.dst = some d → d < A.n := by
    intro d hd
    obtain ⟨_, _, _, _, h5⟩ := as_step T i hi
    have := h5 d (by rw [ho]; exact hd)
    rw [han] at this; exact this
  have newAR : ∀ {m' : Mp} {a1 : Act} {v' : Value}, AR E m' A1 a1 rd → VR m' (Vs i) v' → AR E m' { A with regs := regsAt ops A Vs (fun j => cond (Nat.beq j i) true (L j)) ops.size } (a1.put o.dst v') rd := by
    intro m' a1 v' h1 h2
    have hadd := regs_add hP T hc ho hl
    cases hd : o.dst with
    | none =>
      refine ⟨h1.tmps.congr fun t => ?_, h1.defs, h1.rd⟩
      rw [hadd t, hd]; simp; rfl
    | some d =>
      refine ⟨(h1.tmps.set (hdn d hd) h2).congr fun t => ?_, h1.defs, h1.rd⟩
      rw [hadd t, hd, PM.get_set]
      by_cases hdt : d = t
      · subst hdt; simp
      · rw [if_neg (by simpa using hdt), if_neg (Ne.symm hdt)]
  unfold wpOpIn
  rw [ho]
  simp only
  rw [← wanted_eq hA]
  unfold coreM at hcore
  cases hwd : wantedD ops (As i) o with
  | false =>
    rw [hw, hwd]
    rw [hwd] at hcore
    simp only [cond_false, Option.some.injEq, Prod.mk.injEq] at hcore
    obtain ⟨hv, hs⟩ := hcore
    simp only [Bool.false_eq_true, if_false]
    refine ⟨fun _ _ => trivial, hK _ _ ⟨hcl', ?_⟩⟩
    by_cases hk2 : kindD E o.op = .k2
    · -- the memory goes on past it
      have hki : k ≤ i := by
        rcases Nat.lt_or_ge i k with h | h
        · have := (hkk i o ho hk2).2 h; rw [hl] at this; cases this
        · exact h
      have hse : Ss i = Ss k := ss_between hP T hki (by omega) fun q x h1 h2 hx hkx => by
        have : L q = true := by
          rcases hP.pair i q x o h2 hx ho with h | ⟨h, _⟩
          · exact hbef q h
          · rw [hkx, hk2] at h; cases h
        have := (hkk q x hx hkx).1 this; omega
      refine ⟨m, i + 1, by omega, ?_, ?_, newAR hA (by rw [← hv]; exact VR.undef), ?_⟩
      · intro q x hx hkx
        by_cases hqi : q = i
        · subst hqi; simp
        · simp only [PM.beq_f hqi, cond_false]
          constructor
          · intro h
            rcases Nat.lt_or_ge i q with hlt | hge
            · rcases hP.pair q i o x hlt ho hx with g | ⟨g, _⟩
              · have := hc q (Array.getElem?_eq_some_iff.1 hx).1 h i g; rw [hl] at this; cases this
              · rw [hkx, hk2] at g; cases g
            · omega
          · intro h
            rcases hP.pair i q x o (by omega) hx ho with g | ⟨g, _⟩
            · exact hbef q g
            · rw [hkx, hk2] at g; cases g
      · rw [← hs, hse]; exact hH
      · rw [← hs, hse]; exact hF
    · refine ⟨m, k, hk, ?_, hH, newAR hA (by rw [← hv]; exact VR.undef), hF⟩
      intro q x hx hkx
      by_cases hqi : q = i
      · subst hqi; rw [ho] at hx; cases hx; exact absurd hkx hk2
      · simp only [PM.beq_f hqi, cond_false]; exact hkk q x hx hkx
  | true =>
    rw [hw, hwd]
    rw [hwd] at hcore
    simp only [cond_true] at hcore
    simp only [if_true]
    have hcongr : ∀ Sx, opD E A1 Sx o.op = opD E (As i) Sx o.op := fun Sx => opD_congr fun x hx => by
      cases x with
      | tmp t =>
        show some (A1.get t) = some ((As i).get t)
        rw [hag t (.inl (by simp only [Oper.looksAt, List.mem_append, List.mem_filterMap]; exact .inl ⟨.tmp t, hx, rfl⟩))]
      | const _ => rfl
      | global _ => rfl
      | func _ => rfl
    by_cases hk2 : kindD E o.op = .k2
    · have hki : k ≤ i := by
        rcases Nat.lt_or_ge i k with h | h
        · have := (hkk i o ho hk2).2 h; rw [hl] at this; cases this
        · exact h
      have hse : Ss i = Ss k := ss_between hP T hki (by omega) fun q x h1 h2 hx hkx => by
        have : L q = true := by
          rcases hP.pair i q x o h2 hx ho with h | ⟨h, _⟩
          · exact hbef q h
          · rw [hkx, hk2] at h; cases h
        have := (hkk q x hx hkx).1 this; omega
      rw [← hse] at hH hF
      have stage : ∀ q x, ops[q]? = some x → kindD E x.op = .k2 → ((cond (Nat.beq q i) true (L q)) = true ↔ q < i + 1) := by
        intro q x hx hkx
        by_cases hqi : q = i
        · subst hqi; simp
        · simp only [PM.beq_f hqi, cond_false]
          constructor
          · intro h
            rcases Nat.lt_or_ge i q with hlt | hge
            · rcases hP.pair q i o x hlt ho hx with g | ⟨g, _⟩
              · have := hc q (Array.getElem?_eq_some_iff.1 hx).1 h i g; rw [hl] at this; cases this
              · rw [hkx, hk2] at g; cases g
            · omega
          · intro h
            rcases hP.pair i q x o (by omega) hx ho with g | ⟨g, _⟩
            · exact hbef q g
            · rw [hkx, hk2] at g; cases g
      cases hm : md i with
      | low => exact absurd ((hP.tight i o ho).1 hm) (by rw [hk2]; simp)
      | free =>
        rw [hm] at hcore
        simp only [Option.bind_eq_some_iff] at hcore
        obtain ⟨r, h1, h2⟩ := hcore
        rw [← hcongr] at h1
        refine core_ok hE hcall hround h1 h2 hH hA fun v' w' m' g1 g2 g3 => hK _ _ ⟨hcl', m', i + 1, by omega, stage, g2, newAR (hA.mono g3.le) g1, hF.trans g3⟩
      | quiet =>
        rw [hm] at hcore
        simp only [Option.bind_eq_some_iff] at hcore
        obtain ⟨⟨v, S2⟩, ⟨r, h1, h2⟩, h3⟩ := hcore
        obtain ⟨_, h4⟩ := cond_some h3
        obtain ⟨hv, hs⟩ := Prod.mk.inj (Option.some.inj h4)
        simp only at hv hs
        rw [← hcongr] at h1
        refine core_ok hE hcall hround h1 h2 (hH.low _) hA fun v' w' m' g1 g2 g3 => hK _ _ ⟨hcl', m', i + 1, by omega, stage, ?_, newAR (hA.mono g3.le) (by rw [← hv]; exact g1), ?_⟩
        · rw [← hs]; exact g2.low _
        · rw [← hs]; exact hF.trans (Fr.low g3)
    · -- memory is only read
      have hss := ss_same hP T ho hk2
      have stage : ∀ q x, ops[q]? = some x → kindD E x.op = .k2 → ((cond (Nat.beq q i) true (L q)) = true ↔ q < k) := by
        intro q x hx hkx
        by_cases hqi : q = i
        · subst hqi; rw [ho] at hx; cases hx; exact absurd hkx hk2
        · simp only [PM.beq_f hqi, cond_false]; exact hkk q x hx hkx
      -- the writers between are loose
      have between : ∀ q x, ops[q]? = some x → kindD E x.op = .k2 → (i ≤ q ∧ q < k) ∨ (k ≤ q ∧ q < i) → kindD E o.op = .k1 → md q = .quiet ∧ md i = .low := by
        intro q x hx hkx hor hk1
        have hqi : q ≠ i := fun e => by subst e; rw [ho] at hx; cases hx; exact hk2 hkx
        have hb1 : bef b q i = false := by
          cases hbb : bef b q i with
          | false => rfl
          | true =>
            have := hbef q hbb
            have := (hkk q x hx hkx).1 this
            rcases hor with ⟨g1, g2⟩ | ⟨g1, g2⟩
            · obtain ⟨e, he, hbe, hor2⟩ := hP.befs i o ho q hbb
              have := hP.back i o ho e he hbe
              rcases hor2 with rfl | ⟨h5, h6⟩
              · omega
              · -- a writer that comes before lies before
                have hq2 : ∀ z : Nat, ∀ j, bef b j z = true → z < ops.size → j < z := by
                  intro z
                  induction z using Nat.strongRecOn with
                  | _ z ihz =>
                    intro j hj hz
                    obtain ⟨e2, he2, hbe2, hor3⟩ := hP.befs z _ (Array.getElem?_eq_getElem hz) j hj
                    have hlt := hP.back z _ (Array.getElem?_eq_getElem hz) e2 he2 hbe2
                    rcases hor3 with rfl | ⟨h7, h8⟩
                    · exact hlt
                    · have := ihz e2.on hlt j h7 (by omega); omega
                have := hq2 i q hbb hi
                omega
            · omega
        have hb2 : bef b i q = false := by
          cases hbb : bef b i q with
          | false => rfl
          | true =>
            have hq2 : ∀ z : Nat, ∀ j, bef b j z = true → z < ops.size → j < z := by
              intro z
              induction z using Nat.strongRecOn with
              | _ z ihz =>
                intro j hj hz
                obtain ⟨e2, he2, hbe2, hor3⟩ := hP.befs z _ (Array.getElem?_eq_getElem hz) j hj
                have hlt := hP.back z _ (Array.getElem?_eq_getElem hz) e2 he2 hbe2
                rcases hor3 with rfl | ⟨h7, h8⟩
                · exact hlt
                · have := ihz e2.on hlt j h7 (by omega); omega
            have hqs := (Array.getElem?_eq_some_iff.1 hx).1
            have := hq2 q i hbb hqs
            rcases hor with ⟨g1, g2⟩ | ⟨g1, g2⟩
            · have hlq := (hkk q x hx hkx).2 g2
              have := hc q hqs hlq i hbb; rw [hl] at this; cases this
            · omega
        refine ⟨?_, ?_⟩
        · rw [hP.loose q i x o hqi hx ho (by rw [hk1, hkx]; rfl) hb2 hb1, hkx]
        · rw [hP.loose i q o x (Ne.symm hqi) ho hx (by rw [hk1, hkx]; rfl) hb1 hb2, hk1]
      have fin : ∀ {r : DN}, opD E (As i) (Ss i) o.op = some r → coreC E run r = some (Vs i, Ss (i + 1)) → (md i = .low → lowOps E (As i) S.next o.op = true) → opD E (As i) (Ss k) o.op = some (.val (Vs i) (Ss k)) := by
        intro r h1 h2 h3
        obtain ⟨u, rfl⟩ := opD_k h1 hk2
        simp only [coreC, Option.some.injEq, Prod.mk.injEq] at h2
        obtain ⟨rfl, _⟩ := h2
        cases hkd : kindD E o.op with
        | k0 => exact opD_k0 h1 hkd
        | k2 => exact absurd hkd hk2
        | k1 =>
          by_cases hlo : md i = .low
          · have hagr : Agree S.next (Ss i) (Ss k) := by
              rcases Nat.le_total i k with hik | hik
              · exact ss_agree hP T hlw hplw hik hk fun q x g1 g2 hx hkx => (between q x hx hkx (.inl ⟨g1, g2⟩) hkd).1
              · exact Agree.symm hP T (ss_agree hP T hlw hplw hik (by omega) fun q x g1 g2 hx hkx => (between q x hx hkx (.inr ⟨g1, g2⟩) hkd).1)
            exact opD_k1 h1 hkd (h3 hlo) hagr
          · have heq : Ss i = Ss k := by
              rcases Nat.le_total i k with hik | hik
              · exact (ss_between hP T hik hk fun q x g1 g2 hx hkx => hlo (between q x hx hkx (.inl ⟨g1, g2⟩) hkd).2).symm
              · exact ss_between hP T hik (by omega) fun q x g1 g2 hx hkx => hlo (between q x hx hkx (.inr ⟨g1, g2⟩) hkd).2
            rw [← heq]; exact h1
      have go : opD E (As i) (Ss k) o.op = some (.val (Vs i) (Ss k)) → o.wpIn (FF rd) n P a w K Q := by
        intro h1
        rw [← hcongr] at h1
        exact core_ok hE hcall hround h1 (v := Vs i) (S' := Ss k) rfl hH hA fun v' w' m' g1 g2 g3 => hK _ _ ⟨hcl', m', k, hk, stage, g2, newAR (hA.mono g3.le) g1, hF.trans g3⟩
      cases hm : md i with
      | quiet => exact absurd ((hP.tight i o ho).2 hm) hk2
      | free =>
        rw [hm] at hcore
        simp only [Option.bind_eq_some_iff] at hcore
        obtain ⟨r, h1, h2⟩ := hcore
        exact go (fin h1 h2 fun h => by rw [hm] at h; cases h)
      | low =>
        rw [hm] at hcore
        obtain ⟨hlo, hcore⟩ := cond_some hcore
        simp only [Option.bind_eq_some_iff] at hcore
        obtain ⟨r, h1, h2⟩ := hcore
        exact go (fin h1 h2 fun _ => hlo)

end Go.Proofs.Ytcookjolkhcjhaa.D
