/-
  D, part 15: calls, rounds, loops, code: the run of D, and the model's.
-/
import Derived.Test.YtcookjolkhcjhaaD14
namespace Go.Proofs.Ytcookjolkhcjhaa.D
set_option linter.unusedSectionVars false

section
variable {E : Env} {P : Program} (hE : E.Ok P)
include hE

/-! ### Results, and the marks -/
theorem resultsD_run {m : Mp} {S : St} {w : World} {A : Ac} {tmps : Array Value} (hH : HR E m S w) (hT : TR m A.regs A.n tmps) : ∀ {rs : List ResultVar} {vs : List Value}, resultsD E S A rs = some vs →
    ∃ vs', (rs.mapM (m := Sem) fun
      | .tmp t => pure (tmps.getD t undef)
      | .cell a t => do loadVar t (← asAddr (tmps.getD a undef))).run P w = .ok vs' w ∧ VRs m vs vs' := by
  intro rs
  induction rs with
  | nil => intro vs h; cases h; exact ⟨[], by simp, .nil⟩
  | cons r rs ih =>
    intro vs h
    simp only [resultsD, Option.bind_eq_some_iff, Option.map_eq_some_iff] at h
    obtain ⟨v, h1, us, h2, rfl⟩ := h
    obtain ⟨vs', h3, h4⟩ := ih h2
    rw [List.mapM_cons]
    cases r with
    | tmp t =>
      cases h1
      refine ⟨tmps.getD t undef :: vs', ?_, .cons (hT.reg t) h4⟩
      simp only [Sem.run_bind, Sem.run_pure, Result.andThen_ok, h3]
    | cell a t =>
      have hp := hT.reg a
      have h1 : loadV E S t (A.get a) = some v := h1
      obtain ⟨v', h5, h6⟩ := loadV_sim (P := P) hE hH h1 hp
      refine ⟨v' :: vs', ?_, .cons h6 h4⟩
      have h7 : (do loadVar t (← asAddr (tmps.getD a undef)) : Sem Value).run P w = .ok v' w := by
        rw [← h5]
        have : ∃ b o, A.get a = .pointer (some ⟨b, o, none⟩) := by
          unfold loadV at h1
          split at h1
          · rename_i b o heq; exact ⟨b, o, heq⟩
          · cases h1
        obtain ⟨b, o, e⟩ := this
        unfold Ac.get at e
        rw [e] at hp
        generalize tmps.getD a undef = q at hp
        cases hp with
        | ptr _ _ x hx => simp [asAddr, Instr.loadAt, Instr.sureAddr]
      simp only [Sem.run_bind, Sem.run_pure]
      simp only [Sem.run_bind] at h7
      rw [h7, Result.andThen_ok, h3]
      rfl

theorem leaveD_run {m : Mp} {S : St} {w : World} {A : Ac} {tmps : Array Value} {fn : Func} {v : Value} (hH : HR E m S w) (hT : TR m A.regs A.n tmps) {vs : List Value} (h : resultsD E S A fn.results.toList = some vs) (hv : v = tupleD vs) :
    ∃ v', (results fn tmps).run P w = .ok v' w ∧ VR m v v' := by
  obtain ⟨vs', h1, h2⟩ := resultsD_run (P := P) hE hH hT h
  subst hv
  have hrun : (fn.results.mapM (m := Sem) fun
      | .tmp t => pure (tmps.getD t undef)
      | .cell a t => do loadVar t (← asAddr (tmps.getD a undef))).run P w = .ok vs'.toArray w := by
    rw [Array.mapM_eq_mapM_toList, Sem.run_map, h1]; rfl
  have h3 : ∀ u, (if h : vs'.toArray.size = 1 then vs'.toArray[0] else .tuple vs'.toArray) = u → (results fn tmps).run P w = .ok u w := by
    intro u hu
    subst hu
    unfold results
    rw [Sem.run_bind]
    refine (congrArg (fun r => Result.andThen r _) hrun).trans ?_
    rfl
  cases h2 with
  | nil => exact ⟨_, h3 _ rfl, by simp [tupleD]; exact .tup _ _ rfl (by simp)⟩
  | cons g1 g2 =>
    cases g2 with
    | nil => exact ⟨_, h3 _ rfl, by simp [tupleD]; exact g1⟩
    | cons g3 g4 =>
      refine ⟨_, h3 _ rfl, ?_⟩
      have hl := g4.length
      simp [tupleD]
      obtain ⟨k1, k2⟩ := VRs.array (a := (_ :: _ :: _ : List Value).toArray) (a' := (_ :: _ :: _ : List Value).toArray) (by simpa using VRs.cons g1 (VRs.cons g3 g4))
      exact .tup _ _ k1 k2

/-- The frame's end: the marks, then the results. -/
theorem shut_run {m : Mp} {fn : Func} {tmps : Array Value} {R : Ending → World → Prop} {n : Nat} {A : Ac} : ∀ {ds : List Nat} {dfs : List Deferred} {S S2 : St} {w : World}, shutD ds S = some S2 →
    HR E m S w → TR m A.regs A.n tmps → (dfs.length = ds.length ∧ ∀ (i d : Nat), ds[i]? = some d → ∃ x, m d = some x ∧ dfs[i]? = some (⟨.collected x.blk, #[]⟩ : Deferred)) →
    (∀ w2, HR E m S2 w2 → Fr m S w m S2 w2 → ∃ v, (results fn tmps).run P w2 = .ok v w2 ∧ R (.returned v) w2) →
    LeavesInM (FF none) n P fn tmps R dfs .returning w := by
  intro ds
  induction ds with
  | nil =>
    intro dfs S S2 w h hH hT hd hR
    cases h
    have : dfs = [] := List.length_eq_zero_iff.1 (by simpa using hd.1)
    subst this
    exact hR w hH (.refl _ _ _)
  | cons d ds ih =>
    intro dfs S S2 w h hH hT hd hR
    cases dfs with
    | nil => simp at hd
    | cons df dfs =>
      simp only [shutD] at h
      split at h
      · rename_i hg
        obtain ⟨x, hx, h1⟩ := hd.2 0 d rfl
        simp at h1
        obtain ⟨y, hy, h2⟩ := hH.obj d _ hg rfl
        rw [hx] at hy; cases hy
        have h2 : w.heap[x.blk]? = some (.deferred (some [])) := h2
        have hk := HR.killW hH (w' := w.putObj x.blk (.deferred none)) hg rfl hx World.putObj_size (fun c hc => World.putObj_heap_other hc) rfl rfl rfl
        refine ⟨by simp, .inl ⟨x.blk, _, by rw [h1], run_takeDeferred h2, ih h hk.1 hT ⟨by simpa using hd.1, fun i e he => ?_⟩ fun w2 g1 g2 => hR w2 g1 (hk.2.trans g2)⟩⟩
        obtain ⟨z, hz1, hz2⟩ := hd.2 (i + 1) e (by simpa using he)
        exact ⟨z, hz1, by simpa using hz2⟩
      · cases h

theorem initial_ar {m : Mp} {args : List Value} {args' : Array Value} (hv : VRs m args args'.toList) (nt : Nat) :
    AR E m { regs := PM.ofList args 0 .leaf, n := args.length + (nt - args.length), defers := [], rd := none } { tmps := args' ++ Array.replicate (nt - args'.size) undef, defers := [] } none := by
  have hl : args.length = args'.size := by simpa using hv.length
  refine ⟨⟨by simp [hl], ?_⟩, ⟨rfl, by simp⟩, rfl⟩
  intro t
  rw [PM.get_ofList]
  by_cases ht : t < args.length
  · rw [if_pos ⟨Nat.zero_le _, by omega⟩]
    obtain ⟨v', h1, h2⟩ := hv.get (i := t) (v := args[t]) (by simp [ht])
    have e1 : args'[t]? = some v' := by simpa using h1
    have e2 : (args' ++ Array.replicate (nt - args'.size) undef).getD t undef = v' := by
      rw [Array.getD_eq_getD_getElem?, Array.getElem?_append_left (by omega), e1]; rfl
    rw [e2]
    simpa [ht] using h2
  · rw [if_neg (by omega)]
    have e2 : (args' ++ Array.replicate (nt - args'.size) undef).getD t undef = undef := by
      rw [Array.getD_eq_getD_getElem?, Array.getElem?_append_right (by omega)]
      rw [Array.getElem?_replicate]
      split <;> rfl
    rw [e2]
    exact VR.undef

theorem callF_ok {run : Runner} (hrun : RunOk E P run) (hprim : PrimOk E P) : CallOk E P (callF E run) := by
  intro f args S v S' h
  unfold callF at h
  split at h
  · rename_i p hp
    have := hprim f p hp f args S v S' (by simpa using h)
    exact this
  · split at h
    · rename_i fn hfn
      split at h
      · rename_i c hc
        obtain ⟨hf, hname⟩ := hE.fn f fn hfn
        refine ⟨⟨fn, hf, by rw [hc]; rfl, hname⟩, ?_⟩
        intro m w args' n hH hv
        have hl : args.length = args'.size := by simpa using hv.length
        refine callsIn_of_wp_marks hf hc trivial ?_
        -- the two ways out are one
        have key : ∀ ex A S1, run c { regs := PM.ofList args 0 .leaf, n := args.length + (fn.ntmps - args.length), defers := [], rd := none } S = some (ex, A, S1) → (ex = .normal ∨ ex = .ret) → leaveD E fn A S1 = some (v, S') →
            c.wpIn (FF none) n P (bodyPostM (FF none) n P fn fun e w' => ∃ v' m', e = .returned v' ∧ VR m' v v' ∧ HR E m' S' w' ∧ Fr m S w m' S' w') { tmps := args' ++ Array.replicate (fn.ntmps - args'.size) undef, defers := [] } w := by
          intro ex A S1 hr hex hlv
          refine hrun c _ S ex A S1 hr m w _ none n _ hH (initial_ar hE hv fn.ntmps) ?_
          intro a' w' m' k1 k2 k3
          unfold leaveD at hlv
          simp only [Option.bind_eq_some_iff, Option.map_eq_some_iff] at hlv
          obtain ⟨S2, h2, vs, h3, h4⟩ := hlv
          cases h4
          have : LeavesInM (FF none) n P fn a'.tmps (fun e w' => ∃ v' m', e = .returned v' ∧ VR m' (tupleD vs) v' ∧ HR E m' S' w' ∧ Fr m S w m' S' w') a'.defers .returning w' := by
            refine shut_run (A := A) hE h2 k1 k2.tmps k2.defs fun w2 g1 g2 => ?_
            obtain ⟨v', q1, q2⟩ := leaveD_run (P := P) (fn := fn) hE g1 k2.tmps h3 rfl
            exact ⟨v', q1, v', m', rfl, q2, g1, k3.trans g2⟩
          rcases hex with rfl | rfl
          · exact this
          · exact this
        unfold bodyF at h
        split at h
        · rename_i A S1 hr; exact key _ _ _ hr (.inl rfl) h
        · rename_i A S1 hr; exact key _ _ _ hr (.inr rfl) h
        · cases h
      · cases h
    · cases h

/-! ### Rounds -/
theorem HR.loopAt {m : Mp} {S : St} {w : World} (hH : HR E m S w) {l : Nat} {r : DLoop} (hg : S.heap.get l = some (.loop r)) : ∃ x r', m l = some x ∧ w.heap[x.blk]? = some (.loop r') ∧ LR m r r' := by
  obtain ⟨x, h1, r', h2, h3⟩ := hH.obj l _ hg rfl
  exact ⟨x, r', h1, h2, h3⟩
/-- The record of a loop turns. -/
theorem HR.setLoop {m : Mp} {S : St} {w : World} (hH : HR E m S w) {l : Nat} {r r2 : DLoop} {r' r2' : Loop} {x : BM} (hg : S.heap.get l = some (.loop r)) (hm : m l = some x) (hw : w.heap[x.blk]? = some (.loop r')) (hl : LR m r2 r2') :
    HR E m (S.upd l (.loop r2)) (w.putObj x.blk (.loop r2')) ∧ Fr m S w m (S.upd l (.loop r2)) (w.putObj x.blk (.loop r2')) := by
  have hb : x.blk < w.heap.size := (Array.getElem?_eq_some_iff.1 hw).1
  refine HR.upd hH hg rfl hm ?_ World.putObj_size (fun c hc => World.putObj_heap_other hc) rfl rfl rfl
  rw [World.putObj_heap_same hb]
  exact ⟨r2', rfl, hl⟩

theorem putAll_run {m : Mp} : ∀ {ts : List Tmp} {vs vs' : List Value} {A A' : Ac} {tmps : Array Value}, putAll ts vs A = some A' → VRs m vs vs' → TR m A.regs A.n tmps →
    ts.length = vs'.length ∧ TR m A'.regs A'.n ((ts.zip vs').foldl (fun tmps p => tmps.setIfInBounds p.1 p.2) tmps) ∧ A'.defers = A.defers ∧ A'.rd = A.rd := by
  intro ts
  induction ts with
  | nil =>
    intro vs vs' A A' tmps h hv hT
    cases vs with
    | nil => cases h; cases hv; exact ⟨rfl, hT, rfl, rfl⟩
    | cons _ _ => cases h
  | cons t ts ih =>
    intro vs vs' A A' tmps h hv hT
    cases vs with
    | nil => cases h
    | cons v vs =>
      obtain ⟨v', r', rfl, h1, h2⟩ := hv.inv
      simp only [putAll, Option.bind_eq_some_iff] at h
      obtain ⟨A1, h3, h4⟩ := h
      obtain ⟨h5, h6⟩ := cond_some h3
      cases h6
      obtain ⟨h7, h8, h9, h10⟩ := ih (tmps := tmps.setIfInBounds t v') h4 h2 (hT.set (Nat.blt_eq.mp h5) h1)
      exact ⟨by simp [h7], h8, h9, h10⟩

theorem isReady_iff {s : LoopState} (h : isReady s = true) : s = .ready := by cases s <;> simp_all [isReady]
theorem isBusy_iff {s : LoopState} (h : isBusy s = false) : s ≠ .busy := by cases s <;> simp_all [isBusy]

theorem roundF_ok {run : Runner} (hrun : RunOk E P run) : RoundOk E P (roundF run) := by
  intro l args S v S' h m w x args' rd n hm hH hv
  unfold roundF at h
  split at h
  · rename_i r hg
    obtain ⟨x1, r', g1, g2, g3⟩ := HR.loopAt hE hH hg
    rw [hm] at g1; cases g1
    rw [Option.bind_eq_some_iff] at h
    obtain ⟨A, hA, h⟩ := h
    have hps : r'.params.toList = r.params.toList := by rw [g3.params]
    obtain ⟨k1, k2, k3, k4⟩ := putAll_run (m := m) (tmps := r'.tmps) hE hA hv g3.tmps
    have hy := run_yield (P := P) (args := args') g2 (by rw [g3.params]; simpa using k1.symm)
    refine ⟨r'.fn, _, r'.assign, r'.body, hy, roundIn_of_wpIn trivial ?_⟩
    split at h
    · rename_i A1 S1 hr1
      have hfold : (r'.params.zip args').foldl (fun tmps p => tmps.setIfInBounds p.1 p.2) r'.tmps = (r.params.toList.zip args'.toList).foldl (fun tmps p => tmps.setIfInBounds p.1 p.2) r'.tmps := by
        rw [← Array.foldl_toList, Array.toList_zip, hps]
      have hA0 : AR E m A { tmps := (r'.params.zip args').foldl (fun tmps p => tmps.setIfInBounds p.1 p.2) r'.tmps, defers := [] } (some x.blk) := by
        refine ⟨by rw [hfold]; exact k2, ⟨by rw [k3]; rfl, by rw [k3]; simp⟩, ?_⟩
        rw [k4]; exact ⟨x, hm, rfl⟩
      have e1 : r'.assign = r.assign := g3.assign
      rw [e1]
      refine hrun r.assign A S .normal A1 S1 hr1 m w _ (some x.blk) n _ hH hA0 ?_
      intro a1 w1 m1 q1 q2 q3
      have hm1 := q3.le _ _ hm
      unfold roundBody at h
      split at h
      · rename_i r1 hg1
        obtain ⟨hrd, h⟩ := cond_some h
        obtain ⟨x1, r1', p1, p2, p3⟩ := HR.loopAt hE q1 hg1
        rw [hm1] at p1; cases p1
        have hst : r1'.state = .ready := by rw [p3.state]; exact isReady_iff hE hrd
        obtain ⟨b1, b2⟩ := HR.setLoop hE q1 (r2 := { r1 with state := .busy }) (r2' := { r1' with state := .busy }) hg1 hm1 p2 ⟨rfl, p3.pending, p3.tmps, p3.params, p3.assign, p3.body, p3.dfr⟩
        refine ⟨_, run_beginRound p2 hst, ?_⟩
        split at h
        · rename_i e A2 S2 hr2
          have e2 : r'.body = r.body := g3.body
          rw [e2]
          refine hrun r.body A1 _ e A2 S2 hr2 m1 _ _ (some x.blk) n _ b1 q2 ?_
          intro a2 w2 m2 c1 c2 c3
          have hm2 := c3.le _ _ hm1
          unfold endRoundD at h
          split at h
          · rename_i r2 hg2
            obtain ⟨x2, r2', d1, d2, d3⟩ := HR.loopAt hE c1 hg2
            rw [hm2] at d1; cases d1
            have fin : ∀ (jump : Option Code), (Instr.endRound x.blk jump).run P w2 = .ok (.bool jump.isNone) (w2.putObj x.blk (.loop { r2' with state := if jump.isNone then .ready else .done, pending := jump })) ∧
                HR E m2 (S2.upd l (.loop { r2 with state := if jump.isNone then .ready else .done, pending := jump })) (w2.putObj x.blk (.loop { r2' with state := if jump.isNone then .ready else .done, pending := jump })) ∧
                Fr m2 S2 w2 m2 (S2.upd l (.loop { r2 with state := if jump.isNone then .ready else .done, pending := jump })) (w2.putObj x.blk (.loop { r2' with state := if jump.isNone then .ready else .done, pending := jump })) := by
              intro jump
              exact ⟨run_endRound jump d2, HR.setLoop hE c1 hg2 hm2 d2 ⟨rfl, rfl, d3.tmps, d3.params, d3.assign, d3.body, d3.dfr⟩⟩
            have all := ((q3.trans b2).trans c3)
            cases e with
            | normal =>
              cases h
              obtain ⟨f1, f2, f3⟩ := fin none
              exact ⟨_, _, f1, .bool true, m2, rfl, .bool _, f2, all.trans f3⟩
            | ret =>
              cases h
              obtain ⟨f1, f2, f3⟩ := fin (some .ret)
              exact ⟨_, _, f1, .bool false, m2, rfl, .bool _, f2, all.trans f3⟩
            | exit id =>
              cases h
              obtain ⟨f1, f2, f3⟩ := fin (some (.exit id))
              exact ⟨_, _, f1, .bool false, m2, rfl, .bool _, f2, all.trans f3⟩
            | goto _ => cases h
            | panic _ => cases h
            | outgrown => cases h
          · cases h
        · cases h
      · cases h
    · cases h
  · cases h

end

end Go.Proofs.Ytcookjolkhcjhaa.D
