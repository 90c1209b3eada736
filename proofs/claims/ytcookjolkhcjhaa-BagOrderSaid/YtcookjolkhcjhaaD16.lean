/-
  D, part 16: loops over functions; code: the run of D, and the model's.
-/
import Derived.Test.YtcookjolkhcjhaaD15
import Derived.LoopNIn
namespace Go.Proofs.Ytcookjolkhcjhaa.D
set_option linter.unusedSectionVars false

theorem run_enterLoop_inner {P : Program} {w : World} {l0 : Nat} {r0 : Loop} (h : w.heap[l0]? = some (.loop r0)) (fn : FuncId) (tmps : Array Value) (ps : Array Tmp) (assign body : Code) :
    (Instr.enterLoop fn tmps ps assign body (some l0)).run P w =
      .ok (w.heap.size, []) (w.alloc (.loop { state := .ready, pending := none, fn, tmps, params := ps, assign, body, defers := r0.defers })) := by
  unfold Instr.enterLoop
  simp only [Sem.run_bind, run_getLoop h, run_newObj_alloc, Result.andThen, Sem.run_pure]

section
variable {E : Env} {P : Program} (hE : E.Ok P)
include hE

/-- The iterator's call, and the jump that a round left. -/
theorem rangeGo_ok {run : Runner} (hcall : CallOk E P (callF E run)) {g g' : Value} {l : Nat} {A A' : Ac} {S S' : St} {ex : Exit} (h : rangeGo E run g l A S = some (ex, A', S')) {m : Mp} {w : World} {a : Act} {rd : Option Nat} {n : Nat} {x : BM}
    (hg : VR m g g') (hl : m l = some x) (hH : HR E m S w) (hA : AR E m A a rd) {Q : Exit → Act → World → Prop} (hQ : ∀ a' w' m', HR E m' S' w' → AR E m' A' a' rd → Fr m S w m' S' w' → Q ex a' w') :
    ∃ (d : Deferred) (f : FuncId) (args : Array Value), (Deferred.ofValue g' #[.func (.yield x.blk) #[] #[]]).run P w = .ok d w ∧ (invoke d.target d.args).run P w = .ok (.enter f args) w ∧
      CallsIn (FF rd) (n - 1) P f args w (rangePost (FF rd) n P x.blk Q a) := by
  unfold rangeGo at h
  split at h
  · rename_i f first captured
    split at h
    · cases h
    · rename_i hp
      rw [Option.bind_eq_some_iff] at h
      obtain ⟨⟨v, S1⟩, h1, h2⟩ := h
      cases hg with
      | fn _ _ fs' _ cs' hny q1 q2 q3 q4 =>
        obtain ⟨hent, hc⟩ := hcall f _ S v S1 h1
        have hy : VRs m [Value.func (.yield l) #[] #[]] [Value.func (.yield x.blk) #[] #[]] := .cons (.yield l x hl) .nil
        have hargs : VRs m (first.toList ++ [Value.func (.yield l) #[] #[]] ++ captured.toList) ((fs' ++ #[Value.func (.yield x.blk) #[] #[]]) ++ cs').toList := by
          have := ((VRs.of_array q1 q2).append hy).append (VRs.of_array q3 q4)
          simpa using this
        refine ⟨{ target := .fn (.func f) cs', args := fs' ++ #[.func (.yield x.blk) #[] #[]] }, f, _, rfl, callFunc_run hent _ w, ?_⟩
        refine (callsIn_FF (hc m w _ (n - 1) hH hargs)).mono ?_
        rintro e w1 ⟨v', m1, rfl, g1, g2, g3⟩
        have hm1 := g3.le _ _ hl
        unfold endLoopD at h2
        split at h2
        · rename_i r hgr
          obtain ⟨x1, r', p1, p2, p3⟩ := HR.loopAt hE g2 hgr
          rw [hm1] at p1; cases p1
          cases hb : isBusy r.state with
          | true => rw [hb] at h2; cases h2
          | false =>
            rw [hb] at h2
            have hnb : r'.state ≠ .busy := by rw [p3.state]; exact isBusy_iff hE hb
            have hend := run_endLoop (P := P) p2 hnb
            obtain ⟨b1, b2⟩ := HR.setLoop hE g2 (r2 := { r with state := .exhausted }) (r2' := { r' with state := .exhausted }) hgr hm1 p2 ⟨rfl, p3.pending, p3.tmps, p3.params, p3.assign, p3.body, p3.dfr⟩
            have all := g3.trans b2
            have hend' : (Instr.endLoop x.blk).run P w1 = .ok r.pending (w1.putObj x.blk (.loop { r' with state := .exhausted })) := by
              rw [hend]; congr 1; exact p3.pending
            refine ⟨r.pending, _, hend', ?_⟩
            simp only [cond_false] at h2
            split at h2
            · rename_i hp; cases h2; rw [hp]; exact hQ _ _ _ b1 (hA.mono all.le) all
            · rename_i hp; cases h2; rw [hp]; exact wpIn_ret (hQ _ _ _ b1 (hA.mono all.le) all)
            · rename_i id hp; cases h2; rw [hp]; exact wpIn_exit (hQ _ _ _ b1 (hA.mono all.le) all)
            · cases h2
        · cases h2
  · cases h

theorem rangeF_ok {run : Runner} (hcall : CallOk E P (callF E run)) {f : Operand} {ps : Array Tmp} {assign body : Code} {A A' : Ac} {S S' : St} {ex : Exit} (h : rangeF E run f ps assign body A S = some (ex, A', S')) {m : Mp} {w : World} {a : Act} {rd : Option Nat} {n : Nat}
    (hH : HR E m S w) (hA : AR E m A a rd) {Q : Exit → Act → World → Prop} (hQ : ∀ a' w' m', HR E m' S' w' → AR E m' A' a' rd → Fr m S w m' S' w' → Q ex a' w') :
    (Code.rangeFunc f ps assign body).wpIn (FF rd) n P Q a w := by
  unfold rangeF at h
  rw [Option.bind_eq_some_iff] at h
  obtain ⟨g, hg, h⟩ := h
  refine wpIn_rangeFunc ?_
  intro fn _
  rw [FF_round]
  have hrd := hA.rd
  cases hr : A.rd with
  | none =>
    rw [hr] at hrd h
    simp only at hrd h
    subst hrd
    -- the block of the rounds' deferred calls
    let x0 : BM := ⟨w.heap.size, 0, 0, 1⟩
    obtain ⟨k1, k2⟩ := HR.alloc hH .deferred (.deferred (some [])) x0 rfl rfl
    have hm1 : (m.put S.next x0) S.next = some x0 := by simp
    -- the record
    let x1 : BM := ⟨w.heap.size + 1, 0, 0, 1⟩
    have hA1 := hA.mono k2.le
    have hfr1 := k1.fresh
    have hle1 : (m.put S.next x0).le ((m.put S.next x0).put (S.alloc .deferred).2.next x1) := Mp.le_put hfr1
    let r' : Loop := { state := .ready, pending := none, fn, tmps := a.tmps, params := ps, assign, body, defers := w.heap.size }
    obtain ⟨k3, k4⟩ := HR.alloc k1 (.loop { state := .ready, pending := none, regs := A.regs, n := A.n, params := ps, assign, body, dfr := S.next }) (.loop r') x1 (by simp [x1])
      ⟨r', rfl, rfl, rfl, hA1.tmps.mono hle1, rfl, rfl, rfl, x0, hle1 _ _ hm1, rfl⟩
    have all := k2.trans k4
    have hg' := (eval_vr hH hA hg).mono all.le
    have hA2 : AR E ((m.put S.next x0).put (S.alloc .deferred).2.next x1) { regs := A.regs, n := A.n, defers := S.next :: A.defers, rd := none } { a with defers := ⟨.collected w.heap.size, #[]⟩ :: a.defers } none := by
      have hA3 := hA.mono all.le
      refine ⟨hA3.tmps, ⟨by simp [hA3.defs.1], ?_⟩, rfl⟩
      intro i d hd
      cases i with
      | zero => simp at hd; subst hd; exact ⟨x0, hle1 _ _ hm1, rfl⟩
      | succ i => simp at hd; obtain ⟨y, y1, y2⟩ := hA3.defs.2 i d hd; exact ⟨y, y1, by simpa using y2⟩
    obtain ⟨d, f', args, q1, q2, q3⟩ := rangeGo_ok (n := n) hE hcall h hg' (Mp.put_same _ _ _) k3 hA2 fun a' w' m' g1 g2 g3 => hQ a' w' m' g1 g2 (all.trans g3)
    refine ⟨w.heap.size + 1, [⟨.collected w.heap.size, #[]⟩], _, d, _, f', args, _, run_enterLoop_outer fn a.tmps ps assign body, ?_, fun _ _ => trivial, q2, FF_depth none, q3⟩
    simp only [resolve, List.map_toArray, List.map_cons, List.map_nil, Act.eval]
    exact q1
  | some l0 =>
    rw [hr] at hrd h
    simp only at hrd h
    obtain ⟨y, hy, rfl⟩ := hrd
    split at h
    · rename_i r0 hg0
      obtain ⟨y1, r0', p1, p2, p3⟩ := HR.loopAt hE hH hg0
      rw [hy] at p1; cases p1
      let x1 : BM := ⟨w.heap.size, 0, 0, 1⟩
      have hle1 : m.le (m.put S.next x1) := Mp.le_put hH.fresh
      let r' : Loop := { state := .ready, pending := none, fn, tmps := a.tmps, params := ps, assign, body, defers := r0'.defers }
      obtain ⟨k3, k4⟩ := HR.alloc hH (.loop { state := .ready, pending := none, regs := A.regs, n := A.n, params := ps, assign, body, dfr := r0.dfr }) (.loop r') x1 rfl
        ⟨r', rfl, rfl, rfl, hA.tmps.mono hle1, rfl, rfl, rfl, let ⟨z, z1, z2⟩ := p3.dfr; ⟨z, hle1 _ _ z1, z2⟩⟩
      have hg' := (eval_vr hH hA hg).mono k4.le
      have hA2 := hA.mono k4.le
      obtain ⟨d, f', args, q1, q2, q3⟩ := rangeGo_ok (n := n) hE hcall h hg' (Mp.put_same _ _ _) k3 hA2 fun a' w' m' g1 g2 g3 => hQ a' w' m' g1 g2 (k4.trans g3)
      refine ⟨w.heap.size, [], _, d, _, f', args, _, run_enterLoop_inner p2 fn a.tmps ps assign body, ?_, fun _ _ => trivial, q2, FF_depth _, q3⟩
      simp only [resolve, List.map_toArray, List.map_cons, List.map_nil, Act.eval]
      exact q1
    · cases h

theorem loopD_ok {run : Runner} (hrun : RunOk E P run) {c : Code} : ∀ (k : Nat) {A A' : Ac} {S S' : St} {ex : Exit}, loopD run c k A S = some (ex, A', S') → ∀ {m : Mp} {w : World} {a : Act} {rd : Option Nat} {n : Nat} {Q : Exit → Act → World → Prop},
    HR E m S w → AR E m A a rd → (∀ a' w' m', HR E m' S' w' → AR E m' A' a' rd → Fr m S w m' S' w' → Q ex a' w') → Code.roundsIn (FF rd) n P c Q k a w := by
  intro k
  induction k with
  | zero => intro A A' S S' ex h; cases h
  | succ k ih =>
    intro A A' S S' ex h m w a rd n Q hH hA hQ
    unfold loopD at h
    rw [roundsIn_succ]
    split at h
    · rename_i A1 S1 h1
      refine hrun c A S .normal A1 S1 h1 m w a rd n _ hH hA ?_
      intro a1 w1 m1 g1 g2 g3
      exact ih h g1 g2 fun a2 w2 m2 k1 k2 k3 => hQ a2 w2 m2 k1 k2 (g3.trans k3)
    · rename_i hne
      refine hrun c A S ex A' S' h m w a rd n _ hH hA ?_
      intro a1 w1 m1 g1 g2 g3
      cases ex with
      | normal => exact absurd h (hne _ _)
      | _ => exact hQ a1 w1 m1 g1 g2 g3

theorem stepD_ok (hprim : PrimOk E P) {draw : Draw} (hdraw : DrawOk E P draw) {run : Runner} (hrun : RunOk E P run) (hlw : RunLw run) (k : Nat) : RunOk E P (stepD E draw k run) := by
  have hcall := callF_ok hE hrun hprim
  have hround := roundF_ok hE hrun
  intro c A S ex A' S' h m w a rd n Q hH hA hQ
  cases c with
  | skip => cases h; exact wpIn_skip (hQ a w m hH hA (.refl _ _ _))
  | label _ => cases h; exact wpIn_label (hQ a w m hH hA (.refl _ _ _))
  | region id ops dr =>
    cases dr with
    | false =>
      simp only [stepD, Option.map_eq_some_iff] at h
      obtain ⟨⟨A1, S1⟩, h1, h2⟩ := h
      cases h2
      rw [← range_filterMap ops] at h1
      exact wpIn_region (opsD_ok hE hcall hround _ h1 hH hA hQ)
    | true =>
      simp only [stepD, Option.map_eq_some_iff] at h
      obtain ⟨⟨A1, S1⟩, h1, h2⟩ := h
      cases h2
      exact hdraw run hrun hlw ops A S _ _ h1 m w a rd n id Q hH hA hQ
  | seq x y =>
    refine wpIn_seq ?_
    simp only [stepD] at h
    cases h1 : run x A S with
    | none => rw [h1] at h; cases h
    | some p =>
      obtain ⟨e1, A1, S1⟩ := p
      rw [h1] at h
      refine hrun x A S e1 A1 S1 h1 m w a rd n _ hH hA ?_
      intro a1 w1 m1 g1 g2 g3
      cases e1 with
      | normal => exact hrun y A1 S1 ex A' S' h m1 w1 a1 rd n Q g1 g2 fun a2 w2 m2 k1 k2 k3 => hQ a2 w2 m2 k1 k2 (g3.trans k3)
      | _ => cases h; exact hQ a1 w1 m1 g1 g2 g3
  | cond c x y =>
    simp only [stepD, Option.bind_eq_some_iff] at h
    obtain ⟨v, h1, h2⟩ := h
    have hv := eval_vr hH hA h1
    unfold condD at h2
    split at h2
    · rename_i t
      have hc : a.eval c = .bool t := by generalize a.eval c = q at hv; cases hv; rfl
      refine wpIn_cond hc ?_
      cases t with
      | true => exact hrun x A S ex A' S' h2 m w a rd n Q hH hA hQ
      | false => exact hrun y A S ex A' S' h2 m w a rd n Q hH hA hQ
    · cases h2
  | block id b =>
    refine wpIn_block ?_
    simp only [stepD] at h
    cases h1 : run b A S with
    | none => rw [h1] at h; cases h
    | some p =>
      obtain ⟨e1, A1, S1⟩ := p
      rw [h1] at h
      refine hrun b A S e1 A1 S1 h1 m w a rd n _ hH hA ?_
      intro a1 w1 m1 g1 g2 g3
      cases e1 with
      | exit i =>
        simp only [blockD, Option.some.injEq, Prod.mk.injEq] at h
        obtain ⟨h2, rfl, rfl⟩ := h
        simp only [Exit.inBlock]
        cases hb : Nat.beq i id with
        | true =>
          rw [hb] at h2; subst h2
          rw [if_pos (Nat.eq_of_beq_eq_true hb)]
          exact hQ a1 w1 m1 g1 g2 g3
        | false =>
          rw [hb] at h2; subst h2
          rw [if_neg (fun e => by subst e; simp at hb)]
          exact hQ a1 w1 m1 g1 g2 g3
      | _ => cases h; exact hQ a1 w1 m1 g1 g2 g3
  | loop b => exact wpIn_loop_rounds k (loopD_ok hE hrun k h hH hA hQ)
  | rangeFunc f ps x y => exact rangeF_ok hE hcall h hH hA hQ
  | exit id => cases h; exact wpIn_exit (hQ a w m hH hA (.refl _ _ _))
  | scope b =>
    refine wpIn_scope ?_
    simp only [stepD] at h
    cases h1 : run b A S with
    | none => rw [h1] at h; cases h
    | some p =>
      obtain ⟨e1, A1, S1⟩ := p
      rw [h1] at h
      refine hrun b A S e1 A1 S1 h1 m w a rd n _ hH hA ?_
      intro a1 w1 m1 g1 g2 g3
      cases e1 with
      | goto l => cases h
      | _ => cases h; exact hQ a1 w1 m1 g1 g2 g3
  | ret => cases h; exact wpIn_ret (hQ a w m hH hA (.refl _ _ _))
  | goto _ => cases h
  | refuse _ => cases h

theorem exec_ok (hprim : PrimOk E P) (hplw : PrimLw E) {draw : Draw} (hdraw : DrawOk E P draw) (hdlw : DrawLw draw) : ∀ k, RunOk E P (exec E draw k) := by
  intro k
  induction k with
  | zero => intro c A S ex A' S' h; cases h
  | succ k ih => exact stepD_ok hE hprim hdraw ih (exec_lw hdlw hplw k) k
end

end Go.Proofs.Ytcookjolkhcjhaa.D
