/-
  D, part 13: every operation of D, and the model's.
-/
import Derived.Test.YtcookjolkhcjhaaD12
namespace Go.Proofs.Ytcookjolkhcjhaa.D
set_option linter.unusedSectionVars false

theorem VRs.inv {m : Mp} {x : Value} {l l' : List Value} (h : VRs m (x :: l) l') : ∃ x' r', l' = x' :: r' ∧ VR m x x' ∧ VRs m l r' := by
  cases h with
  | cons h1 h2 => exact ⟨_, _, rfl, h1, h2⟩
theorem VRs.inv1 {m : Mp} {x : Value} {l' : List Value} (h : VRs m [x] l') : ∃ x', l' = [x'] ∧ VR m x x' := by
  obtain ⟨x', r', rfl, h1, h2⟩ := h.inv
  cases h2
  exact ⟨x', rfl, h1⟩
theorem VRs.inv2 {m : Mp} {x y : Value} {l' : List Value} (h : VRs m [x, y] l') : ∃ x' y', l' = [x', y'] ∧ VR m x x' ∧ VR m y y' := by
  obtain ⟨x', r', rfl, h1, h2⟩ := h.inv
  obtain ⟨y', rfl, h3⟩ := h2.inv1
  exact ⟨x', y', rfl, h1, h3⟩

section
variable {E : Env} {P : Program} (hE : E.Ok P) {m : Mp} {S : St} {w : World} {A : Ac} {a : Act} {rd : Option Nat} (hH : HR E m S w) (hA : AR E m A a rd)
include hE hH hA

omit hE hA in
theorem Sim.ofV {s : Sem Value} {x : Option Value} {r : DN} (h : ofV S x = some r) (hs : ∀ v, x = some v → SV P m w s v) : Sim E P m S w (do pure (.value (← s))) r := by
  unfold Go.Proofs.Ytcookjolkhcjhaa.D.ofV at h
  rw [Option.map_eq_some_iff] at h
  obtain ⟨v, h1, rfl⟩ := h
  obtain ⟨v', h2, h3⟩ := hs v h1
  exact ⟨v', m, w, by simp [h2], h3, hH, .refl _ _ _⟩
omit hE hA hH in
theorem Sim.ofP {s : Sem Value} {x : Option (Value × St)} {r : DN} (h : ofP x = some r) (hs : ∀ v S', x = some (v, S') → SP E P m S w s v S') : Sim E P m S w (do pure (.value (← s))) r := by
  unfold Go.Proofs.Ytcookjolkhcjhaa.D.ofP at h
  rw [Option.map_eq_some_iff] at h
  obtain ⟨⟨v, S'⟩, h1, rfl⟩ := h
  obtain ⟨v', m', w', h2, h3, h4, h5⟩ := hs v S' h1
  exact ⟨v', m', w', by simp [h2], h3, h4, h5⟩
omit hE hA hH in
theorem Sim.ofS {s : Sem Unit} {x : Option St} {r : DN} (h : ofS x = some r) (hs : ∀ S', x = some S' → SU E P m S w s S') : Sim E P m S w (do s; pure .skip) r := by
  unfold Go.Proofs.Ytcookjolkhcjhaa.D.ofS at h
  rw [Option.map_eq_some_iff] at h
  obtain ⟨S', h1, rfl⟩ := h
  obtain ⟨m', w', h2, h4, h5⟩ := hs S' h1
  exact ⟨m', w', by simp [h2], h4, h5⟩
omit hE hA hH in
theorem Sim.ofSP {s : Sem Value} {v : Value} {S' : St} (h : SP E P m S w s v S') : Sim E P m S w (do pure (.value (← s))) (.val v S') := by
  obtain ⟨v', m', w', h2, h3, h4, h5⟩ := h
  exact ⟨v', m', w', by simp [h2], h3, h4, h5⟩

omit hE in
theorem optD_vr {x : Option Operand} {v : Option Value} (h : optD E A x = some v) : VRo m v (x.map a.eval) := by
  cases x with
  | none => cases h; trivial
  | some x =>
    simp only [optD, Option.map_eq_some_iff] at h
    obtain ⟨u, h1, rfl⟩ := h
    exact eval_vr hH hA h1
omit hE in
theorem partsD_vr : ∀ {ps : List (Nat × Operand)} {parts : List (Nat × Value)}, partsD E A ps = some parts → PR m parts (ps.map fun (i, x) => (i, a.eval x)) := by
  intro ps
  induction ps with
  | nil => intro parts h; cases h; exact ⟨rfl, by simp⟩
  | cons p ps ih =>
    intro parts h
    obtain ⟨i, x⟩ := p
    simp only [partsD, Option.bind_eq_some_iff, Option.map_eq_some_iff] at h
    obtain ⟨v, h1, r, h2, rfl⟩ := h
    obtain ⟨h3, h4⟩ := ih h2
    refine ⟨by simp [h3], ?_⟩
    intro j p p' e e'
    cases j with
    | zero => simp at e e'; subst e; subst e'; exact ⟨rfl, eval_vr hH hA h1⟩
    | succ j => exact h4 j p p' (by simpa using e) (by simpa using e')

omit hE hH hA in
theorem args_array {xs : Array Operand} {l : List Value} (h : xs.toList.map a.eval = l) : xs.map a.eval = l.toArray := by
  apply Array.ext'; simp [h]

theorem builtinD_sim {b : Builtin} {ts : Array TypeId} {ty : TypeId} {cs : Array Bool} {args args' : List Value} {v : Value} {S' : St} (h : builtinD E S b ts args = some (v, S')) (hv : VRs m args args') :
    Sim E P m S w (builtin b ts ty cs args'.toArray) (.val v S') := by
  unfold builtinD at h
  split at h
  · obtain ⟨x', rfl, hx⟩ := VRs.inv1 hv
    simp only [Option.bind_eq_some_iff, Option.map_eq_some_iff] at h
    obtain ⟨t, h0, u, h1, h2⟩ := h
    cases h2
    exact Sim.ofSP (SV.sp hH (lenD_sim hE hH h0 h1 hx))
  · obtain ⟨x', rfl, hx⟩ := VRs.inv1 hv
    simp only [Option.bind_eq_some_iff, Option.map_eq_some_iff] at h
    obtain ⟨t, h0, u, h1, h2⟩ := h
    cases h2
    exact Sim.ofSP (SV.sp hH (capD_sim hE hH h0 h1 hx))
  · obtain ⟨s', x', rfl, hs, hx⟩ := VRs.inv2 hv
    simp only [Option.bind_eq_some_iff] at h
    obtain ⟨t, h0, u, h1, h2⟩ := h
    exact Sim.ofSP (appendD_sim hE hH h0 h1 h2 hs hx)
  · obtain ⟨s', x', rfl, hs, hx⟩ := VRs.inv2 hv
    simp only [Option.bind_eq_some_iff] at h
    obtain ⟨t, h0, h2⟩ := h
    exact Sim.ofSP (copyD_sim hE hH h0 h2 hs hx)
  · obtain ⟨s', x', rfl, hs, hx⟩ := VRs.inv2 hv
    simp only [Option.bind_eq_some_iff, Option.map_eq_some_iff] at h
    obtain ⟨t, h0, S2, h1, h2⟩ := h
    cases h2
    exact Sim.ofSP (deleteD_sim hE hH h0 h1 hs hx)
  · obtain ⟨x', rfl, hx⟩ := VRs.inv1 hv
    simp only [Option.bind_eq_some_iff, Option.map_eq_some_iff] at h
    obtain ⟨t, h0, S2, h1, h2⟩ := h
    cases h2
    exact Sim.ofSP (clearD_sim hE hH h0 h1 hx)
  · obtain ⟨x', r', rfl, hx, hr⟩ := VRs.inv hv
    rw [Option.map_eq_some_iff] at h
    obtain ⟨u, h1, h2⟩ := h
    cases h2
    obtain ⟨v', h3, h4⟩ := minmaxD_run (P := P) (w := w) h1 hx hr
    exact Sim.ofSP (SV.sp hH ⟨v', h3, h4⟩)
  · obtain ⟨x', r', rfl, hx, hr⟩ := VRs.inv hv
    rw [Option.map_eq_some_iff] at h
    obtain ⟨u, h1, h2⟩ := h
    cases h2
    obtain ⟨v', h3, h4⟩ := minmaxD_run (P := P) (w := w) h1 hx hr
    exact Sim.ofSP (SV.sp hH ⟨v', h3, h4⟩)
  · cases h

omit hE hH hA in
theorem callFunc_run {f : Nat} (hf : Enterable P f) (args : Array Value) (w : World) : (callFunc f args).run P w = .ok (.enter f args) w := by
  obtain ⟨fn, h1, h2, h3⟩ := hf
  simp only [callFunc, Sem.run_bind, run_program, Result.andThen_ok, h1, h3, h2, Bool.false_eq_true, if_false, Sem.run_pure]

theorem callD_sim {c : Call} {ty : TypeId} {r : DN} (h : callD E A S c = some r) : Sim E P m S w (do let d ← resolve a.eval c ty; invoke d.target d.args) r := by
  unfold callD at h
  rw [Option.bind_eq_some_iff] at h
  obtain ⟨args, ha, h⟩ := h
  have hv := evals_vr hH hA ha
  have harr : c.args.map a.eval = (c.args.toList.map a.eval).toArray := args_array rfl
  obtain ⟨callee, cargs, ctypes⟩ := c
  simp only at h harr ha hv
  cases callee with
  | builtin b =>
    unfold Go.Proofs.Ytcookjolkhcjhaa.D.ofP at h
    rw [Option.map_eq_some_iff] at h
    obtain ⟨⟨v, S'⟩, h1, rfl⟩ := h
    have := builtinD_sim (ty := ty) (cs := cargs.map fun | .const _ => true | _ => false) hE hH hA h1 hv
    simp only [resolve, pure_bind, invoke, harr]
    exact this
  | value f =>
    rw [Option.bind_eq_some_iff] at h
    obtain ⟨g, hg, h⟩ := h
    have hgv := eval_vr hH hA hg
    generalize hfe : a.eval f = q at hgv
    unfold calleeD at h
    split at h
    · rename_i g first captured
      cases h
      cases hgv with
      | fn _ _ fs' _ cs' hny h1 h2 h3 h4 =>
        refine ⟨rfl, fun hf => ?_⟩
        refine ⟨(fs' ++ (cargs.toList.map a.eval).toArray) ++ cs', ?_, ?_⟩
        · simp only [resolve, harr, hfe, Deferred.ofValue, pure_bind, invoke]
          exact callFunc_run hf _ w
        · have := ((VRs.of_array h1 h2).append hv).append (VRs.of_array h3 h4)
          simpa using this
    · rename_i l fs cs
      cases h
      cases hgv with
      | yield _ x hx =>
        refine ⟨rfl, x, #[] ++ (cargs.toList.map a.eval).toArray, hx, ?_, by simpa using hv⟩
        simp only [resolve, harr, hfe, Deferred.ofValue, pure_bind, invoke]
      | fn _ _ _ _ _ hny => exact absurd rfl (hny _)
    · cases h
  | invoke _ _ => cases h

theorem op_sim {o : Oper} {r : DN} (h : opD E A S o.op = some r) : Sim E P m S w (execOp a.eval o) r := by
  obtain ⟨dst, op, type, pos, after, guard⟩ := o
  simp only at h
  have ev : ∀ {x : Operand} {v : Value}, A.eval E x = some v → VR m v (a.eval x) := fun h => eval_vr hH hA h
  cases op <;> simp only [opD, Option.bind_eq_some_iff, Option.map_eq_some_iff] at h
  case move x =>
    unfold ofV at h
    rw [Option.map_eq_some_iff] at h
    obtain ⟨v, h1, rfl⟩ := h
    exact ⟨a.eval x, m, w, rfl, ev h1, hH, .refl _ _ _⟩
  case assign x =>
    unfold ofV at h
    rw [Option.map_eq_some_iff] at h
    obtain ⟨v, h1, rfl⟩ := h
    exact ⟨a.eval x, m, w, rfl, ev h1, hH, .refl _ _ _⟩
  case pick c x y =>
    obtain ⟨v, h1, h2⟩ := h
    unfold ofV at h2
    rw [Option.map_eq_some_iff] at h2
    obtain ⟨u, h3, rfl⟩ := h2
    have hc := ev h1
    unfold pickD at h3
    split at h3
    · rename_i t
      refine ⟨if t then a.eval x else a.eval y, m, w, ?_, ?_, hH, .refl _ _ _⟩
      · have hce : a.eval c = .bool t := by generalize a.eval c = q at hc; cases hc; rfl
        simp [execOp, hce, asBool]
      · cases t with
        | true => exact ev h3
        | false => exact ev h3
    · cases h3
  case alloc e =>
    obtain ⟨z, hz, rfl⟩ := h
    exact Sim.ofSP (alloc_sim hE hH hz)
  case box e x =>
    obtain ⟨v, hv, rfl⟩ := h
    exact Sim.ofSP (box_sim hE hH (ev hv))
  case build t ps =>
    obtain ⟨parts, h1, h2⟩ := h
    refine Sim.ofV hH h2 fun v hv => buildD_sim hE hH hv ?_
    have := partsD_vr hH hA h1
    simpa using this
  case buildSlice t n ps =>
    obtain ⟨parts, h1, h2⟩ := h
    refine Sim.ofP h2 fun v S' hv => buildSliceD_sim hE hH hv ?_
    have := partsD_vr hH hA h1
    simpa using this
  case load t x =>
    obtain ⟨v, h1, h2⟩ := h
    exact Sim.ofV hH h2 fun u hu => loadV_sim hE hH hu (ev h1)
  case store t p x =>
    obtain ⟨v, h1, u, h2, h3⟩ := h
    exact Sim.ofS h3 fun S' hs => storeV_sim hE hH hs (ev h1) (ev h2)
  case nilCheck x =>
    obtain ⟨v, h1, h2⟩ := h
    unfold ofV at h2
    rw [Option.map_eq_some_iff] at h2
    obtain ⟨u, h3, rfl⟩ := h2
    have hv := ev h1
    refine ⟨a.eval x, m, w, ?_, ?_, hH, .refl _ _ _⟩
    · simp only [execOp]
      generalize a.eval x = q at hv
      unfold nilD at h3
      split at h3
      · cases hv <;> rfl
      · cases hv <;> rfl
      · cases hv <;> rfl
      · cases h3
    · have : u = v := by unfold nilD at h3; split at h3 <;> first | (cases h3; rfl) | cases h3
      rw [this]; exact hv
  case binOp op t x y u =>
    obtain ⟨v, h1, b, h2, h3⟩ := h
    exact Sim.ofV hH h3 fun u hu => binD_sim hE hH hu (ev h1) (ev h2)
  case unOp op t x =>
    obtain ⟨v, h1, h2⟩ := h
    refine Sim.ofV hH h2 fun u hu => ?_
    obtain ⟨h3, h4⟩ := unD_run (P := P) (w := w) hu
    have hv := ev h1
    refine ⟨u, ?_, h4.vr⟩
    have : a.eval x = v := by
      generalize a.eval x = q at hv
      unfold unD at hu
      split at hu
      · cases hv; rfl
      · cases hv; rfl
      · cases hu
    rw [this]; exact h3
  case convert s t x =>
    obtain ⟨v, h1, h2⟩ := h
    exact Sim.ofP h2 fun u S' hu => convertD_sim hE hH hu (ev h1)
  case makeInterface t x =>
    obtain ⟨v, h1, h2⟩ := h
    refine Sim.ofV hH h2 fun u hu => ?_
    unfold ifaceD at hu
    split at hu
    · cases hu
    · rename_i d hd hn
      obtain ⟨i, hi, hd⟩ := und_of hE hH hn
      cases hu
      refine ⟨.iface t (a.eval x), ?_, .iface _ _ _ (ev h1)⟩
      simp only [Instr.makeInterface, Sem.run_bind, run_und hE hi w, hd, Result.andThen_ok]
      cases d <;> first | rfl | (exact absurd rfl (hd _))
    · cases hu
  case makeFunc fn first captured =>
    obtain ⟨fs, h1, cs, h2, h3⟩ := h
    obtain ⟨h4, h5⟩ := cond_some h3
    cases h5
    have hf := evals_vr hH hA h1
    have hc := evals_vr hH hA h2
    refine ⟨.func fn (first.map a.eval) (captured.map a.eval), m, w, rfl, ?_, hH, .refl _ _ _⟩
    obtain ⟨f1, f2⟩ := VRs.array (a := fs.toArray) (a' := first.map a.eval) (by simpa using hf)
    obtain ⟨c1, c2⟩ := VRs.array (a := cs.toArray) (a' := captured.map a.eval) (by simpa using hc)
    refine .fn _ _ _ _ _ ?_ f1 f2 c1 c2
    rintro l rfl; cases h4
  case makeMap t x =>
    obtain ⟨v, h1, h2⟩ := h
    obtain ⟨h3, h4⟩ := cond_some h2
    cases h4
    have hv := optD_vr hH hA h1
    let x' : BM := ⟨w.heap.size, 0, 0, 1⟩
    obtain ⟨g1, g2⟩ := HR.alloc hH (.map [] 0) (.map #[] 0) x' rfl ⟨#[], rfl, .nil⟩
    refine ⟨.map (some w.heap.size), _, _, ?_, ?_, g1, g2⟩
    · simp only [execOp]
      cases v with
      | none =>
        cases x with
        | some _ => cases hv
        | none => simp [Instr.makeMap]
      | some u =>
        cases x with
        | none => cases hv
        | some y =>
          have hv : VR m u (a.eval y) := hv
          unfold hintOk at h3
          split at h3
          · rename_i heq; cases heq
          · rename_i k n heq
            cases heq
            split at h3
            · rename_i kt e hu
              obtain ⟨d, hd, hu⟩ := und_of hE hH hu
              have he : a.eval y = .int k n := by generalize a.eval y = q at hv; cases hv; rfl
              simp [Instr.makeMap, he, run_und hE hd w, hu, asInt, asIntOf]
            · cases h3
          · cases h3
    · exact VR.mp (m := m.put S.next x') S.next x' (by simp)
  case makeSlice t l c =>
    obtain ⟨v, h1, u, h2, h3⟩ := h
    exact Sim.ofP h3 fun q S' hq => makeSliceD_sim hE hH hq (ev h1) (ev h2)
  case slice t x lo hi mx =>
    obtain ⟨v, h1, l, h2, hh, h3, mm, h4, h5⟩ := h
    exact Sim.ofV hH h5 fun u hu => sliceD_sim hE hH hu (ev h1) (optD_vr hH hA h2) (optD_vr hH hA h3) (optD_vr hH hA h4)
  case fieldAddr t x f =>
    obtain ⟨v, h1, h2⟩ := h
    exact Sim.ofV hH h2 fun u hu => fieldAddrD_sim hE hH hu (ev h1)
  case field t x f =>
    obtain ⟨v, h1, h2⟩ := h
    exact Sim.ofV hH h2 fun u hu => fieldD_sim hE hH hu (ev h1)
  case indexAddr t x i =>
    obtain ⟨v, h1, j, h2, h3⟩ := h
    exact Sim.ofV hH h3 fun u hu => indexAddrD_sim hE hH hu (ev h1) (ev h2)
  case index t x i =>
    obtain ⟨v, h1, j, h2, h3⟩ := h
    exact Sim.ofV hH h3 fun u hu => indexD_sim hE hH hu (ev h1) (ev h2)
  case lookup t x k ok =>
    obtain ⟨v, h1, j, h2, h3⟩ := h
    exact Sim.ofV hH h3 fun u hu => lookupD_sim hE hH hu (ev h1) (ev h2)
  case mapUpdate t x k y =>
    obtain ⟨v, h1, j, h2, u, h3, h4⟩ := h
    exact Sim.ofS h4 fun S' hs => mapUpdateD_sim hE hH hs (ev h1) (ev h2) (ev h3)
  case insert t x k y =>
    obtain ⟨v, h1, j, h2, u, h3, h4⟩ := h
    exact Sim.ofS h4 fun S' hs => mapUpdateD_sim hE hH hs (ev h1) (ev h2) (ev h3)
  case mapEntry t x k =>
    obtain ⟨v, h1, j, h2, h3⟩ := h
    exact Sim.ofP h3 fun u S' hu => mapEntryD_sim hE hH hu (ev h1) (ev h2)
  case entryStore t x k y =>
    obtain ⟨v, h1, j, h2, u, h3, h4⟩ := h
    exact Sim.ofS h4 fun S' hs => entryStoreD_sim hE hH hs (ev h1) (ev h2) (ev h3)
  case extract x i =>
    obtain ⟨v, h1, h2⟩ := h
    refine Sim.ofV hH h2 fun u hu => ?_
    unfold extractD at hu
    split at hu
    · rename_i vs
      have hv := ev h1
      generalize a.eval x = q at hv
      cases hv with
      | tup _ vs' g1 g2 =>
        obtain ⟨v', g3, g4⟩ := (VRs.of_array g1 g2).get hu
        have : vs'[i]? = some v' := by simpa using g3
        exact ⟨v', by simp [Instr.extract, this], g4⟩
    · cases hu
  case call c => exact callD_sim hE hH hA h
  all_goals cases h
end

end Go.Proofs.Ytcookjolkhcjhaa.D
