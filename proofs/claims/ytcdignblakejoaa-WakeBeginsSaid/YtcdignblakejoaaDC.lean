/- Parts of the proof, put together. -/
import Derived.Test.YtcdignblakejoaaDB
import Derived.ProofKit
/-
  D, part 22: the facts on a program's types, drawn from the program; what a run of D says of a law.
-/
namespace Go.Proofs.Ytcdignblakejoaa.D
noncomputable section
open Go.RowKit
set_option linter.unusedSectionVars false

/-! ### The environment -/
def zeroD : Option Value → Option Value
  | some z => cond (plainB z) (some z) none
  | none => none
def noBlankD : TypeDesc → Bool
  | .struct fs => fs.toList.all fun f => f.name != "_"
  | _ => true
def infoOf (P : Program) (t : Nat) : Option DInfo :=
  match P.info? t with
  | some i =>
    match P.underlying t with
    | some u => some { und := u, size := i.size, bytes := i.bytes, zero := zeroD i.zero, comparable := i.comparable, eqg := P.eqGuardType P.depth t, noBlank := !P.stoodInHeld t && noBlankD u }
    | none => none
  | none => none

theorem infoOf_ok {P : Program} {t : Nat} {d : DInfo} (h : infoOf P t = some d) : InfOk P t d := by
  unfold infoOf at h
  split at h
  · rename_i i hi
    split at h
    · rename_i u hu
      cases h
      refine ⟨⟨i, hi, hu, rfl, rfl, ?_, rfl⟩, rfl, ?_⟩
      · intro z hz
        unfold zeroD at hz
        split at hz
        · rename_i z' hz'
          obtain ⟨h1, h2⟩ := cond_some hz
          cases h2; exact ⟨hz', plainB_sound h1⟩
        · cases hz
      · intro hb
        simp only [Bool.and_eq_true, Bool.not_eq_true'] at hb
        refine ⟨hb.1, ?_⟩
        rintro fs rfl f hf
        have := hb.2
        simp only [noBlankD, List.all_eq_true] at this
        have := this f hf
        simpa using this
    · cases h
  · cases h

/-- A row of named places, laid as a map. -/
def layD {α : Type} : List (Nat × α) → PM α
  | [] => .leaf
  | p :: r => (layD r).set p.1 p.2
theorem layD_mem {α : Type} : ∀ {l : List (Nat × α)} {k : Nat} {v : α}, (layD l).get k = some v → (k, v) ∈ l := by
  intro l
  induction l with
  | nil => intro k v h; simp [layD] at h
  | cons p l ih =>
    intro k v h
    simp only [layD, PM.get_set] at h
    split at h
    · rename_i hk; cases h; subst hk; simp
    · exact List.mem_cons_of_mem _ (ih h)

theorem envOk {P : Program} {E : Env} {ts : List (Nat × DInfo)} {fs : List (Nat × Func)} (h1 : ∀ t, E.inf t = (layD ts).get t) (h2 : ∀ f, E.fn f = (layD fs).get f)
    (h3 : ts.map (fun p => infoOf P p.1) = ts.map fun p => some p.2) (h4 : ∀ p ∈ fs, P.funcs[p.1]? = some p.2) (h5 : fs.all (fun p => !(p.2.name == "runtime.NumGoroutine")) = true) : E.Ok P := by
  refine ⟨?_, ?_⟩
  · intro t d h
    rw [h1] at h
    have hm := layD_mem h
    have key : ∀ (l : List (Nat × DInfo)), l.map (fun p => infoOf P p.1) = l.map (fun p => some p.2) → ∀ p ∈ l, infoOf P p.1 = some p.2 := by
      intro l
      induction l with
      | nil => intro _ p hp; cases hp
      | cons q l ih =>
        intro h p hp
        simp only [List.map_cons, List.cons.injEq] at h
        rcases List.mem_cons.1 hp with rfl | hp
        · exact h.1
        · exact ih h.2 p hp
    exact infoOf_ok (key ts h3 _ hm)
  · intro f fn h
    rw [h2] at h
    have hm := layD_mem h
    have := List.all_eq_true.1 h5 _ hm
    exact ⟨h4 _ hm, by simpa using this⟩

/-! ### A law: it answers true, and leaves what was there -/
theorem calls_of_run {E : Env} {P : Program} (hE : E.Ok P) (hm : P.follows .mixedOrders = true) (hprim : PrimOk E P) (hplw : PrimLw E) {k f : Nat} {args : List Value} {S S' : St} {v : Value}
    (h : callF E (exec E drawD k) f args S = some (v, S')) {m : Mp} {w : World} {args' : Array Value} (hH : HR E m S w) (hv : VRs m args args'.toList) (hro : ∀ c, c < w.heap.size → ¬ Own m S c) (hf : E.prim f = none) :
    Calls P f args' w fun e w' => (∃ v' m', e = .returned v' ∧ VR m' v v') ∧ Below w.heap.size w w' := by
  have h1 := ((execD_ok hE hm hprim hplw k f args S v S' h).resolve_right fun hh => hh.1 hf).2 m w args' 0 hH hv
  have h2 : Calls P f args' w fun e w' => ∃ v' m', e = .returned v' ∧ VR m' v v' ∧ HR E m' S' w' ∧ Fr m S w m' S' w' := callsIn_wide.1 h1
  refine h2.mono ?_
  rintro e w' ⟨v', m', h3, h4, _, h5⟩
  exact ⟨⟨v', m', h3, h4⟩, ⟨h5.os, h5.tape, h5.output, h5.size, fun c hc => h5.keep c hc (hro c hc)⟩⟩

/-- A run that answers true. -/
theorem calls_true {E : Env} {P : Program} (hE : E.Ok P) (hm : P.follows .mixedOrders = true) (hprim : PrimOk E P) (hplw : PrimLw E) {k f : Nat} {args : List Value} {S S' : St}
    (h : callF E (exec E drawD k) f args S = some (.bool true, S')) {m : Mp} {w : World} {args' : Array Value} (hH : HR E m S w) (hv : VRs m args args'.toList) (hro : ∀ c, c < w.heap.size → ¬ Own m S c) (hf : E.prim f = none) :
    Calls P f args' w fun e w' => e = .returned (.bool true) ∧ Below w.heap.size w w' := by
  refine (calls_of_run hE hm hprim hplw h hH hv hro hf).mono ?_
  rintro e w' ⟨⟨v', m', rfl, h4⟩, h5⟩
  cases h4
  exact ⟨rfl, h5⟩

/-- Did it answer true? -/
def okTrue (r : Option (Value × St)) : Bool := match r with | some (.bool b, _) => b | _ => false
theorem okTrue_some {r : Option (Value × St)} (h : okTrue r = true) : ∃ S, r = some (.bool true, S) := by
  unfold okTrue at h
  split at h
  · rename_i b S; subst h; exact ⟨S, rfl⟩
  · cases h
/-- Where a law without arguments starts. -/
def startS (E : Env) : St := ⟨.leaf, E.globs, 0⟩
def startM (E : Env) : Mp := fun g => if g < E.globs then some ⟨g, 0, 0, 0⟩ else none
theorem start_hr (E : Env) (w : World) : HR E (startM E) (startS E) w := by
  refine ⟨?_, ?_, ?_, ?_⟩
  · intro b x h
    unfold startM at h
    split at h
    · assumption
    · cases h
  · intro g hg
    exact ⟨⟨g, 0, 0, 0⟩, by simp [startM, hg], rfl, rfl⟩
  · intro b o x h; simp [startS] at h
  · intro b b' o o' x x' h; simp [startS] at h
/-- A law without arguments: D has run it. -/
theorem calls_closed {E : Env} {P : Program} (hE : E.Ok P) (hm : P.follows .mixedOrders = true) (hprim : PrimOk E P) (hplw : PrimLw E) {k f : Nat}
    (h : okTrue (callF E (exec E drawD k) f [] (startS E)) = true) (w : World) (hf : E.prim f = none := by rfl) :
    Calls P f #[] w fun e w' => e = .returned (.bool true) ∧ Below w.heap.size w w' := by
  obtain ⟨S, h⟩ := okTrue_some h
  refine calls_true hE hm hprim hplw h (start_hr E w) .nil ?_ hf
  rintro c _ ⟨b, o, x, h1, _⟩
  simp [startS] at h1
/-- No function is stood in for. -/
theorem prim_none_ok {E : Env} {P : Program} (h : ∀ f, E.prim f = none) : PrimOk E P := fun f p hp => by rw [h] at hp; cases hp
theorem prim_none_lw {E : Env} (h : ∀ f, E.prim f = none) : PrimLw E := fun f p hp => by rw [h] at hp; cases hp

theorem below_frozen {W W' : World} (hb : Below W.heap.size W W') {a : Addr} (ha : a.block < W.heap.size) : W'.frozen? a = W.frozen? a := by
  unfold World.frozen?
  rw [hb.block _ ha]
theorem below_kept {W W' : World} (hb : Below W.heap.size W W') (may : MemPlace → Prop) : W.keptBut W' may := by
  refine ⟨hb.os, hb.output, fun i hi => ?_⟩
  rw [hb.block i hi]
  cases W.heap[i]? with
  | none => rfl
  | some o =>
    cases o <;> simp

open Go.ChangeShapes Go.WideShapes in
/-- The row's 'post' of a law that answers true and leaves what was there. -/
theorem law_post {H : Type} {enc : TypeId × Value → H} {P : Program} {f : Func} {s : ChangeSpec} {apart fresh handsOn again : Bool} {W W' : World} {args : Array Value} {ds gs : List (DataW H)} {before : List MemPlace}
    (hl : laidOutB P = true) {tb : TypeId} (hft : f.resultTypes = #[tb]) (htb : P.underlying tb = some .bool)
    (hrec : ∀ t ∈ f.params.toList, P.readableRec t = true ∧ t < P.types.size)
    (hvars0 : s.vars = []) (hfn : s.fn H (ds ++ gs) = { results := [.lit (.bool true)], args := ds })
    (hW : DataW.Whole enc P f.params.toList s.vars apart W args.toList ds gs before) (hb : Below W.heap.size W W') :
    s.post enc P f apart fresh handsOn again W args (.bool true) W' := by
  have hlt := hW.lt
  have hW0 := hW
  obtain ⟨p, q, hA, hV, hpq, hz, hn⟩ := hW
  rw [hvars0] at hV
  obtain ⟨rfl, rfl⟩ := trodVars_none hV
  have key : ∀ (ts : List TypeId), (∀ t ∈ ts, P.readableRec t = true ∧ t < P.types.size) → ∀ (vs : List Value) (ds : List (DataW H)) (ps : List MemPlace), (∀ x ∈ ps, x.block < W.heap.size) →
      DataW.TrodAll enc P W 0 (fun _ => true) true ts vs ds ps → ∀ sp : Nat → Bool, (∀ p ∈ ps, sp p.block = true) → DataW.TrodAll enc P W' 0 sp true ts vs ds ps := by
    intro ts
    induction ts with
    | nil => intro _ vs ds ps _ h sp _; obtain ⟨rfl, rfl, rfl⟩ := trodAll_nil h; exact trodAll_mk0
    | cons t ts ih =>
      intro hr vs ds ps hps h sp hsp
      obtain ⟨v, vs1, d, ds1, a, b, rfl, rfl, rfl, h1, h2⟩ := trodAll_cons h
      have g := hr t (by simp)
      refine ⟨a, b, ?_, ih (fun t ht => hr t (by simp [ht])) _ _ _ (fun x hx => hps x (by simp [hx])) h2 sp (fun p hp => hsp p (by simp [hp])), rfl⟩
      exact WideElems.Trod_stays hl g.1 g.2 h1 (fun x hx => hb.same (hps x (by simp [hx]))) (fun x hx => hsp x (by simp [hx]))
  have hargs : ∀ sp : Nat → Bool, (∀ p ∈ before, sp p.block = true) → DataW.TrodAll enc P W' 0 sp true f.params.toList args.toList (s.fn H (ds ++ [])).args before := by
    intro sp hsp
    rw [hfn]
    have : p = before := by simpa using hpq.symm
    subst this
    exact key _ hrec _ _ _ hlt hA sp hsp
  have hres : ∀ (b : Nat) (sp : Nat → Bool) (hd : Bool), DataW.TrodAll enc P W' b sp hd f.resultTypes.toList ((Value.bool true).resultList f.resultTypes.size) (s.fn H (ds ++ [])).results [] := by
    intro b sp hd
    rw [hfn, hft]
    exact trodAll_mk1 (shut_bool htb true)
  have hvs : ∀ sp : Nat → Bool, DataW.TrodVars enc P W' sp s.vars (s.fn H (ds ++ [])).vars [] := by
    intro sp; rw [hvars0, hfn]; rfl
  have hold : ∀ p ∈ before, (fun b => decide (b < W.heap.size)) p.block = true := fun p hp => by simpa using hlt p hp
  refine ⟨ds, [], before, [], before, [], hW0, hres _ _ _, hargs _ hold, hvs _, World.keptBut_mono (fun p hp => ⟨hp, ?_⟩) (below_kept hb _), fun _ => ?_⟩
  · exact Or.inr (.inl hp)
  · refine ⟨?_, _, _, ([] ++ before) ++ [], ⟨[] ++ before, [], trodAll_append (hargs _ (fun _ _ => rfl)) (hres _ _ _), hvs _, rfl, ?_, ?_⟩, ?_⟩
    · exact ok_one (t := tb) hft rfl (okWide_bool_mk htb true)
    · intro b off hp
      have hp' : MemPlace.cell b off ∈ before := by simpa using hp
      rw [below_frozen hb (hlt _ hp')]
      exact hz b off hp'
    · intro ha
      have := hn ha
      simpa using this
    · intro p hp _
      simpa using hp

end
end Go.Proofs.Ytcdignblakejoaa.D

/-
  D, part 24: more fuel, the same answer; what code leaves of its temporaries.
-/
namespace Go.Proofs.Ytcdignblakejoaa.D
set_option linter.unusedSectionVars false

def RLe (r r' : Runner) : Prop := ∀ c A S x, r c A S = some x → r' c A S = some x

section
variable {E : Env} {r r' : Runner} (hr : RLe r r')
include hr
theorem bodyF_le {fn : Func} {c : Code} {args : List Value} {S : St} {x : Value × St} (h : bodyF E r fn c args S = some x) : bodyF E r' fn c args S = some x := by
  unfold bodyF at h ⊢
  split at h
  · rename_i A S' h1; rw [hr _ _ _ _ h1]; exact h
  · rename_i A S' h1; rw [hr _ _ _ _ h1]; exact h
  · cases h
theorem callF_le {f : Nat} {args : List Value} {S : St} {x : Value × St} (h : callF E r f args S = some x) : callF E r' f args S = some x := by
  unfold callF at h ⊢
  cases hp : E.prim f with
  | some p => simp only [hp] at h ⊢; exact h
  | none =>
    simp only [hp] at h ⊢
    cases hf : E.fn f with
    | none => simp only [hf] at h; cases h
    | some fn =>
      simp only [hf] at h ⊢
      cases hb : fn.body with
      | none => simp only [hb] at h; cases h
      | some c => simp only [hb] at h ⊢; exact bodyF_le hr h
theorem roundBody_le {l : Nat} {body : Code} {A : Ac} {S : St} {x : Value × St} (h : roundBody r l body A S = some x) : roundBody r' l body A S = some x := by
  unfold roundBody at h ⊢
  split at h
  · rename_i q hq
    obtain ⟨h1, h2⟩ := cond_some h
    rw [h1]
    split at h2
    · rename_i e A' S2 h3; rw [hr _ _ _ _ h3]; exact h2
    · cases h2
  · cases h
theorem roundF_le {l : Nat} {args : List Value} {S : St} {x : Value × St} (h : roundF r l args S = some x) : roundF r' l args S = some x := by
  unfold roundF at h ⊢
  split at h
  · rename_i q hq
    rw [Option.bind_eq_some_iff] at h ⊢
    obtain ⟨A, h1, h2⟩ := h
    refine ⟨A, h1, ?_⟩
    split at h2
    · rename_i A1 S1 h3; rw [hr _ _ _ _ h3]; exact roundBody_le hr h2
    · cases h2
  · cases h
theorem contD_le {dst : Option Tmp} {A : Ac} {d : DN} {x : Ac × St} (h : contD E r dst A d = some x) : contD E r' dst A d = some x := by
  cases d with
  | val v S => exact h
  | skip S => exact h
  | enter f args S =>
    simp only [contD] at h ⊢
    rw [Option.bind_eq_some_iff] at h ⊢
    obtain ⟨p, h1, h2⟩ := h
    exact ⟨p, callF_le hr h1, h2⟩
  | yield l args S =>
    simp only [contD] at h ⊢
    rw [Option.bind_eq_some_iff] at h ⊢
    obtain ⟨p, h1, h2⟩ := h
    exact ⟨p, roundF_le hr h1, h2⟩
theorem oneD_le {ops : Array Oper} {o : Oper} {A : Ac} {S : St} {x : Ac × St} (h : oneD E r ops o A S = some x) : oneD E r' ops o A S = some x := by
  unfold oneD at h ⊢
  cases hw : wantedD ops A o with
  | false => rw [hw] at h; exact h
  | true =>
    rw [hw] at h
    simp only [cond_true] at h ⊢
    rw [Option.bind_eq_some_iff] at h ⊢
    obtain ⟨d, h1, h2⟩ := h
    exact ⟨d, h1, contD_le hr h2⟩
theorem opsD_le {ops : Array Oper} : ∀ {l : List Oper} {A : Ac} {S : St} {x : Ac × St}, opsD E r ops l A S = some x → opsD E r' ops l A S = some x := by
  intro l
  induction l with
  | nil => intro A S x h; exact h
  | cons o l ih =>
    intro A S x h
    simp only [opsD] at h ⊢
    split at h
    · rename_i A' S' h1; rw [oneD_le hr h1]; exact ih h
    · cases h
theorem loopD_le {c : Code} : ∀ {k k' : Nat} {A : Ac} {S : St} {x : Exit × Ac × St}, k ≤ k' → loopD r c k A S = some x → loopD r' c k' A S = some x := by
  intro k
  induction k with
  | zero => intro k' A S x _ h; cases h
  | succ k ih =>
    intro k' A S x hk h
    cases k' with
    | zero => omega
    | succ k' =>
      simp only [loopD] at h ⊢
      split at h
      · rename_i A' S' h1; rw [hr _ _ _ _ h1]; exact ih (by omega) h
      · rename_i h1
        rw [hr _ _ _ _ h]
        split
        · rename_i A' S' h2; cases h2; exact (h1 _ _ h).elim
        · rfl
theorem coreC_le {d : DN} {x : Value × St} (h : coreC E r d = some x) : coreC E r' d = some x := by
  cases d with
  | val v S => exact h
  | skip S => exact h
  | enter f args S => exact callF_le hr h
  | yield l args S => exact roundF_le hr h
theorem coreM_le {ops : Array Oper} {T : List Rec} {p : It} {A : Ac} {S : St} {x : Value × St} (h : coreM E r ops T p A S = some x) : coreM E r' ops T p A S = some x := by
  unfold coreM at h ⊢
  split
  · rename_i hb; rw [hb] at h; exact h
  rename_i hb
  rw [hb] at h
  simp only at h
  cases hw : wantedD ops A p.1.1 with
  | false => rw [hw] at h; exact h
  | true =>
    rw [hw] at h
    simp only [cond_true] at h ⊢
    rw [Option.bind_eq_some_iff] at h ⊢
    obtain ⟨q, h1, h2⟩ := h
    refine ⟨q, ?_, h2⟩
    rw [Option.bind_eq_some_iff] at h1 ⊢
    obtain ⟨d, h3, h4⟩ := h1
    exact ⟨d, h3, coreC_le hr h4⟩
theorem goD_le {ops : Array Oper} : ∀ {l : List It} {T : List Rec} {A : Ac} {S : St} {x : Ac × St}, goD E r ops l T A S = some x → goD E r' ops l T A S = some x := by
  intro l
  induction l with
  | nil => intro T A S x h; exact h
  | cons p l ih =>
    intro T A S x h
    simp only [goD] at h ⊢
    split at h
    · rename_i v S' h1
      rw [coreM_le hr h1]
      simp only
      split at h
      · exact ih h
      · cases h
    · cases h
theorem drawD_le {ops : Array Oper} {A : Ac} {S : St} {x : Ac × St} (h : drawD E r ops A S = some x) : drawD E r' ops A S = some x := by
  unfold drawD at h ⊢
  split at h
  · rw [Option.bind_eq_some_iff] at h ⊢
    obtain ⟨q, h1, h2⟩ := h
    exact ⟨q, h1, goD_le hr h2⟩
  · cases h
theorem rangeGo_le {g : Value} {l : Nat} {A : Ac} {S : St} {x : Exit × Ac × St} (h : rangeGo E r g l A S = some x) : rangeGo E r' g l A S = some x := by
  unfold rangeGo at h ⊢
  split at h
  · split at h
    · cases h
    · rename_i hp
      rw [Option.bind_eq_some_iff] at h ⊢
      obtain ⟨p, h1, h2⟩ := h
      exact ⟨p, callF_le hr h1, h2⟩
  · cases h
theorem rangeF_le {f : Operand} {ps : Array Tmp} {a b : Code} {A : Ac} {S : St} {x : Exit × Ac × St} (h : rangeF E r f ps a b A S = some x) : rangeF E r' f ps a b A S = some x := by
  unfold rangeF at h ⊢
  rw [Option.bind_eq_some_iff] at h ⊢
  obtain ⟨g, h1, h2⟩ := h
  refine ⟨g, h1, ?_⟩
  cases hrd : A.rd with
  | none => simp only [hrd] at h2 ⊢; exact rangeGo_le hr h2
  | some l =>
    simp only [hrd] at h2 ⊢
    split at h2
    · exact rangeGo_le hr h2
    · cases h2
theorem stepD_le {n n' : Nat} (hn : n ≤ n') {c : Code} {A : Ac} {S : St} {x : Exit × Ac × St} (h : stepD E drawD n r c A S = some x) : stepD E drawD n' r' c A S = some x := by
  cases c with
  | skip => exact h
  | label l => exact h
  | region id ops d =>
    cases d with
    | false =>
      simp only [stepD] at h ⊢
      rw [Option.map_eq_some_iff] at h ⊢
      obtain ⟨p, h1, h2⟩ := h
      exact ⟨p, opsD_le hr h1, h2⟩
    | true =>
      simp only [stepD] at h ⊢
      rw [Option.map_eq_some_iff] at h ⊢
      obtain ⟨p, h1, h2⟩ := h
      exact ⟨p, drawD_le hr h1, h2⟩
  | seq a b =>
    simp only [stepD] at h ⊢
    cases ha : r a A S with
    | none => rw [ha] at h; cases h
    | some p =>
      obtain ⟨e, A', S'⟩ := p
      rw [ha] at h; rw [hr _ _ _ _ ha]
      cases e <;> first | exact hr _ _ _ _ h | exact h
  | cond c a b =>
    simp only [stepD] at h ⊢
    rw [Option.bind_eq_some_iff] at h ⊢
    obtain ⟨v, h1, h2⟩ := h
    refine ⟨v, h1, ?_⟩
    unfold condD at h2 ⊢
    split at h2
    · exact hr _ _ _ _ h2
    · cases h2
  | block id body =>
    simp only [stepD] at h ⊢
    cases ha : r body A S with
    | none => rw [ha] at h; cases h
    | some p => rw [ha] at h; rw [hr _ _ _ _ ha]; exact h
  | loop body => simp only [stepD] at h ⊢; exact loopD_le hr hn h
  | rangeFunc f ps a b => simp only [stepD] at h ⊢; exact rangeF_le hr h
  | exit id => exact h
  | scope body =>
    simp only [stepD] at h ⊢
    cases ha : r body A S with
    | none => rw [ha] at h; cases h
    | some p => rw [ha] at h; rw [hr _ _ _ _ ha]; exact h
  | ret => exact h
  | goto l => exact h
  | refuse w => exact h
end

theorem exec_le1 (E : Env) : ∀ n, RLe (exec E drawD n) (exec E drawD (n + 1)) := by
  intro n
  induction n with
  | zero => intro c A S x h; cases h
  | succ n ih => intro c A S x h; exact stepD_le ih (Nat.le_succ n) h
theorem exec_le (E : Env) {n n' : Nat} (h : n ≤ n') : RLe (exec E drawD n) (exec E drawD n') := by
  induction h with
  | refl => intro c A S x h; exact h
  | step _ ih => intro c A S x h; exact exec_le1 E _ c A S x (ih c A S x h)

/-! ### What code leaves of its temporaries -/
theorem cond_none {α : Type} {c : Bool} {x : Option α} {y : α} (h : cond c none x = some y) : c = false ∧ x = some y := by
  cases c
  · exact ⟨rfl, h⟩
  · cases h
def dstsO (ops : Array Oper) : List Tmp := ops.toList.filterMap (·.dst)
/-- The temporaries that code writes. -/
def asg : Code → List Tmp
  | .region _ ops _ => dstsO ops
  | .seq a b => asg a ++ asg b
  | .cond _ a b => asg a ++ asg b
  | .block _ b => asg b
  | .loop b => asg b
  | .scope b => asg b
  | _ => []
/-- Is a loop over a function in it? -/
def hasRF : Code → Bool
  | .rangeFunc _ _ _ _ => true
  | .seq a b => hasRF a || hasRF b
  | .cond _ a b => hasRF a || hasRF b
  | .block _ b => hasRF b
  | .loop b => hasRF b
  | .scope b => hasRF b
  | _ => false
/-- What is left as it was. -/
structure Same (d : Bool) (ts : List Tmp) (A A' : Ac) : Prop where
  n : A'.n = A.n
  rd : A'.rd = A.rd
  dfr : d = false → A'.defers = A.defers
  get : ∀ t, t ∉ ts → A'.regs.get t = A.regs.get t
theorem Same.refl (d : Bool) (ts : List Tmp) (A : Ac) : Same d ts A A := ⟨rfl, rfl, fun _ => rfl, fun _ _ => rfl⟩
theorem Same.trans {d : Bool} {ts : List Tmp} {A B C : Ac} (h : Same d ts A B) (k : Same d ts B C) : Same d ts A C :=
  ⟨k.n.trans h.n, k.rd.trans h.rd, fun e => (k.dfr e).trans (h.dfr e), fun t ht => (k.get t ht).trans (h.get t ht)⟩
theorem Same.mono {d d' : Bool} {ts ts' : List Tmp} {A B : Ac} (h : Same d ts A B) (h1 : d' = false → d = false) (h2 : ∀ t ∈ ts, t ∈ ts') : Same d' ts' A B :=
  ⟨h.n, h.rd, fun e => h.dfr (h1 e), fun t ht => h.get t fun hh => ht (h2 t hh)⟩
theorem put_same {A A' : Ac} {dst : Option Tmp} {v : Value} (h : A.put dst v = some A') {ts : List Tmp} (hd : ∀ t ∈ dst, t ∈ ts) : Same false ts A A' := by
  cases dst with
  | none => cases h; exact .refl _ _ _
  | some d =>
    unfold Ac.put at h
    obtain ⟨h1, h2⟩ := cond_some h
    cases h2
    refine ⟨rfl, rfl, fun _ => rfl, fun t ht => PM.get_set_ne ?_⟩
    rintro rfl; exact ht (hd _ rfl)
theorem contD_same {E : Env} {r : Runner} {dst : Option Tmp} {A A' : Ac} {S' : St} {d : DN} (h : contD E r dst A d = some (A', S')) {ts : List Tmp} (hd : ∀ t ∈ dst, t ∈ ts) : Same false ts A A' := by
  cases d with
  | val v S => simp only [contD] at h; rw [Option.map_eq_some_iff] at h; obtain ⟨a, h1, h2⟩ := h; cases h2; exact put_same h1 hd
  | skip S => simp only [contD] at h; rw [Option.map_eq_some_iff] at h; obtain ⟨a, h1, h2⟩ := h; cases h2; exact put_same h1 hd
  | enter f args S =>
    simp only [contD] at h; rw [Option.bind_eq_some_iff] at h; obtain ⟨p, _, h⟩ := h
    rw [Option.map_eq_some_iff] at h; obtain ⟨a, h1, h2⟩ := h; cases h2; exact put_same h1 hd
  | yield l args S =>
    simp only [contD] at h; rw [Option.bind_eq_some_iff] at h; obtain ⟨p, _, h⟩ := h
    rw [Option.map_eq_some_iff] at h; obtain ⟨a, h1, h2⟩ := h; cases h2; exact put_same h1 hd
theorem opsD_same {E : Env} {r : Runner} {ops : Array Oper} {ts : List Tmp} : ∀ {l : List Oper} {A A' : Ac} {S S' : St}, (∀ o ∈ l, ∀ t ∈ o.dst, t ∈ ts) → opsD E r ops l A S = some (A', S') → Same false ts A A' := by
  intro l
  induction l with
  | nil => intro A A' S S' _ h; cases h; exact .refl _ _ _
  | cons o l ih =>
    intro A A' S S' hl h
    simp only [opsD] at h
    split at h
    · rename_i B T h1
      refine Same.trans ?_ (ih (fun o ho => hl o (by simp [ho])) h)
      unfold oneD at h1
      cases hw : wantedD ops A o with
      | false =>
        rw [hw] at h1
        simp only [cond_false] at h1
        rw [Option.map_eq_some_iff] at h1; obtain ⟨a, h2, h3⟩ := h1; cases h3; exact put_same h2 (hl o (by simp))
      | true =>
        rw [hw] at h1
        simp only [cond_true] at h1
        rw [Option.bind_eq_some_iff] at h1; obtain ⟨d, _, h3⟩ := h1
        exact contD_same h3 (hl o (by simp))
    · cases h
theorem goD_same {E : Env} {r : Runner} {ops : Array Oper} {ts : List Tmp} : ∀ {l : List It} {T : List Rec} {A A' : Ac} {S S' : St}, (∀ o ∈ l, ∀ t ∈ o.1.1.dst, t ∈ ts) → goD E r ops l T A S = some (A', S') → Same false ts A A' := by
  intro l
  induction l with
  | nil => intro T A A' S S' _ h; cases h; exact .refl _ _ _
  | cons o l ih =>
    intro T A A' S S' hl h
    simp only [goD] at h
    split at h
    · split at h
      · rename_i h2
        exact (put_same h2 (hl o (by simp))).trans (ih (fun o ho => hl o (by simp [ho])) h)
      · cases h
    · cases h
theorem planD_mem {E : Env} {ops : Array Oper} {l : List ((Oper × Md) × Ph)} (h : planD E ops = some l) {p : (Oper × Md) × Ph} (hp : p ∈ l) : p.1.1 ∈ ops.toList := by
  obtain ⟨g, pr, b, md, _, hlen, hget⟩ := planD_spec h
  obtain ⟨i, hi, rfl⟩ := List.getElem_of_mem hp
  have hi' : i < ops.size := by omega
  have := hget i _ (Array.getElem?_eq_getElem hi')
  rw [List.getElem?_eq_getElem hi] at this
  rw [Option.some.inj this]
  simp
theorem preD_mem {E : Env} : ∀ {l : List ((Oper × Md) × Ph)} {A : Ac} {S S' : St} {its : List It} {p : It}, preD E l A S = some (its, S') → p ∈ its → ∃ q ∈ l, q.1 = p.1 := by
  intro l
  induction l with
  | nil => intro A S S' its p h hp; cases h; cases hp
  | cons q l ih =>
    intro A S S' its p h hp
    have plain : ∀ {A'}, (preD E l A' S).map (fun x => ((q.1, none) :: x.1, x.2)) = some (its, S') → ∃ q' ∈ q :: l, q'.1 = p.1 := by
      intro A' h
      rw [Option.map_eq_some_iff] at h
      obtain ⟨⟨l', S1⟩, h1, h2⟩ := h
      cases h2
      rcases List.mem_cons.1 hp with rfl | hp
      · exact ⟨q, by simp, rfl⟩
      · obtain ⟨q', hq, e⟩ := ih h1 hp
        exact ⟨q', by simp [hq], e⟩
    simp only [preD] at h
    split at h
    · split at h
      · rw [Option.map_eq_some_iff] at h
        obtain ⟨⟨l', S1⟩, h1, h2⟩ := h
        cases h2
        rcases List.mem_cons.1 hp with rfl | hp
        · exact ⟨q, by simp, rfl⟩
        · obtain ⟨q', hq, e⟩ := ih h1 hp
          exact ⟨q', by simp [hq], e⟩
      · cases h
    · split at h
      · split at h
        · exact plain h
        · cases h
      · cases h
    · exact plain h
theorem mem_dstsO {ops : Array Oper} {o : Oper} (ho : o ∈ ops.toList) {t : Tmp} (ht : t ∈ o.dst) : t ∈ dstsO ops :=
  List.mem_filterMap.2 ⟨o, ho, ht⟩

def RSame (r : Runner) : Prop := ∀ c A S e A' S', r c A S = some (e, A', S') → Same (hasRF c) (asg c) A A'

theorem loopD_same {r : Runner} (hr : RSame r) {c : Code} : ∀ {k : Nat} {A A' : Ac} {S S' : St} {e : Exit}, loopD r c k A S = some (e, A', S') → Same (hasRF c) (asg c) A A' := by
  intro k
  induction k with
  | zero => intro A A' S S' e h; cases h
  | succ k ih =>
    intro A A' S S' e h
    simp only [loopD] at h
    split at h
    · rename_i B T h1; exact (hr _ _ _ _ _ _ h1).trans (ih h)
    · exact hr _ _ _ _ _ _ h
theorem rangeGo_same {E : Env} {r : Runner} {g : Value} {l : Nat} {A A' : Ac} {S S' : St} {e : Exit} (h : rangeGo E r g l A S = some (e, A', S')) : A' = A := by
  unfold rangeGo at h
  split at h
  · split at h
    · cases h
    · rw [Option.bind_eq_some_iff] at h
      obtain ⟨p, _, h2⟩ := h
      unfold endLoopD at h2
      split at h2
      · obtain ⟨_, h2⟩ := cond_none h2
        split at h2 <;> first | (cases h2; rfl) | cases h2
      · cases h2
  · cases h
theorem stepD_same {E : Env} {n : Nat} {r : Runner} (hr : RSame r) : RSame (stepD E drawD n r) := by
  intro c A S e A' S' h
  cases c with
  | skip => cases h; exact .refl _ _ _
  | label l => cases h; exact .refl _ _ _
  | region id ops d =>
    cases d with
    | false =>
      simp only [stepD] at h
      rw [Option.map_eq_some_iff] at h
      obtain ⟨p, h1, h2⟩ := h
      cases h2
      exact opsD_same (fun o ho t ht => mem_dstsO ho ht) h1
    | true =>
      simp only [stepD] at h
      rw [Option.map_eq_some_iff] at h
      obtain ⟨p, h1, h2⟩ := h
      cases h2
      unfold drawD at h1
      split at h1
      · rename_i l hl
        rw [Option.bind_eq_some_iff] at h1
        obtain ⟨⟨its, SP⟩, hpre, h1⟩ := h1
        refine goD_same (fun o ho t ht => ?_) h1
        obtain ⟨q, hq, e⟩ := preD_mem hpre ho
        exact mem_dstsO (by rw [← e]; exact planD_mem hl hq) ht
      · cases h1
  | seq a b =>
    simp only [stepD] at h
    cases ha : r a A S with
    | none => rw [ha] at h; cases h
    | some p =>
      obtain ⟨e1, B, T⟩ := p
      rw [ha] at h
      have h1 : Same (hasRF (.seq a b)) (asg (.seq a b)) A B := (hr _ _ _ _ _ _ ha).mono (by simp [hasRF]; exact fun h _ => h) (by simp [asg]; exact fun t h => .inl h)
      cases e1 <;> first
        | exact h1.trans ((hr _ _ _ _ _ _ h).mono (by simp [hasRF]) (by simp [asg]; exact fun t h => .inr h))
        | (cases h; exact h1)
  | cond c a b =>
    simp only [stepD] at h
    rw [Option.bind_eq_some_iff] at h
    obtain ⟨v, hv, h2⟩ := h
    clear hv
    unfold condD at h2
    split at h2
    · rename_i t
      cases t
      · exact (hr _ _ _ _ _ _ h2).mono (by simp [hasRF]) (by simp [asg]; exact fun t h => .inr h)
      · exact (hr _ _ _ _ _ _ h2).mono (by simp [hasRF]; exact fun h _ => h) (by simp [asg]; exact fun t h => .inl h)
    · cases h2
  | block id body =>
    simp only [stepD] at h
    cases ha : r body A S with
    | none => rw [ha] at h; cases h
    | some p =>
      obtain ⟨e1, B, T⟩ := p
      rw [ha] at h
      have h1 := hr _ _ _ _ _ _ ha
      cases e1 <;> (cases h; exact h1)
  | loop body => simp only [stepD] at h; exact (loopD_same hr h).mono (fun e => e) (fun _ e => e)
  | rangeFunc f ps a b =>
    simp only [stepD] at h
    unfold rangeF at h
    rw [Option.bind_eq_some_iff] at h
    obtain ⟨g, _, h2⟩ := h
    cases hrd : A.rd with
    | none =>
      simp only [hrd] at h2
      have := rangeGo_same h2
      subst this
      exact ⟨rfl, hrd.symm, by simp [hasRF], fun _ _ => rfl⟩
    | some l =>
      simp only [hrd] at h2
      split at h2
      · have := rangeGo_same h2
        subst this
        exact .refl _ _ _
      · cases h2
  | exit id => cases h; exact .refl _ _ _
  | scope body =>
    simp only [stepD] at h
    cases ha : r body A S with
    | none => rw [ha] at h; cases h
    | some p =>
      obtain ⟨e1, B, T⟩ := p
      rw [ha] at h
      have h1 := hr _ _ _ _ _ _ ha
      cases e1 <;> first | (cases h; exact h1) | cases h
  | ret => cases h; exact .refl _ _ _
  | goto l => cases h
  | refuse w => cases h
theorem exec_same (E : Env) : ∀ n, RSame (exec E drawD n) := by
  intro n
  induction n with
  | zero => intro c A S e A' S' h; cases h
  | succ n ih => intro c A S e A' S' h; exact stepD_same ih _ _ _ _ _ _ h

end Go.Proofs.Ytcdignblakejoaa.D

/-
  D, part 25: what must hold for a run of code to come to 'K', out of the code ('denC'); numbers, slices, texts .. as Lean's own.
-/
namespace Go.Proofs.Ytcdignblakejoaa.D
noncomputable section
set_option linter.unusedVariables false

/-! ### Kinds of values -/
inductive Sc where
  | int (k : IntKind) | bool | str | ptr | sl | mp | any
structure Sl where
  a : Option Addr
  len : Nat
  cap : Nat
abbrev Sc.T : Sc → Type
  | .int _ => Int | .bool => Bool | .str => List UInt8 | .ptr => Option Addr | .sl => Sl | .mp => Option Nat | .any => Value
def Sc.enc : (s : Sc) → s.T → Value
  | .int k, n => .int k n
  | .bool, b => .bool b
  | .str, l => .string ⟨l.toArray⟩
  | .ptr, p => .pointer p
  | .sl, s => .slice s.a s.len s.cap
  | .mp, r => .map r
  | .any, v => v
def Sc.dec : (s : Sc) → Value → Option s.T
  | .int k, .int k' n => cond (kindEq k k') (some n) none
  | .bool, .bool b => some b
  | .str, .string s => some s.data.toList
  | .ptr, .pointer p => some p
  | .sl, .slice a l c => some ⟨a, l, c⟩
  | .mp, .map r => some r
  | .any, v => some v
  | _, _ => none
theorem Sc.dec_some {s : Sc} {v : Value} {x : s.T} (h : s.dec v = some x) : v = s.enc x := by
  cases s <;> cases v <;> first
    | (cases h; rfl)
    | (simp only [Sc.dec] at h; obtain ⟨h1, h2⟩ := cond_some h; cases h2; rw [kindEq_eq h1]; rfl)
    | (simp only [Sc.dec] at h; cases h; rfl)
    | (simp [Sc.dec] at h; done)
    | (simp only [Sc.dec, Option.some.injEq] at h; subst h; rfl)

/-- Rows of data. -/
abbrev Tup1 {ι : Type} (T : ι → Type) (s : ι) : List ι → Type
  | [] => T s
  | t :: r => T s × Tup1 T t r
abbrev Tup {ι : Type} (T : ι → Type) : List ι → Type
  | [] => Unit
  | s :: r => Tup1 T s r
def encs1 {ι : Type} {T : ι → Type} (enc : ∀ i, T i → Value) (s : ι) : (l : List ι) → Tup1 T s l → List Value
  | [], x => [enc s x]
  | t :: r, x => enc s x.1 :: encs1 enc t r x.2
def encs {ι : Type} {T : ι → Type} (enc : ∀ i, T i → Value) : (l : List ι) → Tup T l → List Value
  | [], _ => []
  | s :: r, x => encs1 enc s r x
def decs1 {ι : Type} {T : ι → Type} (dec : ∀ i, Value → Option (T i)) (s : ι) : (l : List ι) → List Value → Option (Tup1 T s l)
  | [], [v] => dec s v
  | t :: r, v :: vs => (dec s v).bind fun x => (decs1 dec t r vs).map fun y => (x, y)
  | _, _ => none
def decs {ι : Type} {T : ι → Type} (dec : ∀ i, Value → Option (T i)) : (l : List ι) → List Value → Option (Tup T l)
  | [], [] => some ()
  | s :: r, vs => decs1 dec s r vs
  | _, _ => none
theorem decs1_some {ι : Type} {T : ι → Type} {enc : ∀ i, T i → Value} {dec : ∀ i, Value → Option (T i)} (h : ∀ i v x, dec i v = some x → v = enc i x) :
    ∀ (l : List ι) (s : ι) (vs : List Value) (x : Tup1 T s l), decs1 dec s l vs = some x → vs = encs1 enc s l x := by
  intro l
  induction l with
  | nil =>
    intro s vs x hx
    match vs, hx with
    | [v], hx => exact congrArg (fun u => [u]) (h _ _ _ hx)
  | cons t r ih =>
    intro s vs x hx
    match vs, hx with
    | v :: vs, hx =>
      simp only [decs1, Option.bind_eq_some_iff, Option.map_eq_some_iff] at hx
      obtain ⟨a, h1, b, h2, h3⟩ := hx
      subst h3
      simp only [encs1]
      rw [h _ _ _ h1, ih _ _ _ h2]
theorem decs_some {ι : Type} {T : ι → Type} {enc : ∀ i, T i → Value} {dec : ∀ i, Value → Option (T i)} (h : ∀ i v x, dec i v = some x → v = enc i x)
    {l : List ι} {vs : List Value} {x : Tup T l} (hx : decs dec l vs = some x) : vs = encs enc l x := by
  cases l with
  | nil =>
    cases vs with
    | nil => rfl
    | cons v vs => cases hx
  | cons s r => exact decs1_some h _ _ _ _ hx

inductive Ty where
  | sc (s : Sc)
  | agg (l : List Sc)
abbrev Ty.T : Ty → Type
  | .sc s => s.T
  | .agg l => Tup Sc.T l
def Ty.enc : (t : Ty) → t.T → Value
  | .sc s, x => s.enc x
  | .agg l, x => .agg (encs Sc.enc l x).toArray
def Ty.dec : (t : Ty) → Value → Option t.T
  | .sc s, v => s.dec v
  | .agg l, .agg a => decs Sc.dec l a.toList
  | .agg _, _ => none
theorem Ty.dec_some {t : Ty} {v : Value} {x : t.T} (h : t.dec v = some x) : v = t.enc x := by
  cases t with
  | sc s => exact Sc.dec_some h
  | agg l =>
    match v, h with
    | .agg a, h =>
      have := decs_some (enc := Sc.enc) (fun _ _ _ h => Sc.dec_some h) h
      simp only [Ty.enc, ← this]
/-- A struct's value. -/
def sv (l : List Sc) (x : Tup Sc.T l) : Value := .agg (encs Sc.enc l x).toArray
/-- What a call or an operation answers. -/
inductive TT where
  | one (t : Ty)
  | tup (l : List Ty)
abbrev TT.T : TT → Type
  | .one t => t.T
  | .tup l => Tup Ty.T l
def TT.enc : (t : TT) → t.T → Value
  | .one t, x => t.enc x
  | .tup l, x => .tuple (encs Ty.enc l x).toArray
abbrev tI : TT := .one (.sc (.int .i64))
abbrev tU : TT := .one (.sc (.int .u64))
abbrev tU8 : TT := .one (.sc (.int .u8))
abbrev tU32 : TT := .one (.sc (.int .u32))
abbrev tB : TT := .one (.sc .bool)
abbrev tS : TT := .one (.sc .sl)
abbrev tP : TT := .one (.sc .ptr)
abbrev tT : TT := .one (.sc .str)
abbrev tM : TT := .one (.sc .mp)
abbrev tA : TT := .one (.sc .any)
/-- By the operation's type. -/
def scOf : TypeDesc → Option Sc
  | .bool => some .bool
  | .int k => some (.int k)
  | .string => some .str
  | .pointer _ => some .ptr
  | .slice _ => some .sl
  | .map _ _ => some .mp
  | .func _ _ _ => some .any
  | .interface _ => some .any
  | _ => none
def mapO {α β : Type} (f : α → Option β) : List α → Option (List β)
  | [] => some []
  | x :: r => (f x).bind fun y => (mapO f r).map (y :: ·)
def flatE (E : Env) : Nat → TypeId → Option (List Sc)
  | 0, _ => none
  | n + 1, t =>
    match E.inf t with
    | none => none
    | some i =>
      match i.und with
      | .struct fs => (mapO (fun f : Field => flatE E n f.type) fs.toList).map List.flatten
      | .array k e => (flatE E n e).map fun l => (List.replicate k l).flatten
      | d => (scOf d).map fun s => [s]
def tyE (E : Env) (t : TypeId) : Option Ty :=
  match E.inf t with
  | none => none
  | some i =>
    match i.und with
    | .struct _ | .array _ _ => (flatE E 8 t).map .agg
    | d => (scOf d).map .sc
def ttE (E : Env) (t : TypeId) : Option TT :=
  match E.inf t with
  | none => none
  | some i =>
    match i.und with
    | .tuple es => (mapO (tyE E) es.toList).map .tup
    | _ => (tyE E t).map .one
/-- .. or anything. -/
def ttC (E : Env) (t : TypeId) : TT := (ttE E t).getD (.one (.sc .any))

/-! ### What a call comes to -/
/-- A call of a function value. -/
def callV (E : Env) (run : Runner) (f : Value) (args : List Value) (S : St) : Option (Value × St) := (calleeD S args f).bind (coreC E run)
def WC (E : Env) (f : Nat) (args : List Value) (S : St) (Q : Value → St → Prop) : Prop := ∃ n v S', callF E (exec E drawD n) f args S = some (v, S') ∧ Q v S'
def WV (E : Env) (f : Value) (args : List Value) (S : St) (Q : Value → St → Prop) : Prop := ∃ n v S', callV E (exec E drawD n) f args S = some (v, S') ∧ Q v S'
theorem WC.mono {E : Env} {f : Nat} {args : List Value} {S : St} {Q Q' : Value → St → Prop} (h : WC E f args S Q) (k : ∀ v S', Q v S' → Q' v S') : WC E f args S Q' := by
  obtain ⟨n, v, S', h1, h2⟩ := h; exact ⟨n, v, S', h1, k _ _ h2⟩
theorem WV.mono {E : Env} {f : Value} {args : List Value} {S : St} {Q Q' : Value → St → Prop} (h : WV E f args S Q) (k : ∀ v S', Q v S' → Q' v S') : WV E f args S Q' := by
  obtain ⟨n, v, S', h1, h2⟩ := h; exact ⟨n, v, S', h1, k _ _ h2⟩
theorem WV.of_WC {E : Env} {g : Nat} {first cap : Array Value} {args : List Value} {S : St} {Q : Value → St → Prop} (h : WC E g (first.toList ++ args ++ cap.toList) S Q) : WV E (.func (.func g) first cap) args S Q := by
  obtain ⟨n, v, S', h1, h2⟩ := h; exact ⟨n, v, S', h1, h2⟩

/-! ### The words -/
def hiA (α : Type) : Type := α
def hiB (α : Type) : Type := hiA α
def wO {α : Type} (o : Option α) (k : α → Prop) : Prop := @Option.rec α (fun _ => hiB Prop) False k o
def orO {α : Type} (o : Option α) (X : Prop) (k : α → Prop) : Prop := @Option.rec α (fun _ => hiB Prop) X k o
def selW (b : Bool) (X Y : Prop) : Prop := @Bool.rec (fun _ => hiB Prop) Y X b
@[simp] theorem selW_true {X Y : Prop} : selW true X Y = X := rfl
@[simp] theorem selW_false {X Y : Prop} : selW false X Y = Y := rfl
theorem wO_iff {α : Type} {o : Option α} {k : α → Prop} : wO o k ↔ ∃ x, o = some x ∧ k x := by
  cases o with
  | none => exact ⟨fun h => h.elim, fun ⟨_, h, _⟩ => nomatch h⟩
  | some x => exact ⟨fun h => ⟨x, rfl, h⟩, fun ⟨y, h, hk⟩ => by cases h; exact hk⟩
def evV (ty : TT) (c : Option Value) (k : ty.T → Prop) : Prop := ∃ x, c = some (ty.enc x) ∧ k x
def evP (ty : TT) (c : Option (Value × St)) (k : ty.T → St → Prop) : Prop := ∃ x S', c = some (ty.enc x, S') ∧ k x S'
def evS (c : Option St) (k : St → Prop) : Prop := ∃ S', c = some S' ∧ k S'
def newW (S : St) (o : DObj) (k : Nat → St → Prop) : Prop := ∀ b S', b = S.next → S' = (S.alloc o).2 → k b S'
def evC (E : Env) (ty : TT) (g : Nat) (args : List Value) (S : St) (k : ty.T → St → Prop) : Prop := WC E g args S fun v S' => ∃ x, v = ty.enc x ∧ k x S'
def evY (E : Env) (ty : TT) (f : Value) (args : List Value) (S : St) (k : ty.T → St → Prop) : Prop := WV E f args S fun v S' => ∃ x, v = ty.enc x ∧ k x S'
def ptrW (p : Option Addr) (k : Nat → Nat → Prop) : Prop := ∃ b o, p = some ⟨b, o, none⟩ ∧ k b o
def idxW (a : Option Addr) (len : Nat) (i : Int) (k : Nat → Nat → Prop) : Prop := ∃ b o, a = some ⟨b, o, none⟩ ∧ 0 ≤ i ∧ i < (len : Int) ∧ k b o
def needB (b : Bool) (K : Prop) : Prop := @Bool.rec (fun _ => hiB Prop) False K b
theorem needB_iff {b : Bool} {K : Prop} : needB b K ↔ b = true ∧ K := by cases b <;> simp [needB]
structure needW (b : Bool) (K : Prop) : Prop where
  ok : b = true
  go : K
theorem needW_iff {b : Bool} {K : Prop} : needW b K ↔ b = true ∧ K := ⟨fun h => ⟨h.1, h.2⟩, fun h => ⟨h.1, h.2⟩⟩
/- The kernel unfolds the greater definition first: ifW is least, so that no condition is worked out. -/
def ifW (b : Bool) (X Y : Prop) : Prop := @Bool.rec (fun _ => Prop) Y X b
theorem ifW_iff {b : Bool} {X Y : Prop} : ifW b X Y ↔ selW b X Y := by cases b <;> exact Iff.rfl
def splitW (b : Bool) (k : Bool → Prop) : Prop := ifW b (k true) (k false)
def eqW (E : Env) (S : St) (t : TypeId) (a b : Value) (k : Bool → Prop) : Prop := ∃ e, eqD E S 6 t a b = some e ∧ k e
def setLowW (S : St) (l : Nat) (k : St → Prop) : Prop := ∀ S', S' = { S with low := l } → k S'
def updW (S : St) (b : Nat) (o : DObj) (k : St → Prop) : Prop := ∀ S', S' = S.upd b o → k S'
def hasW (S : St) (b : Nat) (o : DObj) (K : Prop) : Prop := S.heap.get b = some o ∧ K
def loopW {σ : Type} (body : (σ → St → Prop) → σ → St → Prop) (x : σ) (S : St) : Prop := ∀ P : σ → St → Prop, (∀ x S, body P x S → P x S) → P x S
def joinW {σ : Type} (K : σ → St → Prop) (F : (σ → St → Prop) → Prop) : Prop := ∀ k : σ → St → Prop, (∀ x S, K x S → k x S) → F k
theorem splitW_iff {b : Bool} {k : Bool → Prop} : splitW b k ↔ k b := by unfold splitW; rw [ifW_iff]; cases b <;> exact Iff.rfl

/-! ### Operands -/
structure Sub (R A : Ac) : Prop where
  n : R.n = A.n
  rd : R.rd = A.rd
  dfr : R.defers = A.defers
  get : ∀ t v, R.regs.get t = some v → A.regs.get t = some v
def ev (E : Env) (R : Ac) : Operand → Option Value
  | .tmp t => R.regs.get t
  | .const v => cond (plainB v) (some v) none
  | .global g => cond (Nat.blt g E.globs) (some (.pointer (some ⟨g, 0, none⟩))) none
  | .func f => some (.func (.func f) #[] #[])
def evs (E : Env) (R : Ac) : List Operand → Option (List Value)
  | [] => some []
  | x :: r => (ev E R x).bind fun v => (evs E R r).map (v :: ·)
def evps (E : Env) (R : Ac) : List (Nat × Operand) → Option (List (Nat × Value))
  | [] => some []
  | (i, x) :: r => (ev E R x).bind fun v => (evps E R r).map ((i, v) :: ·)
def evo (E : Env) (R : Ac) : Option Operand → Option (Option Value)
  | none => some none
  | some x => (ev E R x).map some
def boolO (v : Value) : Option Bool :=
  match v with
  | .bool b => some b
  | _ => none
def boolW (v : Value) (k : Bool → Prop) : Prop := wO (boolO v) k
theorem boolO_some {v : Value} {b : Bool} (h : boolO v = some b) : v = .bool b := by
  unfold boolO at h
  split at h
  · cases h; rfl
  · cases h
theorem boolW_iff {v : Value} {k : Bool → Prop} : boolW v k ↔ ∃ b, v = .bool b ∧ k b := by
  unfold boolW
  rw [wO_iff]
  exact ⟨fun ⟨b, h, hk⟩ => ⟨b, boolO_some h, hk⟩, fun ⟨b, h, hk⟩ => ⟨b, by rw [h]; rfl, hk⟩⟩
section
variable {E : Env} {R A : Ac} (h : Sub R A)
include h
theorem ev_sub {x : Operand} {v : Value} (hx : ev E R x = some v) : A.eval E x = some v := by
  cases x with
  | tmp t => simp only [Ac.eval, Ac.get]; rw [h.get _ _ hx]; rfl
  | const v => exact hx
  | global g => exact hx
  | func f => exact hx
theorem evs_sub : ∀ {l : List Operand} {vs : List Value}, evs E R l = some vs → A.evals E l = some vs := by
  intro l
  induction l with
  | nil => intro vs hx; exact hx
  | cons x l ih =>
    intro vs hx
    simp only [evs, Option.bind_eq_some_iff, Option.map_eq_some_iff] at hx
    obtain ⟨v, h1, ws, h2, h3⟩ := hx
    subst h3
    simp only [Ac.evals, ev_sub h h1, ih h2, Option.bind_some, Option.map_some]
theorem evps_sub : ∀ {l : List (Nat × Operand)} {vs : List (Nat × Value)}, evps E R l = some vs → partsD E A l = some vs := by
  intro l
  induction l with
  | nil => intro vs hx; exact hx
  | cons x l ih =>
    obtain ⟨i, x⟩ := x
    intro vs hx
    simp only [evps, Option.bind_eq_some_iff, Option.map_eq_some_iff] at hx
    obtain ⟨v, h1, ws, h2, h3⟩ := hx
    subst h3
    simp only [partsD, ev_sub h h1, ih h2, Option.bind_some, Option.map_some]
theorem evo_sub {x : Option Operand} {v : Option Value} (hx : evo E R x = some v) : optD E A x = some v := by
  cases x with
  | none => exact hx
  | some x =>
    simp only [evo, Option.map_eq_some_iff] at hx
    obtain ⟨w, h1, h2⟩ := hx
    subst h2
    simp only [optD, ev_sub h h1, Option.map_some]
theorem Sub.set {t : Tmp} {v : Value} : Sub { R with regs := R.regs.set t v } { A with regs := A.regs.set t v } := by
  refine ⟨h.n, h.rd, h.dfr, fun u w hu => ?_⟩
  simp only [PM.get_set] at hu ⊢
  split at hu
  · rename_i e; rw [if_pos e]; exact hu
  · rename_i hne; rw [if_neg hne]; exact h.get _ _ hu
/-- What is known of a temporary is said once more. -/
theorem Sub.say {t : Tmp} {v : Value} (hv : A.regs.get t = some v) : Sub { R with regs := R.regs.set t v } A := by
  refine ⟨h.n, h.rd, h.dfr, fun u w hu => ?_⟩
  simp only [PM.get_set] at hu
  split at hu
  · rename_i e; subst e; rw [hv]; exact hu
  · exact h.get _ _ hu
end

/-! ### Operations -/
/- The kernel must not work a number out that it does not know (by 2^63 steps): wrapI is wrapD, and does not unfold. -/
theorem wrapI_ex : ∃ f : IntKind → Int → Int, ∀ k n, f k n = wrapD k n := ⟨wrapD, fun _ _ => rfl⟩
def wrapI : IntKind → Int → Int := Classical.choose wrapI_ex
theorem wrapI_eq (k : IntKind) (n : Int) : wrapI k n = wrapD k n := Classical.choose_spec wrapI_ex k n
theorem ltI_ex : ∃ f : Int → Int → Bool, ∀ a b, f a b = decide (a < b) := ⟨fun a b => decide (a < b), fun _ _ => rfl⟩
/-- a < b, not to be worked out by the kernel. -/
def ltI : Int → Int → Bool := Classical.choose ltI_ex
theorem ltI_eq (a b : Int) : ltI a b = decide (a < b) := Classical.choose_spec ltI_ex a b
theorem leI_ex : ∃ f : Int → Int → Bool, ∀ a b, f a b = decide (a ≤ b) := ⟨fun a b => decide (a ≤ b), fun _ _ => rfl⟩
def leI : Int → Int → Bool := Classical.choose leI_ex
theorem leI_eq (a b : Int) : leI a b = decide (a ≤ b) := Classical.choose_spec leI_ex a b
theorem eqI_ex : ∃ f : Int → Int → Bool, ∀ a b, f a b = decide (a = b) := ⟨fun a b => decide (a = b), fun _ _ => rfl⟩
def eqI : Int → Int → Bool := Classical.choose eqI_ex
theorem eqI_eq (a b : Int) : eqI a b = decide (a = b) := Classical.choose_spec eqI_ex a b
def shiftV (left : Bool) (k : IntKind) (a b : Int) : Value :=
  cond left (.int k (wrapI k (a * ((2 ^ min b.toNat k.bits : Nat) : Int)))) (.int k (a.fdiv ((2 ^ min b.toNat k.bits : Nat) : Int)))
def andI (k : IntKind) (a b : Int) : Int := k.wrap (BitVec.ofInt k.bits a &&& BitVec.ofInt k.bits b).toNat
def orI (k : IntKind) (a b : Int) : Int := k.wrap (BitVec.ofInt k.bits a ||| BitVec.ofInt k.bits b).toNat
def xorI (k : IntKind) (a b : Int) : Int := k.wrap (BitVec.ofInt k.bits a ^^^ BitVec.ofInt k.bits b).toNat
def andNotI (k : IntKind) (a b : Int) : Int := k.wrap (BitVec.ofInt k.bits a &&& ~~~(BitVec.ofInt k.bits b)).toNat
def denInt (op : BinOp) (k : IntKind) (p q : Int) (K : Value → Prop) : Prop :=
  match op with
  | .eql => K (.bool (eqI p q))
  | .neq => K (.bool (!eqI p q))
  | .lss => K (.bool (ltI p q))
  | .leq => K (.bool (leI p q))
  | .gtr => K (.bool (ltI q p))
  | .geq => K (.bool (leI q p))
  | .add => K (.int k (wrapI k (p + q)))
  | .sub => K (.int k (wrapI k (p - q)))
  | .mul => K (.int k (wrapI k (p * q)))
  | .quo => needW (!decide (q = 0)) (K (.int k (wrapI k (p.tdiv q))))
  | .rem => needW (!decide (q = 0)) (K (.int k (p.tmod q)))
  | .and => K (.int k (andI k p q))
  | .or => K (.int k (orI k p q))
  | .xor => K (.int k (xorI k p q))
  | .andNot => K (.int k (andNotI k p q))
  | op => wO (intD op k p q) K
def denEq (E : Env) (S : St) (op : BinOp) (t : TypeId) (x y : Operand) (a b : Value) (K : Value → Prop) : Prop :=
  match op with
  | .eql => needB (guardD E t x y a b) (eqW E S t a b fun e => K (.bool e))
  | .neq => needB (guardD E t x y a b) (eqW E S t a b fun e => K (.bool (!e)))
  | _ => False
/-- Two texts, one behind the other. -/
def catD (p q : ByteArray) : Option Value := strD .add p q
def denUn (op : UnOp) (v : Value) (K : Value → Prop) : Prop :=
  match op, v with
  | .neg, .int k n => K (.int k (wrapI k (0 - n)))
  | op, v => wO (unD op v) K
def denStr (op : BinOp) (p q : ByteArray) (K : Value → Prop) : Prop :=
  match op with
  | .add => evV (.one (.sc .str)) (catD p q) fun x => K (.string ⟨x.toArray⟩)
  | op => wO (strD op p q) K
def denBin (E : Env) (S : St) (op : BinOp) (t : TypeId) (x y : Operand) (a b : Value) (K : Value → Prop) : Prop :=
  match a, b with
  | .int k p, .int k' q =>
    match op with
    | .shl => needW (!decide (q < 0)) (K (shiftV true k p q))
    | .shr => needW (!decide (q < 0)) (K (shiftV false k p q))
    | op => selW (kindEq k k') (denInt op k p q K) False
  | .string p, .string q => denStr op p q K
  | a, b => denEq E S op t x y a b K
def nilW (v : Value) (K : Value → Prop) : Prop :=
  match v with
  | .pointer p => ptrW p fun b o => K (.pointer (some ⟨b, o, none⟩))
  | v => wO (nilD v) K
def convW (E : Env) (S : St) (s d : TypeId) (v : Value) (K : Value → St → Prop) : Prop :=
  match E.und s, E.und d, v with
  | some _, some (.int k), .int _ n => K (.int k (wrapI k n)) S
  | _, _, v => wO (ttE E d) fun ty => evP ty (convertD E S s d v) fun x S' => K (ty.enc x) S'
def fieldW (E : Env) (t : TypeId) (v : Value) (f : Nat) (K : Value → Prop) : Prop :=
  match v with
  | .pointer p => ptrW p fun b o => wO (fieldAddrD E t (.pointer (some ⟨b, o, none⟩)) f) K
  | _ => False
def indexW (E : Env) (t : TypeId) (v i : Value) (K : Value → Prop) : Prop :=
  match v, i with
  | .slice a len cap, .int _ i =>
    match E.und t with
    | some (.slice e) => wO (E.size e) fun s => idxW a len i fun b o => K (.pointer (some ⟨b, o + i.toNat * s, none⟩))
    | _ => False
  | .pointer p, .int _ i =>
    match E.und t with
    | some (.array len e) => wO (E.size e) fun s => idxW p len i fun b o => K (.pointer (some ⟨b, o + i.toNat * s, none⟩))
    | _ => False
  | _, _ => False
/-- The cells of a slice that is built. -/
def cellsD (E : Env) (t : TypeId) (len : Nat) (parts : List (Nat × Value)) : Option (List Value) :=
  match E.und t with
  | some (.slice e) =>
    match E.inf e with
    | some i =>
      i.zero.bind fun z =>
      cond (Nat.ble (len * i.size) 16777216 && Nat.ble len 16777216 && Nat.beq (cellsOf z).length i.size)
        (fillD (fun j => some (j * i.size, i.size)) (zerosD (cellsOf z) len) parts) none
    | none => none
  | _ => none
/-- How many entries a map has. -/
def lenM (E : Env) (S : St) (t : TypeId) (r : Option Nat) : Option Value := lenD E S t (.map r)
def lenW (E : Env) (S : St) (t : TypeId) (v : Value) (K : Value → Prop) : Prop :=
  match v with
  | .map r => evV (.one (.sc (.int .i64))) (lenM E S t r) fun x => K (.int .i64 x)
  | v => wO (lenD E S t v) K
def denBuiltin (E : Env) (S : St) (b : Builtin) (ts : Array TypeId) (ty : TypeId) (args : List Value) (K : Value → St → Prop) : Prop :=
  match b, args with
  | .len, [x] => wO (ts[0]?) fun t => lenW E S t x fun v => K v S
  | .max, x :: r => wO (minmaxD true x r) fun v => K v S
  | .min, x :: r => wO (minmaxD false x r) fun v => K v S
  | .append, [s, x] => wO (ts[0]?) fun t => wO (ts[1]?) fun u => evP (.one (.sc .sl)) (appendD E S t u s x) fun y S' => K (.slice y.a y.len y.cap) S'
  | .delete, [m, k] => wO (ts[0]?) fun t => evS (deleteD E S t m k) fun S' => K (.tuple #[]) S'
  | .clear, [x] => wO (ts[0]?) fun t => evS (clearD E S t x) fun S' => K (.tuple #[]) S'
  | b, args => evP (ttC E ty) (builtinD E S b ts args) fun x S' => K ((ttC E ty).enc x) S'
def denCall (E : Env) (R : Ac) (S : St) (c : Call) (ty : TypeId) (K : Value → St → Prop) : Prop :=
  wO (evs E R c.args.toList) fun args =>
  match c.callee with
  | .builtin b => denBuiltin E S b c.argTypes ty args K
  | .value (.func g) => evC E (ttC E ty) g args S fun x S' => K ((ttC E ty).enc x) S'
  | .value f => wO (ev E R f) fun g => evY E (ttC E ty) g args S fun x S' => K ((ttC E ty).enc x) S'
  | .invoke _ _ => False
/-- The next entry of a map, or none. -/
def nextW (E : Env) (S : St) (v : Value) (str : Bool) (ty : TypeId) (K : Value → St → Prop) : Prop :=
  (∃ S', nextD S v str = some (.tuple #[.bool false], S') ∧ K (.tuple #[.bool false]) S') ∨ evP (ttC E ty) (nextD S v str) fun x S' => K ((ttC E ty).enc x) S'
def denOp (E : Env) (R : Ac) (S : St) (o : Op) (ty : TypeId) (K : Value → St → Prop) : Prop :=
  match o with
  | .move x | .assign x => wO (ev E R x) fun v => K v S
  | .pick c a b => wO (ev E R c) fun v => boolW v fun t => splitW t fun t => wO (ev E R (cond t a b)) fun v => K v S
  | .alloc e => wO (E.zero e) fun z => newW S (.cells (cellsOf z) (tagN e (cellsOf z)) false none) fun b S' => K (.pointer (some ⟨b, 0, none⟩)) S'
  | .box _ x => wO (ev E R x) fun v => newW S (.cells (cellsOf v) none false none) fun b S' => K (.pointer (some ⟨b, 0, none⟩)) S'
  | .build t ps => wO (evps E R ps.toList) fun parts => wO (buildD E t parts) fun v => K v S
  | .buildSlice t n ps => wO (evps E R ps.toList) fun parts => wO (cellsD E t n parts) fun l => newW S (.cells l none false none) fun b S' => K (.slice (some ⟨b, 0, none⟩) n n) S'
  | .load t a => wO (ev E R a) fun p => wO (ttE E t) fun ty => evV ty (loadV E S t p) fun x => K (ty.enc x) S
  | .store t a x => wO (ev E R a) fun p => wO (ev E R x) fun v => evS (storeV E S t p v) fun S' => K undef S'
  | .nilCheck x => wO (ev E R x) fun v => nilW v fun v => K v S
  | .binOp op t x y _ => wO (ev E R x) fun a => wO (ev E R y) fun b => denBin E S op t x y a b fun v => K v S
  | .unOp op _ x => wO (ev E R x) fun v => denUn op v fun v => K v S
  | .convert s d x => wO (ev E R x) fun v => convW E S s d v K
  | .makeInterface t x => wO (ev E R x) fun v => wO (ifaceD E t v) fun v => K v S
  | .makeFunc fn first captured => wO (evs E R first.toList) fun fs => wO (evs E R captured.toList) fun cs => needB (notYield fn) (K (.func fn fs.toArray cs.toArray) S)
  | .makeMap t r => wO (evo E R r) fun h => needB (hintOk E t h) (newW S (.map [] 0) fun b S' => K (.map (some b)) S')
  | .makeSlice t l c => wO (ev E R l) fun ln => wO (ev E R c) fun cp => evP (.one (.sc .sl)) (makeSliceD E S t ln cp) fun y S' => K (.slice y.a y.len y.cap) S'
  | .slice t x lo hi mx => wO (ev E R x) fun v => wO (evo E R lo) fun l => wO (evo E R hi) fun h => wO (evo E R mx) fun m => wO (ttE E ty) fun tt => evV tt (sliceD E S t v l h m) fun x => K (tt.enc x) S
  | .fieldAddr t x f => wO (ev E R x) fun v => fieldW E t v f fun v => K v S
  | .field t x f => wO (ev E R x) fun v => wO (fieldD E t v f) fun v => K v S
  | .indexAddr t x i => wO (ev E R x) fun v => wO (ev E R i) fun j => indexW E t v j fun v => K v S
  | .index t x i => wO (ev E R x) fun v => wO (ev E R i) fun j => wO (ttE E ty) fun tt => evV tt (indexD E t v j) fun x => K (tt.enc x) S
  | .lookup t x k ok => wO (ev E R x) fun v => wO (ev E R k) fun j => wO (ttE E ty) fun tt => evV tt (lookupD E S t v j ok) fun x => K (tt.enc x) S
  | .mapUpdate t m k x | .insert t m k x => wO (ev E R m) fun v => wO (ev E R k) fun j => wO (ev E R x) fun u => evS (mapUpdateD E S t v j u) fun S' => K undef S'
  | .mapEntry t m k => wO (ev E R m) fun v => wO (ev E R k) fun j => evP (ttC E ty) (mapEntryD E S t v j) fun x S' => K ((ttC E ty).enc x) S'
  | .entryStore _ m s x => wO (ev E R m) fun v => wO (ev E R s) fun j => wO (ev E R x) fun u => evS (entryStoreD S v j u) fun S' => K undef S'
  | .extract t i => wO (ev E R t) fun v => wO (extractD i v) fun v => K v S
  | .range t x => wO (ev E R x) fun v => evP (.one (.sc .ptr)) (rangeD E S t v) fun p S' => K (.pointer p) S'
  | .next it str => wO (ev E R it) fun v => nextW E S v str ty K
  | .entry it => wO (ev E R it) fun v => evV (ttC E ty) (entryD S v) fun x => K ((ttC E ty).enc x) S
  | .call c => denCall E R S c ty K
  | _ => False

/-! ### Operations in a row -/
def putR (R : Ac) (dst : Option Tmp) (v : Value) (K : Ac → Prop) : Prop :=
  match dst with
  | none => K R
  | some d => selW (Nat.blt d R.n) (K { R with regs := R.regs.set d v }) False
def guardW (ops : Array Oper) (R : Ac) (o : Oper) (K : Bool → Ac → Prop) : Prop :=
  match o.guard with
  | none => K true R
  | some (j, want) =>
    wO ((ops[j]?).bind (·.dst)) fun t => selW (Nat.blt t R.n) (wO (R.regs.get t) fun v => orO (boolO v) (K false R) fun b => splitW b fun b => K (b == want) { R with regs := R.regs.set t (.bool b) }) False
def denOps (E : Env) (ops : Array Oper) : List Oper → Ac → St → (Ac → St → Prop) → Prop
  | [], R, S, K => K R S
  | o :: r, R, S, K =>
    guardW ops R o fun w R => selW w (denOp E R S o.op o.type fun v S' => putR R o.dst v fun R' => denOps E ops r R' S' K) (putR R o.dst undef fun R' => denOps E ops r R' S K)
structure sameV (v' v : Value) (X : Prop) : Prop where
  same : v' = v
  go : X
theorem sameV_iff {v' v : Value} {X : Prop} : sameV v' v X ↔ v' = v ∧ X := ⟨fun h => ⟨h.1, h.2⟩, fun h => ⟨h.1, h.2⟩⟩
def readB (E : Env) (o : Op) : Bool := match kindD E o with | .k2 => false | _ => true
def chkLowW (E : Env) (T : List Rec) (R : Ac) (o : Op) (ty : TypeId) (v : Value) (X : Prop) : List Nat → Prop
  | [] => X
  | j :: js => wO (T[j]?) fun r => needB (readB E o) (denOp E R r.2.1 o ty fun v' _ => sameV v' v (chkLowW E T R o ty v X js))
def chkQuietW (E : Env) (ops : Array Oper) (T : List Rec) (S : St) (X : Prop) : List Nat → Prop
  | [] => X
  | j :: js => wO (T[j]?) fun r => wO (ops[j]?) fun o => orO r.2.2 (chkQuietW E ops T S X js) fun v => needB (readB E o.op) (denOp E r.1 S o.op o.type fun v' _ => sameV v' v (chkQuietW E ops T S X js))
/-- What was read is read the same wherever a drawn order may read it. -/
def chkW (E : Env) (ops : Array Oper) (T : List Rec) (p : Oper × Md) (R : Ac) (v : Value) (S : St) (X : Prop) : Prop :=
  match p.2 with
  | .free => X
  | .low js => chkLowW E T R p.1.op p.1.type v X js
  | .quiet js => chkQuietW E ops T S X js
/-- A row of zeros, if it may be. -/
def evO (c : Option DObj) (K : DObj → Prop) : Prop := ∃ o, c = some o ∧ K o
structure sameOW (x y : DObj) (X : Prop) : Prop where
  same : x = y
  go : X
/-- What floats is laid first. -/
def fltW (E : Env) (R : Ac) (o : Op) (K : DObj → Prop) : Prop :=
  match o with
  | .alloc e => wO (fltO E R (.alloc e)) K
  | .box _ x => wO (ev E R x) fun v => K (.cells (cellsOf v) none false none)
  | .makeMap _ none => K (.map [] 0)
  | .makeSlice t l c => wO (ev E R l) fun ln => wO (ev E R c) fun cp => evO (rowD E t ln cp) K
  | _ => False
/-- .. and found there. -/
def fltG (E : Env) (R : Ac) (o : Op) (b : Nat) (z : DObj) (K : Value → Prop) : Prop :=
  match o with
  | .alloc _ => K (.pointer (some ⟨b, 0, none⟩))
  | .makeMap _ none => K (.map (some b))
  | .box _ x => wO (ev E R x) fun v => sameOW (.cells (cellsOf v) none false none) z (K (.pointer (some ⟨b, 0, none⟩)))
  | .makeSlice t l c => wO (ev E R l) fun ln => wO (ev E R c) fun cp => evO (rowD E t ln cp) fun o' => sameOW o' z (wO (slV b ln cp) K)
  | _ => False
def preW (E : Env) : List ((Oper × Md) × Ph) → Ac → St → (List It → St → Prop) → Prop
  | [], _, S, K => K [] S
  | p :: r, R, S, K =>
    match p.2 with
    | .fl => fltW E R p.1.1.op fun o => newW S o fun b S1 => preW E r R S1 fun l S' => K ((p.1, some (b, o)) :: l) S'
    | .pre => needB (readB E p.1.1.op) (denOp E R S p.1.1.op p.1.1.type fun v _ => putR R p.1.1.dst v fun R' => preW E r R' S fun l S' => K ((p.1, none) :: l) S')
    | .no => preW E r R S fun l S' => K ((p.1, none) :: l) S'
def denGo (E : Env) (ops : Array Oper) : List It → List Rec → Ac → St → (Ac → St → Prop) → Prop
  | [], _, R, S, K => K R S
  | o :: r, T, R, S, K =>
    guardW ops R o.1.1 fun w R => orO o.2
      (selW w (denOp E R S o.1.1.op o.1.1.type fun v S' => chkW E ops T o.1 R v S' (putR R o.1.1.dst v fun R' => denGo E ops r (T ++ [(R, S, some v)]) R' S' K))
        (putR R o.1.1.dst undef fun R' => denGo E ops r (T ++ [(R, S, none)]) R' S K))
      fun q => selW w (fltG E R o.1.1.op q.1 q.2 fun v => putR R o.1.1.dst v fun R' => denGo E ops r (T ++ [(R, S, some v)]) R' S K) False

def memN (t : Nat) : List Nat → Bool
  | [] => false
  | u :: r => cond (Nat.beq t u) true (memN t r)

/-! ### Code -/
/-- Where ways meet: temporaries that stay, and those that differ; the marks of loops over functions, if they do. -/
structure Jn where
  con : List Tmp
  var : List (Tmp × Ty)
  dfr : Bool
inductive Hn where
  | no
  | n (a b : Hn) (j : Option Jn)
  | r (js : List (Nat × Jn))
def Hn.a : Hn → Hn
  | .n a _ _ => a
  | _ => .no
def Hn.b : Hn → Hn
  | .n _ b _ => b
  | _ => .no
def Hn.j : Hn → Option Jn
  | .n _ _ j => j
  | _ => none
/-- Where ways within a region meet. -/
def Hn.js : Hn → List (Nat × Jn)
  | .r js => js
  | _ => []
def Jn.tys (j : Jn) : List Ty := j.var.map (·.2)
abbrev JT (d : Bool) (l : List Ty) : Type :=
  match d with
  | true => List Nat × Tup Ty.T l
  | false => Tup Ty.T l
def getL (R : Ac) : List (Tmp × Ty) → Option (List Value)
  | [] => some []
  | p :: r => (R.regs.get p.1).bind fun v => (getL R r).map (v :: ·)
def leafT (d : Bool) (R : Ac) {l : List Ty} (x : Tup Ty.T l) (K : JT d l → Prop) : Prop :=
  match d, K with
  | true, K => K (R.defers, x)
  | false, K => K x
def leafJ (j : Jn) (R : Ac) (K : JT j.dfr j.tys → Prop) : Prop := wO (getL R j.var) fun vs => wO (decs Ty.dec j.tys vs) fun x => leafT j.dfr R x K
def conL (R : Ac) : List Tmp → List (Tmp × Value)
  | [] => []
  | t :: r => match R.regs.get t with | some v => (t, v) :: conL R r | none => conL R r
def zipL : List (Tmp × Ty) → List Value → List (Tmp × Value)
  | p :: r, v :: vs => (p.1, v) :: zipL r vs
  | _, _ => []
def layL : List (Tmp × Value) → PM Value → PM Value
  | [], t => t
  | p :: r, t => (layL r t).set p.1 p.2
def jdat (d : Bool) {l : List Ty} (x : JT d l) : Tup Ty.T l :=
  match d, x with
  | true, x => x.2
  | false, x => x
def jdfr (d : Bool) {l : List Ty} (x : JT d l) (ds : List Nat) : List Nat :=
  match d, x with
  | true, x => x.1
  | false, _ => ds
def mkJ (j : Jn) (R : Ac) (x : JT j.dfr j.tys) : Ac :=
  { regs := layL (zipL j.var (encs Ty.enc j.tys (jdat j.dfr x))) (layL (conL R j.con) .leaf), n := R.n, defers := jdfr j.dfr x R.defers, rd := R.rd }
def layF : List (Tmp × Value) → PM Value → PM Value
  | [], t => t
  | p :: r, t => layF r (t.set p.1 p.2)
def okJ (j : Jn) (c : Code) : Bool := let l := asg c; (j.con.all fun t => !memN t l) && (j.dfr || !hasRF c)
def seqK (e : Exit) (X Y : Prop) : Prop := @Exit.rec (fun _ => hiB Prop) Y (fun _ => X) (fun _ => X) X (fun _ => X) X e
def blockE (id : Nat) (e : Exit) : Exit :=
  match e with
  | .exit i => cond (Nat.beq i id) .normal (.exit i)
  | e => e
def scopeK (e : Exit) (X : Prop) : Prop := @Exit.rec (fun _ => hiB Prop) X (fun _ => X) (fun _ => False) X (fun _ => X) X e
def retK (e : Exit) (X : Prop) : Prop := @Exit.rec (fun _ => hiB Prop) X (fun _ => False) (fun _ => False) X (fun _ => False) False e
/-- The temporaries of a round: the loop's, and what it is told. -/
def parR (l : Nat) (R : Ac) (ps : List Tmp) (vs : List Value) : Ac := { regs := layF (zipL (ps.map fun p => (p, .sc .any)) vs) R.regs, n := R.n, defers := [], rd := some l }
def endRoundW (l : Nat) (L : LoopState → Option Code → DObj) (e : Exit) (S : St) (k : Bool → St → Prop) : Prop :=
  hasW S l (L .busy none)
  (match e with
   | .normal => updW S l (L .ready none) fun S => k true S
   | .ret => updW S l (L .done (some .ret)) fun S => k false S
   | .exit id => updW S l (L .done (some (.exit id))) fun S => k false S
   | _ => False)
def endX (l : Nat) (L : LoopState → Option Code → DObj) (S : St) (K : Exit → St → Prop) : List Nat → Prop
  | [] => False
  | id :: r => hasW S l (L .done (some (.exit id))) (updW S l (L .exhausted (some (.exit id))) fun S' => K (.exit id) S') ∨ endX l L S K r
/-- How a loop over a function ends: done, by a way back (if r), by one of these ways out. -/
def endLoopW (l : Nat) (L : LoopState → Option Code → DObj) (S : St) (r : Bool) (ids : List Nat) (K : Exit → St → Prop) : Prop :=
  hasW S l (L .ready none) (updW S l (L .exhausted none) fun S' => K .normal S') ∨
    selW r (hasW S l (L .done (some .ret)) (updW S l (L .exhausted (some .ret)) fun S' => K .ret S') ∨ endX l L S K ids) (endX l L S K ids)
def unionN : List Nat → List Nat → List Nat
  | [], l => l
  | x :: r, l => cond (memN x l) (unionN r l) (x :: unionN r l)
/-- The ways out that code may take. -/
def exitsC : Code → List Nat
  | .exit id => [id]
  | .seq a b => unionN (exitsC a) (exitsC b)
  | .cond _ a b => unionN (exitsC a) (exitsC b)
  | .block _ b => exitsC b
  | .loop b => exitsC b
  | .rangeFunc _ _ _ b => exitsC b
  | .scope b => exitsC b
  | _ => []
def retC : Code → Bool
  | .ret => true
  | .seq a b => retC a || retC b
  | .cond _ a b => retC a || retC b
  | .block _ b => retC b
  | .loop b => retC b
  | .rangeFunc _ _ _ b => retC b
  | .scope b => retC b
  | _ => false
/-- It makes a loop's record. -/
def LoopL (L : LoopState → Option Code → DObj) : Prop := ∀ st pd, ∃ r, L st pd = DObj.loop r
/-- What a round of the loop l must bring. -/
def RoundH (E : Env) (l : Nat) (tys : List Ty) (B : Tup Ty.T tys → St → (Bool → St → Prop) → Prop) : Prop :=
  ∀ (x : Tup Ty.T tys) S k, B x S k → WV E (.func (.yield l) #[] #[]) (encs Ty.enc tys x) S fun v S' => ∃ b, v = .bool b ∧ k b S'
/-- The function value g, called with the rounds of l. -/
def WG (E : Env) (g : Value) (l : Nat) (S : St) (Q : St → Prop) : Prop :=
  ∃ f first cap, g = .func (.func f) first cap ∧ E.prim f = none ∧ WC E f (first.toList ++ [.func (.yield l) #[] #[]] ++ cap.toList) S fun _ S' => Q S'
/-- A loop over a function: l is its record; B: what a round must bring. -/
def rangeW (E : Env) (g : Value) (S : St) (tys : List Ty) (B : Nat → (LoopState → Option Code → DObj) → Tup Ty.T tys → St → (Bool → St → Prop) → Prop) (r : Bool) (ids : List Nat) (K : Nat → Exit → St → Prop) : Prop :=
  ∀ l S' L, l = S.next → S' = (S.alloc (L .ready none)).2 → LoopL L → RoundH E l tys (fun x S k => B l L x S k) →
    WG E g l S' fun S3 => endLoopW l L S3 r ids (K l)
def isLoopW (S : St) (l : Nat) (K : Prop) : Prop := (∃ r, S.heap.get l = some (.loop r)) ∧ K
def rangeK (E : Env) (g : Value) (R : Ac) (S : St) (tys : List Ty) (B : Nat → (LoopState → Option Code → DObj) → Tup Ty.T tys → St → (Bool → St → Prop) → Prop) (r : Bool) (ids : List Nat) (K : Exit → Ac → St → Prop) : Prop :=
  match R.rd with
  | none => newW S .deferred fun d S1 => rangeW E g S1 tys B r ids fun _ e S' => K e { R with defers := d :: R.defers } S'
  | some l => isLoopW S l (rangeW E g S tys B r ids fun _ e S' => K e R S')
/-- What is kept, worked out first. -/
def conK (R : Ac) : List Tmp → (List (Tmp × Value) → Prop) → Prop
  | [], k => k []
  | t :: r, k => match R.regs.get t with | some v => conK R r fun l => k ((t, v) :: l) | none => conK R r k
theorem conK_eq (R : Ac) : ∀ (l : List Tmp) (k : List (Tmp × Value) → Prop), conK R l k = k (conL R l) := by
  intro l
  induction l with
  | nil => intro k; rfl
  | cons t l ih =>
    intro k
    unfold conK conL
    cases R.regs.get t with
    | none => exact ih k
    | some v => exact ih _
def mkC (j : Jn) (R : Ac) (cl : List (Tmp × Value)) (x : JT j.dfr j.tys) : Ac :=
  { regs := layL (zipL j.var (encs Ty.enc j.tys (jdat j.dfr x))) (layL cl .leaf), n := R.n, defers := jdfr j.dfr x R.defers, rd := R.rd }
/-- Operations in a row; their ways meet here and there. -/
def denOpsJ (E : Env) (ops : Array Oper) : List (Nat × Jn) → List Oper → Ac → St → (Ac → St → Prop) → Prop
  | [], l, R, S, K => denOps E ops l R S K
  | p :: js, l, R, S, K => needB (okJ p.2 (.region 0 (l.take p.1).toArray false)) (conK R p.2.con fun cl => joinW (fun (x : JT p.2.dfr p.2.tys) S' => denOpsJ E ops js (l.drop p.1) (mkC p.2 R cl x) S' K) fun k => denOps E ops (l.take p.1) R S fun R' S' => leafJ p.2 R' fun x => k x S')
def denC (E : Env) : Code → Hn → Ac → St → (Exit → Ac → St → Prop) → Prop
  | .skip, _, R, S, K => K .normal R S
  | .label _, _, R, S, K => K .normal R S
  | .region _ ops d, h, R, S, K => selW d (wO (planD E ops) fun l => preW E l R S fun its S0 => denGo E ops its [] R S0 fun R' S' => K .normal R' S') (denOpsJ E ops h.js ops.toList R S fun R' S' => K .normal R' S')
  | .seq a b, h, R, S, K =>
    match h.j with
    | none => denC E a h.a R S fun e R' S' => seqK e (K e R' S') (denC E b h.b R' S' K)
    | some j => needB (okJ j a) (joinW (fun (x : JT j.dfr j.tys) S' => denC E b h.b (mkJ j R x) S' K) fun k => denC E a h.a R S fun e R' S' => seqK e (K e R' S') (leafJ j R' fun x => k x S'))
  | .cond c a b, h, R, S, K =>
    match c with
    | .tmp t => wO (R.regs.get t) fun v => boolW v fun v => splitW v fun v => selW v (denC E a h.a { R with regs := R.regs.set t (.bool true) } S K) (denC E b h.b { R with regs := R.regs.set t (.bool false) } S K)
    | c => wO (ev E R c) fun v => boolW v fun v => splitW v fun v => selW v (denC E a h.a R S K) (denC E b h.b R S K)
  | .block id body, h, R, S, K => denC E body h.a R S fun e R' S' => K (blockE id e) R' S'
  | .loop body, h, R, S, K =>
    match h.j with
    | none => False
    | some j => needB (okJ j body) (leafJ j R fun x => loopW (fun (next : JT j.dfr j.tys → St → Prop) (x : JT j.dfr j.tys) S => denC E body h.a (mkJ j R x) S fun e R' S' => seqK e (K e R' S') (leafJ j R' fun x => next x S')) x S)
  | .rangeFunc f ps a b, h, R, S, K =>
    match h.j with
    | none => False
    | some j => wO (ev E R f) fun g => rangeK E g R S j.tys (fun l L x S k => hasW S l (L .ready none) (needB (Nat.beq j.var.length ps.size && ps.toList.all fun p => Nat.blt p R.n)
        (denC E a h.a (parR l R ps.toList (encs Ty.enc j.tys x)) S fun e R1 S1 => seqK e False (hasW S1 l (L .ready none) (updW S1 l (L .busy none) fun S2 =>
          denC E b h.b R1 S2 fun e _ S3 => endRoundW l L e S3 k))))) (retC b) (exitsC b) K
  | .exit id, _, R, S, K => K (.exit id) R S
  | .scope body, h, R, S, K => denC E body h.a R S fun e R' S' => scopeK e (K e R' S')
  | .ret, _, R, S, K => K .ret R S
  | .goto _, _, _, _, _ => False
  | .refuse _, _, _, _, _ => False

/-! ### Functions -/
/-- A function's code. -/
abbrev bodyOf (f : Func) : Code := f.body.getD .skip
def shutW : List Nat → St → (St → Prop) → Prop
  | [], S, K => K S
  | d :: r, S, K => hasW S d .deferred (updW S d .dead fun S' => shutW r S' K)
def resW (E : Env) (R : Ac) (S : St) : List ResultVar → (List Value → Prop) → Prop
  | [], K => K []
  | .tmp t :: r, K => wO (R.regs.get t) fun v => resW E R S r fun vs => K (v :: vs)
  | .cell a t :: r, K => wO (R.regs.get a) fun p => wO (ttE E t) fun ty => evV ty (loadV E S t p) fun x => resW E R S r fun vs => K (ty.enc x :: vs)
def denF (E : Env) (h : Hn) (fn : Func) (c : Code) (args : List Value) (S : St) (K : Value → St → Prop) : Prop :=
  denC E c h { regs := PM.ofList args 0 .leaf, n := args.length + (fn.ntmps - args.length), defers := [], rd := none } S fun e R S' =>
    retK e (shutW R.defers S' fun S2 => resW E R S2 fn.results.toList fun vs => K (tupleD vs) S2)

end
end Go.Proofs.Ytcdignblakejoaa.D

/-
  D, part 26: 'denC' is right: where it holds, the run comes to 'K'.
-/
namespace Go.Proofs.Ytcdignblakejoaa.D
noncomputable section
set_option linter.unusedVariables false
set_option linter.unusedSimpArgs false

variable {E : Env}
/-- An operation comes to K. -/
def OpW (E : Env) (A : Ac) (S : St) (o : Op) (K : Value → St → Prop) : Prop := ∃ n v S', (opD E A S o).bind (coreC E (exec E drawD n)) = some (v, S') ∧ K v S'
theorem OpW.val {A : Ac} {S S' : St} {o : Op} {v : Value} {K : Value → St → Prop} (h : opD E A S o = some (.val v S')) (k : K v S') : OpW E A S o K := ⟨0, v, S', by rw [h]; rfl, k⟩
theorem OpW.skip {A : Ac} {S S' : St} {o : Op} {K : Value → St → Prop} (h : opD E A S o = some (.skip S')) (k : K undef S') : OpW E A S o K := ⟨0, undef, S', by rw [h]; rfl, k⟩

theorem denInt_sound {op : BinOp} {k : IntKind} {p q : Int} {K : Value → Prop} (h : denInt op k p q K) : ∃ v, intD op k p q = some v ∧ K v := by
  unfold denInt at h
  split at h
  · rw [eqI_eq] at h; exact ⟨_, rfl, h⟩
  · rw [eqI_eq] at h; exact ⟨_, rfl, h⟩
  · rw [ltI_eq] at h; exact ⟨_, rfl, h⟩
  · rw [leI_eq] at h; exact ⟨_, rfl, h⟩
  · rw [ltI_eq] at h; exact ⟨_, rfl, h⟩
  · rw [leI_eq] at h; exact ⟨_, rfl, h⟩
  · rw [wrapI_eq] at h; exact ⟨_, rfl, h⟩
  · rw [wrapI_eq] at h; exact ⟨_, rfl, h⟩
  · rw [wrapI_eq] at h; exact ⟨_, rfl, h⟩
  · obtain ⟨h1, h2⟩ := needW_iff.1 h
    rw [wrapI_eq] at h2
    refine ⟨_, ?_, h2⟩
    simp only [Bool.not_eq_true'] at h1
    simp only [intD, h1, cond_false]
  · obtain ⟨h1, h2⟩ := needW_iff.1 h
    refine ⟨_, ?_, h2⟩
    simp only [Bool.not_eq_true'] at h1
    simp only [intD, h1, cond_false]
  · exact ⟨_, rfl, h⟩
  · exact ⟨_, rfl, h⟩
  · exact ⟨_, rfl, h⟩
  · exact ⟨_, rfl, h⟩
  · exact wO_iff.1 h
theorem denUn_sound {op : UnOp} {v : Value} {K : Value → Prop} (h : denUn op v K) : ∃ w, unD op v = some w ∧ K w := by
  unfold denUn at h
  split at h
  · rw [wrapI_eq] at h; exact ⟨_, rfl, h⟩
  · exact wO_iff.1 h
theorem denStr_sound {op : BinOp} {p q : ByteArray} {K : Value → Prop} (h : denStr op p q K) : ∃ v, strD op p q = some v ∧ K v := by
  unfold denStr at h
  split at h
  · obtain ⟨x, h1, h2⟩ := h; exact ⟨_, h1, h2⟩
  · exact wO_iff.1 h
theorem denEq_sound {S : St} {op : BinOp} {t : TypeId} {x y : Operand} {a b : Value} {K : Value → Prop} (hs : ∀ p q, a = .string p → b = .string q → False) (hi : ∀ k k' p q, a = .int k p → b = .int k' q → False)
    (h : denEq E S op t x y a b K) : ∃ v, binD E S op t x y a b = some v ∧ K v := by
  unfold denEq at h
  split at h
  · obtain ⟨h1, e, h2, h3⟩ := needB_iff.1 h
    refine ⟨_, ?_, h3⟩
    unfold binD
    split
    · exact (hi _ _ _ _ rfl rfl).elim
    · exact (hs _ _ rfl rfl).elim
    · simp only [h1, h2, cond_true, Option.map_some]
  · obtain ⟨h1, e, h2, h3⟩ := needB_iff.1 h
    refine ⟨_, ?_, h3⟩
    unfold binD
    split
    · exact (hi _ _ _ _ rfl rfl).elim
    · exact (hs _ _ rfl rfl).elim
    · simp only [h1, h2, cond_true, Option.map_some]
  · exact h.elim
theorem denBin_sound {S : St} {op : BinOp} {t : TypeId} {x y : Operand} {a b : Value} {K : Value → Prop} (h : denBin E S op t x y a b K) : ∃ v, binD E S op t x y a b = some v ∧ K v := by
  unfold denBin at h
  split at h
  · rename_i k p k' q
    split at h
    · obtain ⟨h1, h2⟩ := needW_iff.1 h
      refine ⟨_, ?_, h2⟩
      simp only [Bool.not_eq_true'] at h1
      simp only [binD, shiftD, h1, cond_false, shiftV, cond_true, wrapI_eq]
    · obtain ⟨h1, h2⟩ := needW_iff.1 h
      refine ⟨_, ?_, h2⟩
      simp only [Bool.not_eq_true'] at h1
      simp only [binD, shiftD, h1, cond_false, shiftV, cond_true, wrapI_eq]
    · rename_i h1 h2
      cases hk : kindEq k k' with
      | false => rw [hk] at h; exact h.elim
      | true =>
        rw [hk] at h
        obtain ⟨v, h3, h4⟩ := denInt_sound h
        refine ⟨v, ?_, h4⟩
        cases op <;> first
          | exact (h1 rfl).elim
          | exact (h2 rfl).elim
          | (simp only [binD, hk, cond_true]; exact h3)
  · obtain ⟨v, h1, h2⟩ := denStr_sound h
    exact ⟨v, h1, h2⟩
  · rename_i h1 h2
    exact denEq_sound (fun p q ha hb => h2 p q ha hb) (fun k k' p q ha hb => h1 k p k' q ha hb) h
theorem nilW_sound {v : Value} {K : Value → Prop} (h : nilW v K) : ∃ w, nilD v = some w ∧ K w := by
  unfold nilW at h
  split at h
  · obtain ⟨b, o, h1, h2⟩ := h; subst h1; exact ⟨_, rfl, h2⟩
  · exact wO_iff.1 h
theorem convW_sound {S : St} {s d : TypeId} {v : Value} {K : Value → St → Prop} (h : convW E S s d v K) : ∃ w S', convertD E S s d v = some (w, S') ∧ K w S' := by
  unfold convW at h
  split at h
  · rename_i hs hd
    rw [wrapI_eq] at h
    refine ⟨_, _, ?_, h⟩
    unfold convertD
    rw [hs, hd]
  · obtain ⟨ty, _, x, S', h1, h2⟩ := wO_iff.1 h
    exact ⟨_, _, h1, h2⟩
theorem fieldW_sound {t : TypeId} {v : Value} {f : Nat} {K : Value → Prop} (h : fieldW E t v f K) : ∃ w, fieldAddrD E t v f = some w ∧ K w := by
  unfold fieldW at h
  split at h
  · obtain ⟨b, o, h1, h2⟩ := h; subst h1; exact wO_iff.1 h2
  · exact h.elim
theorem indexW_sound {t : TypeId} {v i : Value} {K : Value → Prop} (h : indexW E t v i K) : ∃ w, indexAddrD E t v i = some w ∧ K w := by
  unfold indexW at h
  split at h
  · split at h
    · rename_i e hu
      obtain ⟨s, h1, b, o, h2, h3, h4, h5⟩ := wO_iff.1 h
      subst h2
      refine ⟨_, ?_, h5⟩
      unfold indexAddrD
      simp only [hu, h1, Option.bind_some, h3, h4, decide_true, Bool.and_true, cond_true]
    · exact h.elim
  · split at h
    · rename_i len e hu
      obtain ⟨s, h1, b, o, h2, h3, h4, h5⟩ := wO_iff.1 h
      subst h2
      refine ⟨_, ?_, h5⟩
      unfold indexAddrD
      simp only [hu, h1, Option.bind_some, h3, h4, decide_true, Bool.and_true, cond_true]
    · exact h.elim
  · exact h.elim
theorem cellsD_some {S : St} {t : TypeId} {n : Nat} {parts : List (Nat × Value)} {l : List Value} (h : cellsD E t n parts = some l) :
    buildSliceD E S t n parts = some (.slice (some ⟨S.next, 0, none⟩) n n, (S.alloc (.cells l none false none)).2) := by
  unfold cellsD at h
  unfold buildSliceD
  split at h
  · rename_i e he
    rw [he]
    simp only
    split at h
    · rename_i i hi
      rw [hi]
      simp only
      rw [Option.bind_eq_some_iff] at h ⊢
      obtain ⟨z, h1, h2⟩ := h
      obtain ⟨h3, h4⟩ := cond_some h2
      exact ⟨z, h1, by rw [h3, h4]; rfl⟩
    · cases h
  · cases h
theorem lenW_sound {S : St} {t : TypeId} {v : Value} {K : Value → Prop} (h : lenW E S t v K) : ∃ w, lenD E S t v = some w ∧ K w := by
  unfold lenW at h
  split at h
  · obtain ⟨x, h1, h2⟩ := h; exact ⟨_, h1, h2⟩
  · exact wO_iff.1 h
theorem denBuiltin_sound {S : St} {b : Builtin} {ts : Array TypeId} {ty : TypeId} {args : List Value} {K : Value → St → Prop} (h : denBuiltin E S b ts ty args K) : ∃ w S', builtinD E S b ts args = some (w, S') ∧ K w S' := by
  unfold denBuiltin at h
  split at h
  · obtain ⟨t, h1, h⟩ := wO_iff.1 h
    obtain ⟨w, h2, h3⟩ := lenW_sound h
    exact ⟨w, S, by simp only [builtinD, h1, h2, Option.bind_some, Option.map_some], h3⟩
  · obtain ⟨w, h2, h3⟩ := wO_iff.1 h
    exact ⟨w, S, by simp only [builtinD, h2, Option.map_some], h3⟩
  · obtain ⟨w, h2, h3⟩ := wO_iff.1 h
    exact ⟨w, S, by simp only [builtinD, h2, Option.map_some], h3⟩
  · obtain ⟨t, h1, h⟩ := wO_iff.1 h
    obtain ⟨u, h2, y, S', h3, h4⟩ := wO_iff.1 h
    exact ⟨_, S', by simp only [builtinD, h1, h2, Option.bind_some, h3]; rfl, h4⟩
  · obtain ⟨t, h1, S', h3, h4⟩ := wO_iff.1 h
    exact ⟨_, S', by simp only [builtinD, h1, Option.bind_some, h3, Option.map_some], h4⟩
  · obtain ⟨t, h1, S', h3, h4⟩ := wO_iff.1 h
    exact ⟨_, S', by simp only [builtinD, h1, Option.bind_some, h3, Option.map_some], h4⟩
  · obtain ⟨x, S', h3, h4⟩ := h
    exact ⟨_, S', h3, h4⟩
theorem denOp_sound {R A : Ac} {S : St} {o : Op} {ty : TypeId} {K : Value → St → Prop} (hs : Sub R A) (h : denOp E R S o ty K) : OpW E A S o K := by
  cases o with
  | move x =>
    obtain ⟨v, h1, h⟩ := wO_iff.1 h
    exact .val (by simp only [opD, ev_sub hs h1, ofV, Option.map_some]) h
  | assign x =>
    obtain ⟨v, h1, h⟩ := wO_iff.1 h
    exact .val (by simp only [opD, ev_sub hs h1, ofV, Option.map_some]) h
  | pick c a b =>
    obtain ⟨v, h1, h⟩ := wO_iff.1 h
    obtain ⟨t, rfl, hh⟩ := boolW_iff.1 h
    · rw [splitW_iff] at hh
      have h := hh
      obtain ⟨w, h2, h⟩ := wO_iff.1 h
      refine .val (v := w) (S' := S) ?_ h
      have := ev_sub hs h2
      cases t <;> (simp only [cond_true, cond_false] at this; simp only [opD, ev_sub hs h1, pickD, this, ofV, cond_true, cond_false, Option.bind_some, Option.map_some])
  | alloc e =>
    obtain ⟨z, h1, h⟩ := wO_iff.1 h
    exact .val (by simp only [opD, h1, Option.map_some, newD]) (h _ _ rfl rfl)
  | box e x =>
    obtain ⟨v, h1, h⟩ := wO_iff.1 h
    exact .val (by simp only [opD, ev_sub hs h1, Option.map_some, newD]) (h _ _ rfl rfl)
  | build t ps =>
    obtain ⟨parts, h1, h⟩ := wO_iff.1 h
    obtain ⟨v, h2, h⟩ := wO_iff.1 h
    exact .val (by simp only [opD, evps_sub hs h1, h2, ofV, Option.bind_some, Option.map_some]) h
  | buildSlice t n ps =>
    obtain ⟨parts, h1, h⟩ := wO_iff.1 h
    obtain ⟨l, h2, h⟩ := wO_iff.1 h
    exact .val (by simp only [opD, evps_sub hs h1, cellsD_some h2, ofP, Option.bind_some, Option.map_some]) (h _ _ rfl rfl)
  | load t a =>
    obtain ⟨p, h1, h⟩ := wO_iff.1 h
    obtain ⟨tt, _, x, h2, h⟩ := wO_iff.1 h
    exact .val (by simp only [opD, ev_sub hs h1, h2, ofV, Option.bind_some, Option.map_some]) h
  | store t a x =>
    obtain ⟨p, h1, h⟩ := wO_iff.1 h
    obtain ⟨v, h2, S', h3, h⟩ := wO_iff.1 h
    exact .skip (by simp only [opD, ev_sub hs h1, ev_sub hs h2, h3, ofS, Option.bind_some, Option.map_some]) h
  | nilCheck x =>
    obtain ⟨v, h1, h⟩ := wO_iff.1 h
    obtain ⟨w, h2, h⟩ := nilW_sound h
    exact .val (by simp only [opD, ev_sub hs h1, h2, ofV, Option.bind_some, Option.map_some]) h
  | binOp op t x y u =>
    obtain ⟨a, h1, h⟩ := wO_iff.1 h
    obtain ⟨b, h2, h⟩ := wO_iff.1 h
    obtain ⟨w, h3, h⟩ := denBin_sound h
    exact .val (by simp only [opD, ev_sub hs h1, ev_sub hs h2, h3, ofV, Option.bind_some, Option.map_some]) h
  | unOp op t x =>
    obtain ⟨a, h1, h⟩ := wO_iff.1 h
    obtain ⟨w, h3, h⟩ := denUn_sound h
    exact .val (by simp only [opD, ev_sub hs h1, h3, ofV, Option.bind_some, Option.map_some]) h
  | convert s d x =>
    obtain ⟨a, h1, h⟩ := wO_iff.1 h
    obtain ⟨w, S', h3, h⟩ := convW_sound h
    exact .val (by simp only [opD, ev_sub hs h1, h3, ofP, Option.bind_some, Option.map_some]) h
  | makeInterface t x =>
    obtain ⟨a, h1, h⟩ := wO_iff.1 h
    obtain ⟨w, h3, h⟩ := wO_iff.1 h
    exact .val (by simp only [opD, ev_sub hs h1, h3, ofV, Option.bind_some, Option.map_some]) h
  | makeFunc fn first captured =>
    obtain ⟨fs, h1, h⟩ := wO_iff.1 h
    obtain ⟨cs, h2, h⟩ := wO_iff.1 h
    obtain ⟨h3, h⟩ := needB_iff.1 h
    exact .val (by simp only [opD, evs_sub hs h1, evs_sub hs h2, h3, cond_true, Option.bind_some]) h
  | makeMap t r =>
    obtain ⟨x, h1, h⟩ := wO_iff.1 h
    obtain ⟨h2, h⟩ := needB_iff.1 h
    exact .val (by simp only [opD, evo_sub hs h1, h2, cond_true, Option.bind_some, newD]) (h _ _ rfl rfl)
  | makeSlice t l c =>
    obtain ⟨a, h1, h⟩ := wO_iff.1 h
    obtain ⟨b, h2, y, S', h3, h⟩ := wO_iff.1 h
    exact .val (by simp only [opD, ev_sub hs h1, ev_sub hs h2, h3, ofP, Option.bind_some, Option.map_some]; rfl) h
  | slice t x lo hi mx =>
    obtain ⟨v, h1, h⟩ := wO_iff.1 h
    obtain ⟨l, h2, h⟩ := wO_iff.1 h
    obtain ⟨hh, h3, h⟩ := wO_iff.1 h
    obtain ⟨m, h4, h⟩ := wO_iff.1 h
    obtain ⟨tt, _, w, h5, h⟩ := wO_iff.1 h
    exact .val (by simp only [opD, ev_sub hs h1, evo_sub hs h2, evo_sub hs h3, evo_sub hs h4, h5, ofV, Option.bind_some, Option.map_some]) h
  | fieldAddr t x f =>
    obtain ⟨v, h1, h⟩ := wO_iff.1 h
    obtain ⟨w, h2, h⟩ := fieldW_sound h
    exact .val (by simp only [opD, ev_sub hs h1, h2, ofV, Option.bind_some, Option.map_some]) h
  | field t x f =>
    obtain ⟨v, h1, h⟩ := wO_iff.1 h
    obtain ⟨w, h2, h⟩ := wO_iff.1 h
    exact .val (by simp only [opD, ev_sub hs h1, h2, ofV, Option.bind_some, Option.map_some]) h
  | indexAddr t x i =>
    obtain ⟨v, h1, h⟩ := wO_iff.1 h
    obtain ⟨j, h2, h⟩ := wO_iff.1 h
    obtain ⟨w, h3, h⟩ := indexW_sound h
    exact .val (by simp only [opD, ev_sub hs h1, ev_sub hs h2, h3, ofV, Option.bind_some, Option.map_some]) h
  | index t x i =>
    obtain ⟨v, h1, h⟩ := wO_iff.1 h
    obtain ⟨j, h2, h⟩ := wO_iff.1 h
    obtain ⟨tt, _, w, h3, h⟩ := wO_iff.1 h
    exact .val (by simp only [opD, ev_sub hs h1, ev_sub hs h2, h3, ofV, Option.bind_some, Option.map_some]) h
  | lookup t x k ok =>
    obtain ⟨v, h1, h⟩ := wO_iff.1 h
    obtain ⟨j, h2, h⟩ := wO_iff.1 h
    obtain ⟨tt, _, w, h3, h⟩ := wO_iff.1 h
    exact .val (by simp only [opD, ev_sub hs h1, ev_sub hs h2, h3, ofV, Option.bind_some, Option.map_some]) h
  | mapUpdate t m k x =>
    obtain ⟨v, h1, h⟩ := wO_iff.1 h
    obtain ⟨j, h2, h⟩ := wO_iff.1 h
    obtain ⟨u, h3, S', h4, h⟩ := wO_iff.1 h
    exact .skip (by simp only [opD, ev_sub hs h1, ev_sub hs h2, ev_sub hs h3, h4, ofS, Option.bind_some, Option.map_some]) h
  | insert t m k x =>
    obtain ⟨v, h1, h⟩ := wO_iff.1 h
    obtain ⟨j, h2, h⟩ := wO_iff.1 h
    obtain ⟨u, h3, S', h4, h⟩ := wO_iff.1 h
    exact .skip (by simp only [opD, ev_sub hs h1, ev_sub hs h2, ev_sub hs h3, h4, ofS, Option.bind_some, Option.map_some]) h
  | mapEntry t m k =>
    obtain ⟨v, h1, h⟩ := wO_iff.1 h
    obtain ⟨j, h2, y, S', h3, h⟩ := wO_iff.1 h
    exact .val (by simp only [opD, ev_sub hs h1, ev_sub hs h2, h3, ofP, Option.bind_some, Option.map_some]) h
  | entryStore t m s x =>
    obtain ⟨v, h1, h⟩ := wO_iff.1 h
    obtain ⟨j, h2, h⟩ := wO_iff.1 h
    obtain ⟨u, h3, S', h4, h⟩ := wO_iff.1 h
    exact .skip (by simp only [opD, ev_sub hs h1, ev_sub hs h2, ev_sub hs h3, h4, ofS, Option.bind_some, Option.map_some]) h
  | extract t i =>
    obtain ⟨v, h1, h⟩ := wO_iff.1 h
    obtain ⟨w, h2, h⟩ := wO_iff.1 h
    exact .val (by simp only [opD, ev_sub hs h1, h2, ofV, Option.bind_some, Option.map_some]) h
  | range t x =>
    obtain ⟨v, h1, y, S', h3, h⟩ := wO_iff.1 h
    exact .val (by simp only [opD, ev_sub hs h1, h3, ofP, Option.bind_some, Option.map_some]; rfl) h
  | next x str =>
    obtain ⟨v, h1, h⟩ := wO_iff.1 h
    rcases h with ⟨S', h3, h⟩ | ⟨y, S', h3, h⟩
    · exact .val (by simp only [opD, ev_sub hs h1, h3, ofP, Option.bind_some, Option.map_some]) h
    · exact .val (by simp only [opD, ev_sub hs h1, h3, ofP, Option.bind_some, Option.map_some]) h
  | entry x =>
    obtain ⟨v, h1, w, h3, h⟩ := wO_iff.1 h
    exact .val (by simp only [opD, ev_sub hs h1, h3, ofV, Option.bind_some, Option.map_some]) h
  | call c =>
    obtain ⟨args, h1, h⟩ := wO_iff.1 h
    cases hc : c.callee with
    | builtin b =>
      simp only [hc] at h
      obtain ⟨w, S', h2, h⟩ := denBuiltin_sound h
      exact .val (by simp only [opD, callD, hc, evs_sub hs h1, h2, ofP, Option.bind_some, Option.map_some]) h
    | value f =>
      simp only [hc] at h
      split at h
      · cases ‹_ = _›
      · rename_i g e
        cases e
        obtain ⟨n, v, S', h3, x, rfl, h⟩ := h
        refine ⟨n, _, S', ?_, h⟩
        simp only [opD, callD, hc, evs_sub hs h1, Ac.eval, Option.bind_some, calleeD, coreC]
        simpa using h3
      · rename_i g e
        cases e
        obtain ⟨u, h2, h⟩ := wO_iff.1 h
        obtain ⟨n, v, S', h3, x, rfl, h⟩ := h
        exact ⟨n, _, S', by simp only [opD, callD, hc, evs_sub hs h1, ev_sub hs h2, Option.bind_some]; exact h3, h⟩
      · cases ‹_ = _›
    | invoke r m => simp only [hc] at h
  | _ => exact h.elim

/-! ### Operations in a row -/
theorem putR_sound {R A : Ac} {dst : Option Tmp} {v : Value} {K : Ac → Prop} (hs : Sub R A) (h : putR R dst v K) : ∃ R' A', A.put dst v = some A' ∧ Sub R' A' ∧ K R' := by
  cases dst with
  | none => exact ⟨R, A, rfl, hs, h⟩
  | some d =>
    unfold putR at h
    simp only at h
    cases hb : Nat.blt d R.n with
    | false => rw [hb] at h; exact h.elim
    | true =>
      rw [hb] at h
      refine ⟨_, _, ?_, hs.set, h⟩
      simp only [Ac.put]
      rw [← hs.n, hb]; rfl
theorem guardW_sound {ops : Array Oper} {R A : Ac} {o : Oper} {K : Bool → Ac → Prop} (hs : Sub R A) (h : guardW ops R o K) : ∃ R', Sub R' A ∧ K (wantedD ops A o) R' := by
  unfold guardW at h
  unfold wantedD
  split at h
  · rename_i hg
    refine ⟨R, hs, ?_⟩
    rw [hg]; exact h
  · rename_i j want hg
    rw [hg]
    obtain ⟨t, h1, h⟩ := wO_iff.1 h
    simp only [h1]
    cases hb : Nat.blt t R.n with
    | false => rw [hb] at h; exact h.elim
    | true =>
      rw [hb] at h
      obtain ⟨v, h2, h⟩ := wO_iff.1 h
      cases hbo : boolO v with
      | none =>
        rw [hbo] at h
        refine ⟨R, hs, ?_⟩
        have ha := hs.get _ _ h2
        have : A.get t = v := by unfold Ac.get; rw [ha]; rfl
        rw [← hs.n, hb, this]
        clear this ha h2
        simp only [cond_true]
        split
        · cases hbo
        · exact h
      | some b =>
        rw [hbo] at h
        have hv := boolO_some hbo
        subst hv
        have h : splitW b fun b => K (b == want) { R with regs := R.regs.set t (.bool b) } := h
        rw [splitW_iff] at h
        have ha := hs.get _ _ h2
        refine ⟨_, hs.say ha, ?_⟩
        have : A.get t = .bool b := by unfold Ac.get; rw [ha]; rfl
        rw [← hs.n, hb, this]
        exact h
def OpsW (E : Env) (ops : Array Oper) (l : List Oper) (A : Ac) (S : St) (K : Ac → St → Prop) : Prop := ∃ n A' S' R', opsD E (exec E drawD n) ops l A S = some (A', S') ∧ Sub R' A' ∧ K R' S'
theorem contD_core {r : Runner} {dst : Option Tmp} {A : Ac} {d : DN} : contD E r dst A d = (coreC E r d).bind fun p => (A.put dst p.1).map (·, p.2) := by
  cases d <;> rfl
theorem denOps_sound {ops : Array Oper} : ∀ {l : List Oper} {R A : Ac} {S : St} {K : Ac → St → Prop}, Sub R A → denOps E ops l R S K → OpsW E ops l A S K := by
  intro l
  induction l with
  | nil => intro R A S K hs h; exact ⟨0, A, S, R, rfl, hs, h⟩
  | cons o l ih =>
    intro R A S K hs h
    unfold denOps at h
    obtain ⟨R1, hs1, h⟩ := guardW_sound hs h
    cases hw : wantedD ops A o with
    | true =>
      rw [hw, selW_true] at h
      obtain ⟨n, v, S1, h1, h⟩ := denOp_sound hs1 h
      obtain ⟨R2, A2, h2, hs2, h⟩ := putR_sound hs1 h
      obtain ⟨n', A', S', R', h3, hs', hk⟩ := ih hs2 h
      refine ⟨max n n', A', S', R', ?_, hs', hk⟩
      have e1 : oneD E (exec E drawD n) ops o A S = some (A2, S1) := by
        unfold oneD
        rw [hw, cond_true]
        have : (opD E A S o.op).bind (contD E (exec E drawD n) o.dst A) = ((opD E A S o.op).bind (coreC E (exec E drawD n))).bind fun p => (A.put o.dst p.1).map (·, p.2) := by
          rw [Option.bind_assoc]; congr 1; funext d; exact contD_core
        rw [this, h1]
        simp only [Option.bind_some, h2, Option.map_some]
      simp only [opsD]
      rw [oneD_le (exec_le E (Nat.le_max_left n n')) e1]
      exact opsD_le (exec_le E (Nat.le_max_right n n')) h3
    | false =>
      rw [hw, selW_false] at h
      obtain ⟨R2, A2, h2, hs2, h⟩ := putR_sound hs1 h
      obtain ⟨n', A', S', R', h3, hs', hk⟩ := ih hs2 h
      refine ⟨n', A', S', R', ?_, hs', hk⟩
      simp only [opsD, oneD, hw, cond_false, h2, Option.map_some]
      exact h3
theorem readB_ok {o : Op} (h : readB E o = true) : kindD E o ≠ .k2 := by
  intro hk
  unfold readB at h
  rw [hk] at h; cases h
theorem sameD_of {R A : Ac} {S : St} {o : Op} {ty : TypeId} {v : Value} {X : Prop} (hs : Sub R A) (hb : readB E o = true) (h : denOp E R S o ty fun v' _ => sameV v' v X) : sameD E A S o v = true ∧ X := by
  obtain ⟨n, v', S', h1, h2⟩ := denOp_sound hs h
  obtain ⟨h2, h3⟩ := sameV_iff.1 h2
  rw [Option.bind_eq_some_iff] at h1
  obtain ⟨r, h4, h5⟩ := h1
  obtain ⟨u, rfl⟩ := opD_k h4 (readB_ok hb)
  simp only [coreC, Option.some.injEq, Prod.mk.injEq] at h5
  refine ⟨sameD_iff.2 ?_, h3⟩
  rw [h4, h5.1, h2]
/-- What D keeps of a region's operations, and what is known of it. -/
def RSub (T T' : List Rec) : Prop := T.length = T'.length ∧ ∀ (j : Nat) (r : Rec), T[j]? = some r → ∃ A', T'[j]? = some (A', r.2) ∧ Sub r.1 A'
theorem RSub.nil : RSub [] [] := ⟨rfl, fun j r h => by simp at h⟩
theorem RSub.add {T T' : List Rec} (h : RSub T T') {R A : Ac} {S : St} {v : Option Value} (hs : Sub R A) : RSub (T ++ [(R, S, v)]) (T' ++ [(A, S, v)]) := by
  refine ⟨by simp [h.1], fun j r hr => ?_⟩
  rcases Nat.lt_or_ge j T.length with hj | hj
  · rw [List.getElem?_append_left hj] at hr
    rw [List.getElem?_append_left (by rw [← h.1]; exact hj)]
    exact h.2 j r hr
  · rw [List.getElem?_append_right hj] at hr
    rw [List.getElem?_append_right (by rw [← h.1]; exact hj), ← h.1]
    cases hq : j - T.length with
    | zero => rw [hq] at hr; cases hr; exact ⟨A, rfl, hs⟩
    | succ q => rw [hq] at hr; simp at hr
theorem chkLowW_sound {T T' : List Rec} (hT : RSub T T') {R A : Ac} (hs : Sub R A) {o : Op} {ty : TypeId} {v : Value} {X : Prop} : ∀ {js : List Nat}, chkLowW E T R o ty v X js → lowC E T' A o v js = true ∧ X := by
  intro js
  induction js with
  | nil => intro h; exact ⟨rfl, h⟩
  | cons j js ih =>
    intro h
    simp only [chkLowW] at h
    obtain ⟨r, h1, h⟩ := wO_iff.1 h
    obtain ⟨hb, h⟩ := needB_iff.1 h
    obtain ⟨h2, h⟩ := sameD_of hs hb h
    obtain ⟨h3, h4⟩ := ih h
    obtain ⟨A', g1, _⟩ := hT.2 j r h1
    exact ⟨by simp only [lowC, g1, h2, h3, Bool.and_self], h4⟩
theorem chkQuietW_sound {ops : Array Oper} {T T' : List Rec} (hT : RSub T T') {S : St} {X : Prop} : ∀ {js : List Nat}, chkQuietW E ops T S X js → quietC E ops T' S js = true ∧ X := by
  intro js
  induction js with
  | nil => intro h; exact ⟨rfl, h⟩
  | cons j js ih =>
    intro h
    simp only [chkQuietW] at h
    obtain ⟨r, h1, h⟩ := wO_iff.1 h
    obtain ⟨o, h2, h⟩ := wO_iff.1 h
    obtain ⟨A', g1, g2⟩ := hT.2 j r h1
    obtain ⟨Rr, Sr, vr⟩ := r
    cases vr with
    | none =>
      obtain ⟨h3, h4⟩ := ih h
      exact ⟨by simp only [quietC, g1, h2, h3, Bool.and_self], h4⟩
    | some v =>
      obtain ⟨hb, h⟩ := needB_iff.1 h
      obtain ⟨h5, h⟩ := sameD_of g2 hb h
      obtain ⟨h3, h4⟩ := ih h
      exact ⟨by simp only [quietC, g1, h2, h5, h3, Bool.and_self], h4⟩
theorem chkW_sound {ops : Array Oper} {T T' : List Rec} (hT : RSub T T') {R A : Ac} (hs : Sub R A) {p : Oper × Md} {v : Value} {S : St} {X : Prop} (h : chkW E ops T p R v S X) : chkD E ops T' p A (v, S) = true ∧ X := by
  unfold chkW at h
  unfold chkD
  cases hm : p.2 with
  | free => rw [hm] at h; exact ⟨rfl, h⟩
  | low js => rw [hm] at h; exact chkLowW_sound hT hs h
  | quiet js => rw [hm] at h; exact chkQuietW_sound hT h
/-- What hangs on nothing lies there. -/
def statB : Op → Bool
  | .alloc _ | .makeMap _ none => true
  | _ => false
def OkIts (E : Env) (its : List It) : Prop := ∀ p ∈ its, ∀ b z, p.2 = some (b, z) → statB p.1.1.op = true → ∀ A, fltO E A p.1.1.op = some z
theorem fltW_sound {R A : Ac} (hs : Sub R A) {o : Op} {K : DObj → Prop} (h : fltW E R o K) : ∃ z, fltO E A o = some z ∧ (statB o = true → ∀ A', fltO E A' o = some z) ∧ K z := by
  cases o <;> simp only [fltW] at h <;> try (exact h.elim)
  case alloc e =>
    obtain ⟨z, h1, h2⟩ := wO_iff.1 h
    exact ⟨z, h1, fun _ _ => h1, h2⟩
  case box t x =>
    obtain ⟨v, h1, h2⟩ := wO_iff.1 h
    refine ⟨_, ?_, (fun h => by cases h), h2⟩
    simp only [fltO, ev_sub hs h1, Option.map_some]
  case makeMap t x =>
    cases x with
    | none => exact ⟨_, rfl, fun _ _ => rfl, h⟩
    | some x => exact h.elim
  case makeSlice t l c =>
    obtain ⟨ln, h1, h⟩ := wO_iff.1 h
    obtain ⟨cp, h2, o, h3, h4⟩ := wO_iff.1 h
    refine ⟨o, ?_, (fun h => by cases h), h4⟩
    simp only [fltO, ev_sub hs h1, ev_sub hs h2, Option.bind_some, h3]
theorem fltG_sound {R A : Ac} (hs : Sub R A) {o : Op} {b : Nat} {z : DObj} {K : Value → Prop} (hz : statB o = true → fltO E A o = some z) (h : fltG E R o b z K) : ∃ v, fltO E A o = some z ∧ fltV E A b o = some v ∧ K v := by
  cases o <;> simp only [fltG] at h <;> try (exact h.elim)
  case alloc e => exact ⟨_, hz rfl, rfl, h⟩
  case box t x =>
    obtain ⟨v, h1, h2⟩ := wO_iff.1 h
    refine ⟨_, ?_, rfl, h2.go⟩
    simp only [fltO, ev_sub hs h1, Option.map_some, h2.same]
  case makeMap t x =>
    cases x with
    | none => exact ⟨_, hz rfl, rfl, h⟩
    | some x => exact h.elim
  case makeSlice t l c =>
    obtain ⟨ln, h1, h⟩ := wO_iff.1 h
    obtain ⟨cp, h2, o, h3, h4⟩ := wO_iff.1 h
    obtain ⟨v, h5, h6⟩ := wO_iff.1 h4.go
    refine ⟨v, ?_, ?_, h6⟩
    · simp only [fltO, ev_sub hs h1, ev_sub hs h2, Option.bind_some, h3, h4.same]
    · simp only [fltV, ev_sub hs h1, ev_sub hs h2, Option.bind_some, h5]
theorem preW_sound : ∀ {l : List ((Oper × Md) × Ph)} {R A : Ac} {S : St} {K : List It → St → Prop}, Sub R A → preW E l R S K → ∃ its S', preD E l A S = some (its, S') ∧ OkIts E its ∧ K its S' := by
  intro l
  induction l with
  | nil => intro R A S K _ h; exact ⟨[], S, rfl, (fun p hp => by cases hp), h⟩
  | cons p l ih =>
    intro R A S K hs h
    obtain ⟨p, ph⟩ := p
    have okc : ∀ {its : List It} {q : It}, OkIts E its → (∀ b z, q.2 = some (b, z) → statB q.1.1.op = true → ∀ A, fltO E A q.1.1.op = some z) → OkIts E (q :: its) := by
      intro its q h1 h2 x hx
      rcases List.mem_cons.1 hx with rfl | hx
      · exact h2
      · exact h1 x hx
    cases ph with
    | no =>
      obtain ⟨its, S', h1, h2, h3⟩ := ih (K := fun l S' => K ((p, none) :: l) S') hs h
      refine ⟨_, _, ?_, okc h2 (fun b z h => by cases h), h3⟩
      simp only [preD, h1, Option.map_some]
    | fl =>
      have h : fltW E R p.1.op _ := h
      obtain ⟨z, h1, hst, h2⟩ := fltW_sound hs h
      obtain ⟨its, S', h3, h4, h5⟩ := ih (K := fun l S' => K ((p, some (S.next, z)) :: l) S') hs (h2 _ _ rfl rfl)
      refine ⟨_, _, ?_, okc h4 (fun b z' hq hb A' => by cases hq; exact hst hb A'), h5⟩
      simp only [preD, h1, h3, Option.map_some]
    | pre =>
      have h : needB (readB E p.1.op) (denOp E R S p.1.op p.1.type _) := h
      obtain ⟨hb, h⟩ := needB_iff.1 h
      obtain ⟨n, v, S1, h1, h2⟩ := denOp_sound hs h
      rw [Option.bind_eq_some_iff] at h1
      obtain ⟨r, h4, h5⟩ := h1
      obtain ⟨u, rfl⟩ := opD_k h4 (readB_ok hb)
      simp only [coreC, Option.some.injEq, Prod.mk.injEq] at h5
      obtain ⟨rfl, rfl⟩ := h5
      obtain ⟨R2, A2, h6, hs2, h7⟩ := putR_sound hs h2
      obtain ⟨its, S', h8, h9, h10⟩ := ih (K := fun l S' => K ((p, none) :: l) S') hs2 h7
      refine ⟨_, _, ?_, okc h9 (fun b z h => by cases h), h10⟩
      simp only [preD, h4, h6, h8, Option.map_some]
def GoW (E : Env) (ops : Array Oper) (l : List It) (T : List Rec) (A : Ac) (S : St) (K : Ac → St → Prop) : Prop := ∃ n A' S' R', goD E (exec E drawD n) ops l T A S = some (A', S') ∧ Sub R' A' ∧ K R' S'
theorem denGo_sound {ops : Array Oper} : ∀ {l : List It} {T T' : List Rec} {R A : Ac} {S : St} {K : Ac → St → Prop}, OkIts E l → RSub T T' → Sub R A → denGo E ops l T R S K → GoW E ops l T' A S K := by
  intro l
  induction l with
  | nil => intro T T' R A S K _ hT hs h; exact ⟨0, A, S, R, rfl, hs, h⟩
  | cons o l ih =>
    intro T T' R A S K hit hT hs h
    have hit' : OkIts E l := fun p hp => hit p (List.mem_cons_of_mem _ hp)
    have hit0 := hit o (List.mem_cons_self)
    unfold denGo at h
    obtain ⟨R1, hs1, h⟩ := guardW_sound hs h
    obtain ⟨o, f⟩ := o
    cases f with
    | some q =>
      obtain ⟨b, z⟩ := q
      have h : selW (wantedD ops A o.1) _ False := h
      cases hw : wantedD ops A o.1 with
      | false => rw [hw, selW_false] at h; exact h.elim
      | true =>
        rw [hw, selW_true] at h
        obtain ⟨v, k1, k2, h⟩ := fltG_sound hs1 (fun hb => hit0 b z rfl hb A) h
        obtain ⟨R2, A2, h2, hs2, h⟩ := putR_sound hs1 h
        obtain ⟨n', A', S', R', h3, hs', hk⟩ := ih hit' (hT.add hs1) hs2 h
        refine ⟨n', A', S', R', ?_, hs', hk⟩
        simp only [goD, coreM, sameO_iff.2 k1, cond_true, k2, Option.map_some, h2, recD, hw]
        exact h3
    | none =>
      have h : selW (wantedD ops A o.1) _ _ := h
      cases hw : wantedD ops A o.1 with
      | true =>
        rw [hw, selW_true] at h
        obtain ⟨n, v, S1, h1, h⟩ := denOp_sound hs1 h
        obtain ⟨hc, h⟩ := chkW_sound hT hs1 h
        obtain ⟨R2, A2, h2, hs2, h⟩ := putR_sound hs1 h
        obtain ⟨n', A', S', R', h3, hs', hk⟩ := ih hit' (hT.add hs1) hs2 h
        refine ⟨max n n', A', S', R', ?_, hs', hk⟩
        have hcore : coreM E (exec E drawD n) ops T' (o, none) A S = some (v, S1) := by
          unfold coreM
          simp only [hw, cond_true, h1, Option.bind_some, hc]
        simp only [goD]
        rw [coreM_le (exec_le E (Nat.le_max_left n n')) hcore]
        simp only [h2, recD, hw, cond_true]
        exact goD_le (exec_le E (Nat.le_max_right n n')) h3
      | false =>
        rw [hw, selW_false] at h
        obtain ⟨R2, A2, h2, hs2, h⟩ := putR_sound hs1 h
        obtain ⟨n', A', S', R', h3, hs', hk⟩ := ih hit' (hT.add hs1) hs2 h
        refine ⟨n', A', S', R', ?_, hs', hk⟩
        simp only [goD, coreM, hw, cond_false, h2, recD]
        exact h3

/-! ### Where ways meet -/
theorem memN_iff {t : Nat} : ∀ {l : List Nat}, memN t l = true ↔ t ∈ l := by
  intro l
  induction l with
  | nil => simp [memN]
  | cons u l ih =>
    simp only [memN, List.mem_cons]
    cases h : Nat.beq t u with
    | true => simp [Nat.eq_of_beq_eq_true h]
    | false =>
      have : t ≠ u := fun e => by subst e; rw [Nat.beq_refl] at h; cases h
      simp [this, ih]
theorem layL_get : ∀ {l : List (Tmp × Value)} {p : PM Value} {t : Nat} {v : Value}, (layL l p).get t = some v → (t, v) ∈ l ∨ p.get t = some v := by
  intro l
  induction l with
  | nil => intro p t v h; exact .inr h
  | cons q l ih =>
    intro p t v h
    simp only [layL, PM.get_set] at h
    split at h
    · rename_i e; cases h; subst e; exact .inl (by simp)
    · rcases ih h with h | h
      · exact .inl (List.mem_cons_of_mem _ h)
      · exact .inr h
theorem conL_mem {R : Ac} : ∀ {l : List Tmp} {t : Tmp} {v : Value}, (t, v) ∈ conL R l → t ∈ l ∧ R.regs.get t = some v := by
  intro l
  induction l with
  | nil => intro t v h; simp [conL] at h
  | cons u l ih =>
    intro t v h
    simp only [conL] at h
    split at h
    · rename_i w hw
      rcases List.mem_cons.1 h with e | h
      · cases e; exact ⟨by simp, hw⟩
      · exact ⟨List.mem_cons_of_mem _ (ih h).1, (ih h).2⟩
    · exact ⟨List.mem_cons_of_mem _ (ih h).1, (ih h).2⟩
theorem getL_zip {R : Ac} : ∀ {l : List (Tmp × Ty)} {vs : List Value}, getL R l = some vs → ∀ t v, (t, v) ∈ zipL l vs → R.regs.get t = some v := by
  intro l
  induction l with
  | nil => intro vs h t v hm; cases h; simp [zipL] at hm
  | cons p l ih =>
    intro vs h t v hm
    simp only [getL, Option.bind_eq_some_iff, Option.map_eq_some_iff] at h
    obtain ⟨w, h1, ws, h2, h3⟩ := h
    subst h3
    simp only [zipL, List.mem_cons] at hm
    rcases hm with e | hm
    · cases e; exact h1
    · exact ih h2 t v hm
/-- What stays, stays: the temporaries at the meeting. -/
theorem mkJ_sub {j : Jn} {R0 A0 R A : Ac} {c : Code} (h0 : Sub R0 A0) (hs : Sub R A) (hsame : Same (hasRF c) (asg c) A0 A) (hok : okJ j c = true) {K : JT j.dfr j.tys → Prop} (h : leafJ j R K) :
    ∃ x, K x ∧ Sub (mkJ j R0 x) A := by
  unfold leafJ at h
  obtain ⟨vs, h1, h⟩ := wO_iff.1 h
  obtain ⟨x, h2, h⟩ := wO_iff.1 h
  have hvs := decs_some (enc := Ty.enc) (fun _ _ _ h => Ty.dec_some h) h2
  simp only [okJ, Bool.and_eq_true, List.all_eq_true, Bool.not_eq_true', Bool.or_eq_true] at hok
  have key : ∀ y : JT j.dfr j.tys, jdat j.dfr y = x → jdfr j.dfr y R0.defers = A.defers → Sub (mkJ j R0 y) A := by
    intro y hy hd
    refine ⟨h0.n.trans hsame.n.symm, h0.rd.trans hsame.rd.symm, hd, fun t v ht => ?_⟩
    simp only [mkJ, hy, ← hvs] at ht
    rcases layL_get ht with hm | ht
    · exact hs.get _ _ (getL_zip h1 t v hm)
    · rcases layL_get ht with hm | ht
      · obtain ⟨h3, h4⟩ := conL_mem hm
        have := hok.1 t h3
        rw [hsame.get t fun hh => by rw [memN_iff.2 hh] at this; cases this]
        exact h0.get _ _ h4
      · cases ht
  obtain ⟨con, var, dfr⟩ := j
  cases dfr with
  | true => exact ⟨(R.defers, x), h, key _ rfl hs.dfr⟩
  | false =>
    refine ⟨x, h, key _ rfl ?_⟩
    have : hasRF c = false := by simpa using hok.2
    exact h0.dfr.trans (hsame.dfr this).symm

theorem exec_succ {n : Nat} {c : Code} {A : Ac} {S : St} : exec E drawD (n + 1) c A S = stepD E drawD n (exec E drawD n) c A S := rfl

theorem opsD_append {r : Runner} {ops : Array Oper} : ∀ {l l' : List Oper} {A A1 : Ac} {S S1 : St}, opsD E r ops l A S = some (A1, S1) → opsD E r ops (l ++ l') A S = opsD E r ops l' A1 S1 := by
  intro l
  induction l with
  | nil => intro l' A A1 S S1 h; cases h; rfl
  | cons o l ih =>
    intro l' A A1 S S1 h
    simp only [List.cons_append, opsD] at h ⊢
    cases ho : oneD E r ops o A S with
    | none => rw [ho] at h; cases h
    | some q => rw [ho] at h; exact ih h
theorem denOpsJ_sound {ops : Array Oper} : ∀ {js : List (Nat × Jn)} {l : List Oper} {R A : Ac} {S : St} {K : Ac → St → Prop}, Sub R A → denOpsJ E ops js l R S K → OpsW E ops l A S K := by
  intro js
  induction js with
  | nil => intro l R A S K hs h; exact denOps_sound hs h
  | cons p js ih =>
    intro l R A S K hs h
    unfold denOpsJ at h
    obtain ⟨hok, h⟩ := needB_iff.1 h
    rw [conK_eq] at h
    obtain ⟨n, A1, S1, R1, h1, hs1, h2⟩ := denOps_sound hs (h _ fun _ _ h => h)
    have hsame : Same (hasRF (.region 0 (l.take p.1).toArray false)) (asg (.region 0 (l.take p.1).toArray false)) A A1 :=
      (opsD_same (ts := asg (.region 0 (l.take p.1).toArray false)) (fun o ho t ht => mem_dstsO (ops := (l.take p.1).toArray) (by simpa using ho) ht) h1)
    obtain ⟨x, h3, h4⟩ := mkJ_sub hs hs1 hsame hok h2
    obtain ⟨n', A', S', R', h5, hs', hk⟩ := ih h4 h3
    refine ⟨max n n', A', S', R', ?_, hs', hk⟩
    have := opsD_append (l' := l.drop p.1) (E := E) (r := exec E drawD (max n n')) (ops := ops) (opsD_le (exec_le E (Nat.le_max_left n n')) h1)
    rw [← List.take_append_drop p.1 l, this]
    exact opsD_le (exec_le E (Nat.le_max_right n n')) h5

/-! ### Code -/
def CodeW (E : Env) (c : Code) (A : Ac) (S : St) (K : Exit → Ac → St → Prop) : Prop := ∃ n e A' S' R', exec E drawD n c A S = some (e, A', S') ∧ Sub R' A' ∧ K e R' S'
theorem CodeW.mono {c : Code} {A : Ac} {S : St} {K K' : Exit → Ac → St → Prop} (h : CodeW E c A S K) (k : ∀ e R' S', K e R' S' → K' e R' S') : CodeW E c A S K' := by
  obtain ⟨n, e, A', S', R', h1, h2, h3⟩ := h; exact ⟨n, e, A', S', R', h1, h2, k _ _ _ h3⟩
theorem CodeW.seq {a b : Code} {A : Ac} {S : St} {K K1 : Exit → Ac → St → Prop} (h : CodeW E a A S K1) (hn : ∀ R' A' S', Sub R' A' → Same (hasRF a) (asg a) A A' → K1 .normal R' S' → CodeW E b A' S' K)
    (ho : ∀ e R' S', (∀ h : e = .normal, False) → K1 e R' S' → K e R' S') : CodeW E (.seq a b) A S K := by
  obtain ⟨n, e, A', S', R', h1, h2, h3⟩ := h
  by_cases he : e = .normal
  · subst he
    obtain ⟨n', e', A'', S'', R'', h4, h5, h6⟩ := hn _ _ _ h2 (exec_same E _ _ _ _ _ _ _ h1) h3
    refine ⟨max n n' + 1, e', A'', S'', R'', ?_, h5, h6⟩
    rw [exec_succ]
    simp only [stepD]
    rw [exec_le E (Nat.le_max_left n n') _ _ _ _ h1]
    exact exec_le E (Nat.le_max_right n n') _ _ _ _ h4
  · refine ⟨n + 1, e, A', S', R', ?_, h2, ho _ _ _ he h3⟩
    rw [exec_succ]
    simp only [stepD]
    rw [h1]
    cases e <;> first | exact (he rfl).elim | rfl
theorem seqK_normal {X Y : Prop} : seqK .normal X Y = Y := rfl
theorem seqK_ne {e : Exit} (h : e ≠ .normal) {X Y : Prop} : seqK e X Y = X := by cases e <;> first | exact (h rfl).elim | rfl

/-- A loop: as long as its rounds come back to P. -/
theorem loop_sound {c : Code} {σ : Type} {I : σ → Ac → Prop} {K : Exit → Ac → St → Prop} {body : (σ → St → Prop) → σ → St → Prop}
    (hb : ∀ P x A S, I x A → body P x S → CodeW E c A S fun e R' S' => seqK e (K e R' S') (∀ A', Sub R' A' → Same (hasRF c) (asg c) A A' → ∃ x', P x' S' ∧ I x' A'))
    {x : σ} {A : Ac} {S : St} (hs : I x A) (h : loopW body x S) : CodeW E (.loop c) A S K := by
  have key := h (fun x S => ∀ A, I x A → ∃ n k e A' S' R', loopD (exec E drawD n) c k A S = some (e, A', S') ∧ Sub R' A' ∧ K e R' S') ?_ A hs
  · obtain ⟨n, k, e, A', S', R', h1, h2, h3⟩ := key
    refine ⟨max n k + 1, e, A', S', R', ?_, h2, h3⟩
    rw [exec_succ]
    simp only [stepD]
    exact loopD_le (exec_le E (Nat.le_max_left n k)) (Nat.le_max_right n k) h1
  · intro x S hx A hA
    obtain ⟨n, e, A', S', R', h1, h2, h3⟩ := hb _ x A S hA hx
    by_cases he : e = .normal
    · subst he
      obtain ⟨x', h4, h5⟩ := h3 A' h2 (exec_same E _ _ _ _ _ _ _ h1)
      obtain ⟨n', k, e, A'', S'', R'', h6, h7, h8⟩ := h4 A' h5
      refine ⟨max n n', k + 1, e, A'', S'', R'', ?_, h7, h8⟩
      simp only [loopD]
      rw [exec_le E (Nat.le_max_left n n') _ _ _ _ h1]
      exact loopD_le (exec_le E (Nat.le_max_right n n')) (Nat.le_refl k) h6
    · rw [seqK_ne he] at h3
      refine ⟨n, 1, e, A', S', R', ?_, h2, h3⟩
      simp only [loopD]
      rw [h1]
      split
      · rename_i h9; cases h9; exact (he rfl).elim
      · rfl

theorem putAll_sub : ∀ {ps : List Tmp} {vs : List Value} {A : Ac}, vs.length = ps.length → (∀ p ∈ ps, Nat.blt p A.n = true) →
    ∃ A', putAll ps vs A = some A' ∧ A' = { A with regs := layF (zipL (ps.map fun p => (p, Ty.sc .any)) vs) A.regs } := by
  intro ps
  induction ps with
  | nil => intro vs A h _; cases vs with
    | nil => exact ⟨A, rfl, rfl⟩
    | cons v vs => simp at h
  | cons p ps ih =>
    intro vs A h hp
    cases vs with
    | nil => simp at h
    | cons v vs =>
      have e : A.put (some p) v = some { A with regs := A.regs.set p v } := by simp only [Ac.put]; rw [hp p (by simp)]; rfl
      obtain ⟨A', h1, h2⟩ := ih (vs := vs) (A := { A with regs := A.regs.set p v }) (by simpa using h) (fun q hq => hp q (by simp [hq]))
      exact ⟨A', by simp only [putAll, e, Option.bind_some, h1], h2⟩
theorem layF_sub : ∀ {l : List (Tmp × Value)} {p q : PM Value}, (∀ t v, p.get t = some v → q.get t = some v) → ∀ t v, (layF l p).get t = some v → (layF l q).get t = some v := by
  intro l
  induction l with
  | nil => intro p q h; exact h
  | cons x l ih =>
    intro p q h
    refine ih (fun t v ht => ?_)
    simp only [PM.get_set] at ht ⊢
    split at ht
    · rename_i e; rw [if_pos e]; exact ht
    · rename_i e; rw [if_neg e]; exact h t v ht
theorem encs1_len {ι : Type} {T : ι → Type} {enc : ∀ i, T i → Value} : ∀ (l : List ι) (s : ι) (x : Tup1 T s l), (encs1 enc s l x).length = l.length + 1 := by
  intro l
  induction l with
  | nil => intro s x; rfl
  | cons t r ih => intro s x; simp [encs1, ih]
theorem encs_len {ι : Type} {T : ι → Type} {enc : ∀ i, T i → Value} (l : List ι) (x : Tup T l) : (encs enc l x).length = l.length := by
  cases l with
  | nil => rfl
  | cons s r => exact encs1_len r s x

/-- A round of a loop over a function. -/
theorem round_sound {l : Nat} {regs : PM Value} {N dfr : Nat} {ps : Array Tmp} {a b : Code} {vs : List Value} {S : St} {k : Bool → St → Prop} {R : Ac}
    (hS : S.heap.get l = some (.loop { state := .ready, pending := none, regs, n := N, params := ps, assign := a, body := b, dfr }))
    (hl : vs.length = ps.size) (hp : ∀ p ∈ ps.toList, Nat.blt p N = true) (hN : R.n = N) (hR : ∀ t v, R.regs.get t = some v → regs.get t = some v)
    (ha : ∀ A, Sub (parR l R ps.toList vs) A → CodeW E a A S fun e R1 S1 => seqK e False
      (S1.heap.get l = some (.loop { state := .ready, pending := none, regs, n := N, params := ps, assign := a, body := b, dfr }) ∧
        ∀ A1, Sub R1 A1 → CodeW E b A1 (S1.upd l (.loop { state := .busy, pending := none, regs, n := N, params := ps, assign := a, body := b, dfr })) fun e _ S3 =>
          endRoundW l (fun st pd => .loop { state := st, pending := pd, regs, n := N, params := ps, assign := a, body := b, dfr }) e S3 k)) :
    WV E (.func (.yield l) #[] #[]) vs S fun v S' => ∃ b, v = .bool b ∧ k b S' := by
  obtain ⟨A, hA, hA'⟩ := putAll_sub (ps := ps.toList) (vs := vs) (A := { regs := regs, n := N, defers := [], rd := some l }) (by simpa using hl) hp
  have hsub : Sub (parR l R ps.toList vs) A := by
    subst hA'
    exact ⟨hN, rfl, rfl, layF_sub hR⟩
  obtain ⟨n, e, A1, S1, R1, h1, h2, h3⟩ := ha A hsub
  have he : e = .normal := by cases e <;> first | rfl | exact h3.elim
  subst he
  obtain ⟨h4, h5⟩ := h3
  obtain ⟨n', e, A2, S3, R2, h6, h7, h8⟩ := h5 A1 h2
  obtain ⟨h9, h10⟩ := h8
  have key : ∀ (q : Value × St), endRoundD l e S3 = some q → WV E (.func (.yield l) #[] #[]) vs S fun v S' => (v, S') = q := by
    intro q hq
    refine ⟨max n n', q.1, q.2, ?_, rfl⟩
    show roundF (exec E drawD (max n n')) l vs S = some q
    simp only [roundF, hS, hA, Option.bind_some]
    rw [exec_le E (Nat.le_max_left n n') _ _ _ _ h1]
    simp only [roundBody, h4, isReady, cond_true]
    rw [exec_le E (Nat.le_max_right n n') _ _ _ _ h6]
    exact hq
  cases e with
  | normal =>
    refine (key (.bool true, S3.upd l (.loop { state := .ready, pending := none, regs, n := N, params := ps, assign := a, body := b, dfr })) (by simp only [endRoundD, h9])).mono ?_
    rintro v S' e; cases e; exact ⟨true, rfl, h10 _ rfl⟩
  | ret =>
    refine (key (.bool false, S3.upd l (.loop { state := .done, pending := some .ret, regs, n := N, params := ps, assign := a, body := b, dfr })) (by simp only [endRoundD, h9])).mono ?_
    rintro v S' e; cases e; exact ⟨false, rfl, h10 _ rfl⟩
  | exit id =>
    refine (key (.bool false, S3.upd l (.loop { state := .done, pending := some (.exit id), regs, n := N, params := ps, assign := a, body := b, dfr })) (by simp only [endRoundD, h9])).mono ?_
    rintro v S' e; cases e; exact ⟨false, rfl, h10 _ rfl⟩
  | _ => exact h10.elim

theorem endLoop_sound {l : Nat} {L : LoopState → Option Code → DObj} {regs : PM Value} {N dfr : Nat} {ps : Array Tmp} {a b : Code} {S : St} {r : Bool} {ids : List Nat} {K : Exit → St → Prop} (A : Ac)
    (hL : L = fun st pd => .loop { state := st, pending := pd, regs, n := N, params := ps, assign := a, body := b, dfr }) (h : endLoopW l L S r ids K) : ∃ e S', endLoopD l A S = some (e, A, S') ∧ K e S' := by
  subst hL
  have hx : ∀ ids, endX l (fun st pd => .loop { state := st, pending := pd, regs, n := N, params := ps, assign := a, body := b, dfr }) S K ids → ∃ e S', endLoopD l A S = some (e, A, S') ∧ K e S' := by
    intro ids
    induction ids with
    | nil => intro h; exact h.elim
    | cons id ids ih =>
      rintro (⟨h1, h2⟩ | h)
      · exact ⟨_, _, by simp only [endLoopD, h1, isBusy, cond_false], h2 _ rfl⟩
      · exact ih h
  rcases h with ⟨h1, h2⟩ | h
  · exact ⟨_, _, by simp only [endLoopD, h1, isBusy, cond_false], h2 _ rfl⟩
  · cases r with
    | false => exact hx _ h
    | true =>
      rcases h with ⟨h1, h2⟩ | h
      · exact ⟨_, _, by simp only [endLoopD, h1, isBusy, cond_false], h2 _ rfl⟩
      · exact hx _ h

theorem denC_sound : ∀ (c : Code) {h : Hn} {R A : Ac} {S : St} {K : Exit → Ac → St → Prop}, Sub R A → denC E c h R S K → CodeW E c A S K := by
  intro c
  induction c with
  | skip => intro h R A S K hs hd; exact ⟨1, .normal, A, S, R, rfl, hs, hd⟩
  | label l => intro h R A S K hs hd; exact ⟨1, .normal, A, S, R, rfl, hs, hd⟩
  | region id ops d =>
    intro h R A S K hs hd
    unfold denC at hd
    cases d with
    | false =>
      obtain ⟨n, A', S', R', h1, h2, h3⟩ := denOpsJ_sound hs hd
      refine ⟨n + 1, .normal, A', S', R', ?_, h2, h3⟩
      rw [exec_succ]
      simp only [stepD, h1, Option.map_some]
    | true =>
      obtain ⟨l, h0, hd⟩ := wO_iff.1 hd
      obtain ⟨its, SP, hpre, hok, hd⟩ := preW_sound hs hd
      obtain ⟨n, A', S', R', h1, h2, h3⟩ := denGo_sound hok RSub.nil hs hd
      refine ⟨n + 1, .normal, A', S', R', ?_, h2, h3⟩
      rw [exec_succ]
      simp only [stepD, drawD, h0, hpre, Option.bind_some, h1, Option.map_some]
  | seq a b iha ihb =>
    intro h R A S K hs hd
    unfold denC at hd
    split at hd
    · refine CodeW.seq (iha hs hd) (fun R' A' S' h1 _ h2 => ihb h1 h2) (fun e R' S' he h2 => ?_)
      rw [seqK_ne he] at h2; exact h2
    · rename_i j hj
      obtain ⟨hok, hd⟩ := needB_iff.1 hd
      refine CodeW.seq (iha hs (hd _ fun _ _ h => h)) (fun R' A' S' h1 hsame h2 => ?_) (fun e R' S' he h2 => ?_)
      · rw [seqK_normal] at h2
        obtain ⟨x, h3, h4⟩ := mkJ_sub hs h1 hsame hok h2
        exact ihb h4 h3
      · rw [seqK_ne he] at h2; exact h2
  | cond x a b iha ihb =>
    intro h R A S K hs hd
    have key : ∀ (t : Bool), A.eval E x = some (.bool t) → CodeW E (cond t a b) A S K → CodeW E (.cond x a b) A S K := by
      intro t ht hc
      obtain ⟨n, e, A', S', R', h1, h2, h3⟩ := hc
      refine ⟨n + 1, e, A', S', R', ?_, h2, h3⟩
      rw [exec_succ]
      simp only [stepD, ht, Option.bind_some, condD, h1]
    unfold denC at hd
    split at hd
    · rename_i t
      obtain ⟨v, h1, hd⟩ := wO_iff.1 hd
      obtain ⟨t', rfl, hh⟩ := boolW_iff.1 hd
      · rw [splitW_iff] at hh
        have hd := hh
        have ha := hs.get _ _ h1
        refine key t' (ev_sub hs h1) ?_
        cases t' with
        | true => exact iha (hs.say ha) hd
        | false => exact ihb (hs.say ha) hd
    · obtain ⟨v, h1, hd⟩ := wO_iff.1 hd
      obtain ⟨t', rfl, hh⟩ := boolW_iff.1 hd
      · rw [splitW_iff] at hh
        have hd := hh
        refine key t' (ev_sub hs h1) ?_
        cases t' with
        | true => exact iha hs hd
        | false => exact ihb hs hd
  | block id body ih =>
    intro h R A S K hs hd
    unfold denC at hd
    obtain ⟨n, e, A', S', R', h1, h2, h3⟩ := ih hs hd
    refine ⟨n + 1, blockE id e, A', S', R', ?_, h2, h3⟩
    rw [exec_succ]
    simp only [stepD, h1]
    cases e <;> rfl
  | loop body ih =>
    intro h R A S K hs hd
    unfold denC at hd
    split at hd
    · exact hd.elim
    · rename_i j hj
      obtain ⟨hok, hd⟩ := needB_iff.1 hd
      obtain ⟨x, h1, h2⟩ := mkJ_sub hs hs (Same.refl _ _ _) hok hd
      refine loop_sound (I := fun x A1 => Sub (mkJ j R x) A1 ∧ Same (hasRF body) (asg body) A A1) (fun P x A1 S1 hs1 hb => ?_) ⟨h2, .refl _ _ _⟩ h1
      refine (ih hs1.1 hb).mono fun e R' S' hk => ?_
      by_cases he : e = .normal
      · subst he
        rw [seqK_normal] at hk ⊢
        intro A' hA' hsame
        obtain ⟨y, h3, h4⟩ := mkJ_sub hs hA' (hs1.2.trans hsame) hok hk
        exact ⟨y, h3, h4, hs1.2.trans hsame⟩
      · rw [seqK_ne he] at hk ⊢; exact hk
  | rangeFunc f ps a b iha ihb =>
    intro h R A S K hs hd
    unfold denC at hd
    split at hd
    · exact hd.elim
    · rename_i j hj
      obtain ⟨g, hg, hd⟩ := wO_iff.1 hd
      have hg' := ev_sub hs hg
      -- the loop over g, in a state in which its record is to be laid
      have key : ∀ {S1 : St} {dfr : Nat} {K' : Nat → Exit → St → Prop} (A1 : Ac), rangeW E g S1 j.tys (fun l L x S k => hasW S l (L .ready none) (needB (Nat.beq j.var.length ps.size && ps.toList.all fun p => Nat.blt p R.n)
          (denC E a h.a (parR l R ps.toList (encs Ty.enc j.tys x)) S fun e R1 S1 => seqK e False (hasW S1 l (L .ready none) (updW S1 l (L .busy none) fun S2 =>
            denC E b h.b R1 S2 fun e _ S3 => endRoundW l L e S3 k))))) (retC b) (exitsC b) K' →
          ∃ n e S', rangeGo E (exec E drawD n) g S1.next A1 (S1.alloc (.loop { state := .ready, pending := none, regs := A.regs, n := A.n, params := ps, assign := a, body := b, dfr })).2 = some (e, A1, S') ∧ K' S1.next e S' := by
        intro S1 dfr K' A1 hr
        have hr := hr S1.next _ (fun st pd => .loop { state := st, pending := pd, regs := A.regs, n := A.n, params := ps, assign := a, body := b, dfr }) rfl rfl (fun st pd => ⟨_, rfl⟩) ?_
        · obtain ⟨f, first, cap, rfl, hp, n, v, S3, h1, h2⟩ := hr
          obtain ⟨e, S', h3, h4⟩ := endLoop_sound A1 rfl h2
          refine ⟨n, e, S', ?_, h4⟩
          unfold rangeGo
          simp only [hp]
          rw [h1]
          exact h3
        · intro x S2 k hB
          obtain ⟨hS, hB⟩ := hB
          obtain ⟨hneed, hB⟩ := needB_iff.1 hB
          rw [Bool.and_eq_true, List.all_eq_true] at hneed
          refine round_sound (R := R) hS ?_ (fun p hp => by rw [← hs.n]; exact hneed.2 p hp) hs.n hs.get (fun A2 hA2 => ?_)
          · rw [encs_len]
            have := Nat.eq_of_beq_eq_true hneed.1
            simpa [Jn.tys] using this
          · refine (iha hA2 hB).mono fun e R1 S1 hk => ?_
            by_cases he : e = .normal
            · subst he
              rw [seqK_normal] at hk ⊢
              refine ⟨hk.1, fun A3 hA3 => ?_⟩
              exact (ihb hA3 (hk.2 _ rfl)).mono fun e R' S' h => h
            · rw [seqK_ne he] at hk; exact hk.elim
      unfold rangeK at hd
      split at hd
      · rename_i hrd
        have hd := hd _ _ rfl rfl
        obtain ⟨n, e, S', h1, h2⟩ := key (dfr := S.next) { A with defers := S.next :: A.defers } hd
        have hrd' := hs.rd.symm.trans hrd
        refine ⟨n + 1, e, { A with defers := S.next :: A.defers }, S', { R with defers := S.next :: R.defers }, ?_, ⟨hs.n, hs.rd, ?_, hs.get⟩, h2⟩
        · rw [exec_succ]
          simp only [hrd'] at h1
          simp only [stepD, rangeF, hg', Option.bind_some, hrd']
          exact h1
        · show S.next :: R.defers = S.next :: A.defers
          rw [hs.dfr]
      · rename_i l hrd
        obtain ⟨⟨r, hr⟩, hd⟩ := hd
        obtain ⟨n, e, S', h1, h2⟩ := key (dfr := r.dfr) A hd
        refine ⟨n + 1, e, A, S', R, ?_, hs, h2⟩
        rw [exec_succ]
        simp only [stepD, rangeF, hg', Option.bind_some, ← hs.rd, hrd, hr]
        exact h1
  | exit id => intro h R A S K hs hd; exact ⟨1, .exit id, A, S, R, rfl, hs, hd⟩
  | scope body ih =>
    intro h R A S K hs hd
    unfold denC at hd
    obtain ⟨n, e, A', S', R', h1, h2, h3⟩ := ih hs hd
    refine ⟨n + 1, e, A', S', R', ?_, h2, ?_⟩
    · rw [exec_succ]
      simp only [stepD, h1]
      cases e <;> first | exact h3.elim | rfl
    · cases e <;> first | exact h3.elim | exact h3
  | ret => intro h R A S K hs hd; exact ⟨1, .ret, A, S, R, rfl, hs, hd⟩
  | goto l => intro h R A S K hs hd; exact hd.elim
  | refuse w => intro h R A S K hs hd; exact hd.elim

/-! ### Functions -/
theorem shutW_sound : ∀ {l : List Nat} {S : St} {K : St → Prop}, shutW l S K → ∃ S', shutD l S = some S' ∧ K S' := by
  intro l
  induction l with
  | nil => intro S K h; exact ⟨S, rfl, h⟩
  | cons d l ih =>
    intro S K h
    obtain ⟨h1, h2⟩ := h
    obtain ⟨S', h3, h4⟩ := ih (h2 _ rfl)
    exact ⟨S', by simp only [shutD, h1]; exact h3, h4⟩
theorem resW_sound {R A : Ac} {S : St} (hs : Sub R A) : ∀ {l : List ResultVar} {K : List Value → Prop}, resW E R S l K → ∃ vs, resultsD E S A l = some vs ∧ K vs := by
  intro l
  induction l with
  | nil => intro K h; exact ⟨[], rfl, h⟩
  | cons r l ih =>
    intro K h
    cases r with
    | tmp t =>
      obtain ⟨v, h1, h⟩ := wO_iff.1 h
      obtain ⟨vs, h2, h3⟩ := ih h
      refine ⟨v :: vs, ?_, h3⟩
      have : A.get t = v := by unfold Ac.get; rw [hs.get _ _ h1]; rfl
      simp only [resultsD, resultD, this, Option.bind_some, h2, Option.map_some]
    | cell a t =>
      obtain ⟨p, h1, h⟩ := wO_iff.1 h
      obtain ⟨ty, _, x, h4, h⟩ := wO_iff.1 h
      obtain ⟨vs, h2, h3⟩ := ih h
      refine ⟨ty.enc x :: vs, ?_, h3⟩
      have : A.get a = p := by unfold Ac.get; rw [hs.get _ _ h1]; rfl
      simp only [resultsD, resultD, this, h4, Option.bind_some, h2, Option.map_some]
/-- A call, by its code. -/
theorem WC_den {f : Nat} {fn : Func} {c : Code} {args : List Value} {S : St} {K : Value → St → Prop} (h : Hn) (hp : E.prim f = none) (hf : E.fn f = some fn) (hc : fn.body = some c)
    (hd : denF E h fn c args S K) : WC E f args S K := by
  obtain ⟨n, e, A', S', R', h1, h2, h3⟩ := denC_sound c (R := { regs := PM.ofList args 0 .leaf, n := args.length + (fn.ntmps - args.length), defers := [], rd := none }) (A := { regs := PM.ofList args 0 .leaf, n := args.length + (fn.ntmps - args.length), defers := [], rd := none }) ⟨rfl, rfl, rfl, fun _ _ h => h⟩ hd
  have key : ∀ X, retK e X → (e = .normal ∨ e = .ret) ∧ X := by
    intro X hX
    cases e <;> first | exact ⟨.inl rfl, hX⟩ | exact ⟨.inr rfl, hX⟩ | exact hX.elim
  obtain ⟨he, h4⟩ := key _ h3
  obtain ⟨S2, h5, h6⟩ := shutW_sound h4
  obtain ⟨vs, h7, h8⟩ := resW_sound h2 h6
  refine ⟨n, tupleD vs, S2, ?_, h8⟩
  unfold callF
  simp only [hp, hf, hc, bodyF]
  rw [h1]
  have hl : leaveD E fn A' S' = some (tupleD vs, S2) := by
    unfold leaveD
    rw [← h2.dfr, h5]
    simp only [Option.bind_some, h7, Option.map_some]
  rcases he with rfl | rfl <;> exact hl

end
end Go.Proofs.Ytcdignblakejoaa.D
