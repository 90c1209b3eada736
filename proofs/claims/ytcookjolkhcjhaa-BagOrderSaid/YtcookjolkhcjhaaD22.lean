/-
  D, part 22: the facts on a program's types, drawn from the program; what a run of D says of a law.
-/
import Derived.Test.YtcookjolkhcjhaaD21
import Derived.ProofKit
namespace Go.Proofs.Ytcookjolkhcjhaa.D
noncomputable section
open Go.RowKit
set_option linter.unusedSectionVars false

/-! ### The environment -/
def zeroD : Option Value → Option Value
  | some z => cond (plainB z) (some z) none
  | none => none
def noBlankD : TypeDesc → Bool
  | .struct fs => fs.toList.all fun f => f.name != "_"
  | _ => true
def infoOf (P : Program) (t : Nat) : Option DInfo :=
  match P.info? t with
  | some i =>
    match P.underlying t with
    | some u => some { und := u, size := i.size, bytes := i.bytes, zero := zeroD i.zero, comparable := i.comparable, eqg := P.eqGuardType P.depth t, noBlank := !P.stoodInHeld t && noBlankD u }
    | none => none
  | none => none

theorem infoOf_ok {P : Program} {t : Nat} {d : DInfo} (h : infoOf P t = some d) : InfOk P t d := by
  unfold infoOf at h
  split at h
  · rename_i i hi
    split at h
    · rename_i u hu
      cases h
      refine ⟨⟨i, hi, hu, rfl, rfl, ?_, rfl⟩, rfl, ?_⟩
      · intro z hz
        unfold zeroD at hz
        split at hz
        · rename_i z' hz'
          obtain ⟨h1, h2⟩ := cond_some hz
          cases h2; exact ⟨hz', plainB_sound h1⟩
        · cases hz
      · intro hb
        simp only [Bool.and_eq_true, Bool.not_eq_true'] at hb
        refine ⟨hb.1, ?_⟩
        rintro fs rfl f hf
        have := hb.2
        simp only [noBlankD, List.all_eq_true] at this
        have := this f hf
        simpa using this
    · cases h
  · cases h

/-- A row of named places, laid as a map. -/
def layD {α : Type} : List (Nat × α) → PM α
  | [] => .leaf
  | p :: r => (layD r).set p.1 p.2
theorem layD_mem {α : Type} : ∀ {l : List (Nat × α)} {k : Nat} {v : α}, (layD l).get k = some v → (k, v) ∈ l := by
  intro l
  induction l with
  | nil => intro k v h; simp [layD] at h
  | cons p l ih =>
    intro k v h
    simp only [layD, PM.get_set] at h
    split at h
    · rename_i hk; cases h; subst hk; simp
    · exact List.mem_cons_of_mem _ (ih h)

theorem envOk {P : Program} {E : Env} {ts : List (Nat × DInfo)} {fs : List (Nat × Func)} (h1 : ∀ t, E.inf t = (layD ts).get t) (h2 : ∀ f, E.fn f = (layD fs).get f)
    (h3 : ts.map (fun p => infoOf P p.1) = ts.map fun p => some p.2) (h4 : ∀ p ∈ fs, P.funcs[p.1]? = some p.2) (h5 : fs.all (fun p => !(p.2.name == "runtime.NumGoroutine")) = true) : E.Ok P := by
  refine ⟨?_, ?_⟩
  · intro t d h
    rw [h1] at h
    have hm := layD_mem h
    have key : ∀ (l : List (Nat × DInfo)), l.map (fun p => infoOf P p.1) = l.map (fun p => some p.2) → ∀ p ∈ l, infoOf P p.1 = some p.2 := by
      intro l
      induction l with
      | nil => intro _ p hp; cases hp
      | cons q l ih =>
        intro h p hp
        simp only [List.map_cons, List.cons.injEq] at h
        rcases List.mem_cons.1 hp with rfl | hp
        · exact h.1
        · exact ih h.2 p hp
    exact infoOf_ok (key ts h3 _ hm)
  · intro f fn h
    rw [h2] at h
    have hm := layD_mem h
    have := List.all_eq_true.1 h5 _ hm
    exact ⟨h4 _ hm, by simpa using this⟩

/-! ### A law: it answers true, and leaves what was there -/
theorem calls_of_run {E : Env} {P : Program} (hE : E.Ok P) (hm : P.follows .mixedOrders = true) (hprim : PrimOk E P) (hplw : PrimLw E) {k f : Nat} {args : List Value} {S S' : St} {v : Value}
    (h : callF E (exec E drawD k) f args S = some (v, S')) {m : Mp} {w : World} {args' : Array Value} (hH : HR E m S w) (hv : VRs m args args'.toList) (hro : ∀ c, c < w.heap.size → ¬ Own m S c) :
    Calls P f args' w fun e w' => (∃ v' m', e = .returned v' ∧ VR m' v v') ∧ Below w.heap.size w w' := by
  have h1 := (execD_ok hE hm hprim hplw k f args S v S' h).2 m w args' 0 hH hv
  have h2 : Calls P f args' w fun e w' => ∃ v' m', e = .returned v' ∧ VR m' v v' ∧ HR E m' S' w' ∧ Fr m S w m' S' w' := callsIn_wide.1 h1
  refine h2.mono ?_
  rintro e w' ⟨v', m', h3, h4, _, h5⟩
  exact ⟨⟨v', m', h3, h4⟩, ⟨h5.os, h5.tape, h5.output, h5.size, fun c hc => h5.keep c hc (hro c hc)⟩⟩

/-- A run that answers true. -/
theorem calls_true {E : Env} {P : Program} (hE : E.Ok P) (hm : P.follows .mixedOrders = true) (hprim : PrimOk E P) (hplw : PrimLw E) {k f : Nat} {args : List Value} {S S' : St}
    (h : callF E (exec E drawD k) f args S = some (.bool true, S')) {m : Mp} {w : World} {args' : Array Value} (hH : HR E m S w) (hv : VRs m args args'.toList) (hro : ∀ c, c < w.heap.size → ¬ Own m S c) :
    Calls P f args' w fun e w' => e = .returned (.bool true) ∧ Below w.heap.size w w' := by
  refine (calls_of_run hE hm hprim hplw h hH hv hro).mono ?_
  rintro e w' ⟨⟨v', m', rfl, h4⟩, h5⟩
  cases h4
  exact ⟨rfl, h5⟩

/-- Did it answer true? -/
def okTrue (r : Option (Value × St)) : Bool := match r with | some (.bool b, _) => b | _ => false
theorem okTrue_some {r : Option (Value × St)} (h : okTrue r = true) : ∃ S, r = some (.bool true, S) := by
  unfold okTrue at h
  split at h
  · rename_i b S; subst h; exact ⟨S, rfl⟩
  · cases h
/-- Where a law without arguments starts. -/
def startS (E : Env) : St := ⟨.leaf, E.globs, 0⟩
def startM (E : Env) : Mp := fun g => if g < E.globs then some ⟨g, 0, 0, 0⟩ else none
theorem start_hr (E : Env) (w : World) : HR E (startM E) (startS E) w := by
  refine ⟨?_, ?_, ?_, ?_⟩
  · intro b x h
    unfold startM at h
    split at h
    · assumption
    · cases h
  · intro g hg
    exact ⟨⟨g, 0, 0, 0⟩, by simp [startM, hg], rfl, rfl⟩
  · intro b o h; simp [startS] at h
  · intro b b' o o' x x' h; simp [startS] at h
/-- A law without arguments: D has run it. -/
theorem calls_closed {E : Env} {P : Program} (hE : E.Ok P) (hm : P.follows .mixedOrders = true) (hprim : PrimOk E P) (hplw : PrimLw E) {k f : Nat}
    (h : okTrue (callF E (exec E drawD k) f [] (startS E)) = true) (w : World) :
    Calls P f #[] w fun e w' => e = .returned (.bool true) ∧ Below w.heap.size w w' := by
  obtain ⟨S, h⟩ := okTrue_some h
  refine calls_true hE hm hprim hplw h (start_hr E w) .nil ?_
  rintro c _ ⟨b, o, x, h1, _⟩
  simp [startS] at h1
/-- No function is stood in for. -/
theorem prim_none_ok {E : Env} {P : Program} (h : ∀ f, E.prim f = none) : PrimOk E P := fun f p hp => by rw [h] at hp; cases hp
theorem prim_none_lw {E : Env} (h : ∀ f, E.prim f = none) : PrimLw E := fun f p hp => by rw [h] at hp; cases hp

theorem below_frozen {W W' : World} (hb : Below W.heap.size W W') {a : Addr} (ha : a.block < W.heap.size) : W'.frozen? a = W.frozen? a := by
  unfold World.frozen?
  rw [hb.block _ ha]
theorem below_kept {W W' : World} (hb : Below W.heap.size W W') (may : MemPlace → Prop) : W.keptBut W' may := by
  refine ⟨hb.os, hb.output, fun i hi => ?_⟩
  rw [hb.block i hi]
  cases W.heap[i]? with
  | none => rfl
  | some o =>
    cases o <;> simp

open Go.ChangeShapes Go.WideShapes in
/-- The row's 'post' of a law that answers true and leaves what was there. -/
theorem law_post {H : Type} {enc : TypeId × Value → H} {P : Program} {f : Func} {s : ChangeSpec} {apart fresh handsOn again : Bool} {W W' : World} {args : Array Value} {ds gs : List (DataW H)} {before : List MemPlace}
    (hl : laidOutB P = true) {tb : TypeId} (hft : f.resultTypes = #[tb]) (htb : P.underlying tb = some .bool)
    (hrec : ∀ t ∈ f.params.toList, P.readableRec t = true ∧ t < P.types.size)
    (hvars0 : s.vars = []) (hfn : s.fn H (ds ++ gs) = { results := [.lit (.bool true)], args := ds })
    (hW : DataW.Whole enc P f.params.toList s.vars apart W args.toList ds gs before) (hb : Below W.heap.size W W') :
    s.post enc P f apart fresh handsOn again W args (.bool true) W' := by
  have hlt := hW.lt
  have hW0 := hW
  obtain ⟨p, q, hA, hV, hpq, hz, hn⟩ := hW
  rw [hvars0] at hV
  obtain ⟨rfl, rfl⟩ := trodVars_none hV
  have key : ∀ (ts : List TypeId), (∀ t ∈ ts, P.readableRec t = true ∧ t < P.types.size) → ∀ (vs : List Value) (ds : List (DataW H)) (ps : List MemPlace), (∀ x ∈ ps, x.block < W.heap.size) →
      DataW.TrodAll enc P W 0 (fun _ => true) true ts vs ds ps → ∀ sp : Nat → Bool, (∀ p ∈ ps, sp p.block = true) → DataW.TrodAll enc P W' 0 sp true ts vs ds ps := by
    intro ts
    induction ts with
    | nil => intro _ vs ds ps _ h sp _; obtain ⟨rfl, rfl, rfl⟩ := trodAll_nil h; exact trodAll_mk0
    | cons t ts ih =>
      intro hr vs ds ps hps h sp hsp
      obtain ⟨v, vs1, d, ds1, a, b, rfl, rfl, rfl, h1, h2⟩ := trodAll_cons h
      have g := hr t (by simp)
      refine ⟨a, b, ?_, ih (fun t ht => hr t (by simp [ht])) _ _ _ (fun x hx => hps x (by simp [hx])) h2 sp (fun p hp => hsp p (by simp [hp])), rfl⟩
      exact WideElems.Trod_stays hl g.1 g.2 h1 (fun x hx => hb.same (hps x (by simp [hx]))) (fun x hx => hsp x (by simp [hx]))
  have hargs : ∀ sp : Nat → Bool, (∀ p ∈ before, sp p.block = true) → DataW.TrodAll enc P W' 0 sp true f.params.toList args.toList (s.fn H (ds ++ [])).args before := by
    intro sp hsp
    rw [hfn]
    have : p = before := by simpa using hpq.symm
    subst this
    exact key _ hrec _ _ _ hlt hA sp hsp
  have hres : ∀ (b : Nat) (sp : Nat → Bool) (hd : Bool), DataW.TrodAll enc P W' b sp hd f.resultTypes.toList ((Value.bool true).resultList f.resultTypes.size) (s.fn H (ds ++ [])).results [] := by
    intro b sp hd
    rw [hfn, hft]
    exact trodAll_mk1 (shut_bool htb true)
  have hvs : ∀ sp : Nat → Bool, DataW.TrodVars enc P W' sp s.vars (s.fn H (ds ++ [])).vars [] := by
    intro sp; rw [hvars0, hfn]; rfl
  have hold : ∀ p ∈ before, (fun b => decide (b < W.heap.size)) p.block = true := fun p hp => by simpa using hlt p hp
  refine ⟨ds, [], before, [], before, [], hW0, hres _ _ _, hargs _ hold, hvs _, World.keptBut_mono (fun p hp => ⟨hp, ?_⟩) (below_kept hb _), fun _ => ?_⟩
  · exact Or.inr (.inl hp)
  · refine ⟨?_, _, _, ([] ++ before) ++ [], ⟨[] ++ before, [], trodAll_append (hargs _ (fun _ _ => rfl)) (hres _ _ _), hvs _, rfl, ?_, ?_⟩, ?_⟩
    · exact ok_one (t := tb) hft rfl (okWide_bool_mk htb true)
    · intro b off hp
      have hp' : MemPlace.cell b off ∈ before := by simpa using hp
      rw [below_frozen hb (hlt _ hp')]
      exact hz b off hp'
    · intro ha
      have := hn ha
      simpa using this
    · intro p hp _
      simpa using hp

end
end Go.Proofs.Ytcookjolkhcjhaa.D
