/-
  D, part 29: what one's blocks hold, as one fact that is carried along.
-/
import Derived.Test.YtcookjolkhcjhaaD27
namespace Go.Proofs.Ytcookjolkhcjhaa.D
noncomputable section
set_option linter.unusedVariables false
set_option linter.unusedSimpArgs false

/-- From S0 on only blocks of F were written, of those that were; L: blocks of one's own (new ones, or of F), and what they hold. -/
structure Hld (F : Nat → Prop) (S0 S : St) (L : List (Nat × DObj)) : Prop where
  mod : Mod F S0 S
  all : ∀ p ∈ L, At S p.1 p.2 ∧ (S0.next ≤ p.1 ∨ F p.1)
  dis : (L.map (·.1)).Nodup
theorem Hld.start (F : Nat → Prop) (S : St) : Hld F S S [] := ⟨Mod.refl _ _, by simp, by simp⟩
theorem Hld.at {F : Nat → Prop} {S0 S : St} {L : List (Nat × DObj)} (h : Hld F S0 S L) (i : Nat) {b : Nat} {o : DObj} (hi : L[i]? = some (b, o)) : At S b o := (h.all _ (List.mem_of_getElem? hi)).1
/-- A step that writes none of these blocks. -/
theorem Hld.step {F F' : Nat → Prop} {S0 S S' : St} {L : List (Nat × DObj)} (h : Hld F S0 S L) (e : Mod F' S S') (hf : ∀ b, F' b → b < S.next → (S0.next ≤ b ∨ F b) ∧ ∀ p ∈ L, p.1 ≠ b) : Hld F S0 S' L where
  mod := h.mod.trans e fun b hb hlt => by
    rcases (hf b hb (Nat.lt_of_lt_of_le hlt h.mod.next)).1 with h1 | h1
    · omega
    · exact h1
  all := fun p hp => ⟨e.at (h.all p hp).1 fun hb => (hf _ hb (h.all p hp).1.lt).2 p hp rfl, (h.all p hp).2⟩
  dis := h.dis
theorem Hld.ext {F : Nat → Prop} {S0 S S' : St} {L : List (Nat × DObj)} (h : Hld F S0 S L) (e : Ext S S') : Hld F S0 S' L := h.step e fun _ h => h.elim
/-- A new block. -/
theorem Hld.cons {F : Nat → Prop} {S0 S S' : St} {L : List (Nat × DObj)} (h : Hld F S0 S L) (e : Ext S S') {b : Nat} {o : DObj} (hb : S.next ≤ b) (ha : At S' b o) : Hld F S0 S' ((b, o) :: L) where
  mod := (h.ext e).mod
  all := by
    intro p hp
    rcases List.mem_cons.1 hp with rfl | hp
    · exact ⟨ha, .inl (Nat.le_trans h.mod.next hb)⟩
    · exact (h.ext e).all p hp
  dis := by
    rw [List.map_cons, List.nodup_cons]
    refine ⟨fun hm => ?_, h.dis⟩
    obtain ⟨p, hp, e2⟩ := List.mem_map.1 hm
    have := (h.all p hp).1.lt
    omega
theorem Hld.new {F : Nat → Prop} {S0 S : St} {L : List (Nat × DObj)} (h : Hld F S0 S L) {o : DObj} {k : Nat → St → Prop} (hk : ∀ b S', Hld F S0 S' ((b, o) :: L) → b = S.next → S'.next = S.next + 1 → k b S') : newW S o k :=
  newW_of fun b S' hb ha e hn => hk b S' (h.cons e (by omega) ha) hb hn
theorem nodup_ne {L : List (Nat × DObj)} (h : (L.map (·.1)).Nodup) {i : Nat} {p : Nat × DObj} (hi : L[i]? = some p) {j : Nat} {q : Nat × DObj} (hj : L[j]? = some q) (hne : j ≠ i) : q.1 ≠ p.1 := by
  intro e
  have h1 : (L.map (·.1))[i]? = some p.1 := by rw [List.getElem?_map, hi]; rfl
  have h2 : (L.map (·.1))[j]? = some p.1 := by rw [List.getElem?_map, hj, ← e]; rfl
  obtain ⟨hl1, g1⟩ := List.getElem?_eq_some_iff.1 h1
  obtain ⟨hl2, g2⟩ := List.getElem?_eq_some_iff.1 h2
  have key := List.pairwise_iff_getElem.1 h
  rcases Nat.lt_or_gt_of_ne hne with hlt | hlt
  · exact key j i hl2 hl1 hlt (g2.trans g1.symm)
  · exact key i j hl1 hl2 hlt (g1.trans g2.symm)
/-- Block i is written. -/
theorem Hld.set {F : Nat → Prop} {S0 S S' : St} {L : List (Nat × DObj)} (h : Hld F S0 S L) (i : Nat) {b : Nat} {o o' : DObj} (hi : L[i]? = some (b, o)) (e : Mod (fun c => c = b) S S') (ha : At S' b o') : Hld F S0 S' (L.set i (b, o')) where
  mod := h.mod.trans e fun c hc hlt => by
    subst hc
    rcases (h.all _ (List.mem_of_getElem? hi)).2 with h1 | h1
    · have h1 : S0.next ≤ c := h1; omega
    · exact h1
  all := by
    intro p hp
    obtain ⟨j, hj, hp⟩ := List.getElem_of_mem hp
    have hp : (L.set i (b, o'))[j]? = some p := by rw [List.getElem?_eq_getElem hj, hp]
    rw [List.getElem?_set] at hp
    split at hp
    · split at hp
      · cases hp
        exact ⟨ha, (h.all _ (List.mem_of_getElem? hi)).2⟩
      · cases hp
    · rename_i hne
      have := h.all p (List.mem_of_getElem? hp)
      exact ⟨e.at this.1 (nodup_ne h.dis hi hp (Ne.symm hne)), this.2⟩
  dis := by
    have : (L.set i (b, o')).map (·.1) = L.map (·.1) := by
      rw [List.map_set]
      apply List.ext_getElem?
      intro j
      rw [List.getElem?_set]
      split
      · rename_i hij
        subst hij
        split
        · rw [List.getElem?_map, hi]; rfl
        · rename_i hl; rw [List.getElem?_eq_none (by omega)]
      · rfl
    rw [this]; exact h.dis

/-! ### Reading and writing boxes -/
def ldOk (E : Env) (t : TypeId) : Bool := match E.inf t with | some d => !aggD d.und | none => false
def ldAgg (E : Env) (t : TypeId) (n : Nat) : Bool := match E.inf t with | some d => aggD d.und && Nat.beq d.size n | none => false
def stOk (E : Env) (t : TypeId) (n : Nat) : Bool := match E.inf t with | some d => Nat.beq d.size n | none => false
theorem load_one {E : Env} {S : St} {t b o : Nat} {cs : List Value} {more : Option Nat} {ro : Bool} {fz : Option (Nat × Nat)} (h : At S b (.cells cs more ro fz)) (ht : ldOk E t = true) : loadV E S t (.pointer (some ⟨b, o, none⟩)) = cs[o]? := by
  unfold ldOk at ht
  split at ht
  · rename_i d hd
    have ha : aggD d.und = false := by simpa using ht
    simp only [loadV, hd, ha, cond_false, St.load1, h.get]
  · cases ht
theorem load_agg {E : Env} {S : St} {t b o n : Nat} {cs : List Value} {more : Option Nat} {ro : Bool} {fz : Option (Nat × Nat)} (h : At S b (.cells cs more ro fz)) (ht : ldAgg E t n = true) {vs : List Value} (hv : (cs.drop o).take n = vs) (hl : vs.length = n) :
    loadV E S t (.pointer (some ⟨b, o, none⟩)) = some (.agg vs.toArray) := by
  unfold ldAgg at ht
  split at ht
  · rename_i d hd
    rw [Bool.and_eq_true] at ht
    have e := Nat.eq_of_beq_eq_true ht.2
    exact loadV_agg h.get hd ht.1 (by rw [e]; exact hv) (by rw [e]; exact hl)
  · cases ht
theorem store_cells {E : Env} {S : St} {t b o n : Nat} {cs : List Value} {more : Option Nat} {v : Value} (h : At S b (.cells cs more false none)) (ht : stOk E t n = true) (hn : (cellsOf v).length = n) (ho : o + n ≤ cs.length) (hone : (cellsOf v).all St.one = true) :
    storeV E S t (.pointer (some ⟨b, o, none⟩)) v = some (S.upd b (.cells (cs.take o ++ (cellsOf v ++ cs.drop (o + n))) more false none)) := by
  unfold stOk at ht
  split at ht
  · rename_i d hd
    have e := Nat.eq_of_beq_eq_true ht
    have h1 : Nat.ble (o + n) cs.length = true := Nat.ble_eq_true_of_le ho
    simp only [storeV, hd, e, hn, Nat.beq_refl, cond_true, St.storeN, h.get, Bool.not_false, Bool.true_and, h1, hone, St.fzOk, Bool.and_true]
  · cases ht
/-- A cell of block i is read. -/
theorem Hld.ld {F : Nat → Prop} {S0 S : St} {L : List (Nat × DObj)} (h : Hld F S0 S L) (i : Nat) {b o t : Nat} {cs : List Value} {more : Option Nat} {ro : Bool} {fz : Option (Nat × Nat)} {E : Env} {ty : TT} {k : ty.T → Prop} (hi : L[i]? = some (b, .cells cs more ro fz)) (ht : ldOk E t = true) (x : ty.T)
    (hv : cs[o]? = some (ty.enc x)) (hk : k x) : evV ty (loadV E S t (.pointer (some ⟨b, o, none⟩))) k :=
  ⟨x, (load_one (h.at i hi) ht).trans hv, hk⟩
/-- A struct of block i is read. -/
theorem Hld.lda {F : Nat → Prop} {S0 S : St} {L : List (Nat × DObj)} (h : Hld F S0 S L) (i : Nat) {b o t : Nat} {cs : List Value} {more : Option Nat} {ro : Bool} {fz : Option (Nat × Nat)} {E : Env} {l : List Sc} {k : Tup Sc.T l → Prop} (hi : L[i]? = some (b, .cells cs more ro fz)) (ht : ldAgg E t l.length = true) (x : Tup Sc.T l)
    (hv : decs Sc.dec l ((cs.drop o).take l.length) = some x) (hk : k x) : evV (.one (.agg l)) (loadV E S t (.pointer (some ⟨b, o, none⟩))) k :=
  ⟨x, load_agg (h.at i hi) ht (decs_some (enc := Sc.enc) (fun _ _ _ h => Sc.dec_some h) hv) (encs_len l x), hk⟩
/-- Block i is written: cells from o on. -/
theorem Hld.st {F : Nat → Prop} {S0 S : St} {L : List (Nat × DObj)} (h : Hld F S0 S L) (i : Nat) {b o t : Nat} (n : Nat) {cs cs' : List Value} {more : Option Nat} {E : Env} {v : Value} {k : St → Prop} (hi : L[i]? = some (b, .cells cs more false none)) (ht : stOk E t n = true) (hn : (cellsOf v).length = n) (ho : o + n ≤ cs.length)
    (hone : (cellsOf v).all St.one = true) (hcs : cs.take o ++ (cellsOf v ++ cs.drop (o + n)) = cs') (hk : ∀ S', Hld F S0 S' (L.set i (b, .cells cs' more false none)) → S'.next = S.next → k S') : evS (storeV E S t (.pointer (some ⟨b, o, none⟩)) v) k := by
  subst hcs
  exact ⟨_, store_cells (h.at i hi) ht hn ho hone, hk _ (h.set i hi upd_mod (upd_at (h.at i hi))) rfl⟩
/-- A record's state. -/
theorem Hld.upd {F : Nat → Prop} {S0 S : St} {L : List (Nat × DObj)} (h : Hld F S0 S L) (i : Nat) {b : Nat} {o o' : DObj} {k : St → Prop} (hi : L[i]? = some (b, o)) (hk : ∀ S', Hld F S0 S' (L.set i (b, o')) → S'.next = S.next → k S') : updW S b o' k :=
  updW_of (h.at i hi).lt fun S' ha e hn => hk S' (h.set i hi e ha) hn
theorem Hld.has {F : Nat → Prop} {S0 S : St} {L : List (Nat × DObj)} (h : Hld F S0 S L) (i : Nat) {b : Nat} {o : DObj} {K : Prop} (hi : L[i]? = some (b, o)) (hk : K) : hasW S b o K := ⟨(h.at i hi).get, hk⟩
theorem ptrW_of {b o : Nat} {k : Nat → Nat → Prop} (h : k b o) : ptrW (some ⟨b, o, none⟩) k := ⟨b, o, rfl, h⟩
@[simp] theorem ptrW_some {b o : Nat} {k : Nat → Nat → Prop} : ptrW (some ⟨b, o, none⟩) k = k b o := by
  apply propext
  constructor
  · rintro ⟨b', o', h, hk⟩; cases h; exact hk
  · exact ptrW_of

end
end Go.Proofs.Ytcookjolkhcjhaa.D
