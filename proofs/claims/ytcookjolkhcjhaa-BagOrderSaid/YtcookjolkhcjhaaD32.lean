/-
  D, part 32: one's own boxes, and beside them a fact that hangs on other blocks (its own), carried along together.
-/
import Derived.Test.YtcookjolkhcjhaaD31
namespace Go.Proofs.Ytcookjolkhcjhaa.D
noncomputable section
set_option linter.unusedVariables false
set_option linter.unusedSimpArgs false

/-- Only blocks of F, of those that were, are other ones. -/
structure Kp (F : Nat → Prop) (S S' : St) : Prop where
  next : S.next ≤ S'.next
  keep : ∀ b, b < S.next → ¬ F b → S'.heap.get b = S.heap.get b
theorem Mod.kp {F : Nat → Prop} {S S' : St} (h : Mod F S S') : Kp F S S' := ⟨h.next, h.keep⟩
theorem kp_same {F : Nat → Prop} {S S' : St} (h1 : S'.heap = S.heap) (h2 : S'.next = S.next) : Kp F S S' := ⟨by omega, fun b _ _ => by rw [h1]⟩
theorem Kp.at {F : Nat → Prop} {S S' : St} (h : Kp F S S') {b : Nat} {o : DObj} (ha : At S b o) (hn : ¬ F b) : At S' b o := ⟨(h.keep b ha.lt hn).trans ha.get, Nat.lt_of_lt_of_le ha.lt h.next⟩
theorem Kp.slOf {α : Type} {f : α → List Value} {sz : Nat} {F : Nat → Prop} {S S' : St} {s : Sl} {l : List α} (h : Kp F S S') (hs : SlOf f sz S s l) (hn : l ≠ [] → ∀ b o, s.a = some ⟨b, o, none⟩ → b < S.next → ¬ F b) : SlOf f sz S' s l :=
  ⟨hs.len, fun hl => let ⟨b, o, cs, more, ro, fz, h1, h2, h3⟩ := hs.mem hl; ⟨b, o, cs, more, ro, fz, h1, h.at h2 (hn hl b o h1 h2.lt), h3⟩⟩
theorem Kp.gr {α : Type} {f : α → List Value} {sz N : Nat} {F : Nat → Prop} {S S' : St} {s : Sl} {l : List α} (h : Kp F S S') (hs : Gr f sz N S s l) (hn : ∀ b, N ≤ b → b < S.next → s.a = some ⟨b, 0, none⟩ → ¬ F b) : Gr f sz N S' s l := by
  rcases hs with hs | ⟨b, h1, h2, h3⟩
  · exact .inl hs
  · exact .inr ⟨b, h1, h2, h.at h3 (hn b h1 h3.lt (by rw [h2]))⟩
theorem Kp.grX {α : Type} {f : α → List Value} {sz N : Nat} {F : Nat → Prop} {S S' : St} {s : Sl} {l : List α} (h : Kp F S S') (hs : GrX f sz N S s l) (hn : ∀ b, N ≤ b → b < S.next → s.a = some ⟨b, 0, none⟩ → ¬ F b) : GrX f sz N S' s l := by
  rcases hs with hs | ⟨b, rest, h1, h2, h3, h4⟩
  · exact .inl hs
  · exact .inr ⟨b, rest, h1, h2, h.at h3 (hn b h1 h3.lt (by rw [h2])), h4⟩
theorem SlOf.idxL {α : Type} {f : α → List Value} {sz : Nat} {S : St} {s : Sl} {l : List α} (hf : ∀ x, (f x).length = sz) (h : SlOf f sz S s l) {n0 n : Nat} (e : n0 = l.length) (h1 : n < l.length) {k : Nat → Nat → Prop}
    (hk : ∀ b o cs more ro fz, At S b (.cells cs more ro fz) → s.a = some ⟨b, o, none⟩ → (cs.drop (o + (n : Int).toNat * sz)).take sz = f l[n] → k b o) : idxW s.a n0 (n : Int) k := by
  have e' : n0 = s.len := by rw [h.len]; exact e
  subst e'
  exact h.idx hf (by omega) (by omega) hk
/-- P hangs on the blocks O alone. -/
def Frm (O : Nat → Prop) (P : St → Prop) : Prop := ∀ F S S', Kp F S S' → (∀ c, O c → ¬ F c) → P S → P S'
theorem Frm.and {O O' : Nat → Prop} {P P' : St → Prop} (h : Frm O P) (h' : Frm O' P') : Frm (fun c => O c ∨ O' c) (fun S => P S ∧ P' S) :=
  fun F S S' m hF hp => ⟨h F S S' m (fun c hc => hF c (.inl hc)) hp.1, h' F S S' m (fun c hc => hF c (.inr hc)) hp.2⟩
theorem Frm.true : Frm noB (fun _ => True) := fun _ _ _ _ _ _ => trivial
theorem Frm.pure {p : Prop} : Frm noB (fun _ => p) := fun _ _ _ _ _ h => h
/-- From S0 on only blocks of W were written, of those that were; L: new boxes, and what they hold; P holds, which hangs on blocks O alone, none of them a box. -/
structure Cx (W : Nat → Prop) (S0 S : St) (L : List (Nat × DObj)) (O : Nat → Prop) (P : St → Prop) : Prop where
  h : Hld W S0 S L
  fresh : ∀ p ∈ L, S0.next ≤ p.1
  lt : ∀ c, O c → c < S.next
  sep : ∀ p ∈ L, ¬ O p.1
  p : P S
  fr : Frm O P
section
variable {W O : Nat → Prop} {S0 S : St} {L : List (Nat × DObj)} {P : St → Prop}
theorem Cx.start (W : Nat → Prop) (hP : P S) (fr : Frm O P) (lt : ∀ c, O c → c < S.next) : Cx W S S [] O P := ⟨Hld.start W S, by simp, lt, by simp, hP, fr⟩
theorem Cx.mod (h : Cx W S0 S L O P) : Mod W S0 S := h.h.mod
theorem Cx.at (h : Cx W S0 S L O P) (i : Nat) {b : Nat} {o : DObj} (hi : L[i]? = some (b, o)) : At S b o := h.h.at i hi
theorem Cx.ext (h : Cx W S0 S L O P) {S' : St} (e : Ext S S') : Cx W S0 S' L O P :=
  ⟨h.h.ext e, h.fresh, fun c hc => Nat.lt_of_lt_of_le (h.lt c hc) e.next, h.sep, h.fr _ _ _ e.kp (fun _ _ h => h) h.p, h.fr⟩
theorem Cx.ne (h : Cx W S0 S L O P) {c : Nat} (hc : O c) {i : Nat} {b : Nat} {o : DObj} (hi : L[i]? = some (b, o)) : c ≠ b := fun e => h.sep _ (List.mem_of_getElem? hi) (e ▸ hc)
theorem Cx.new (h : Cx W S0 S L O P) {o : DObj} {k : Nat → St → Prop} (hk : ∀ b S', Cx W S0 S' ((b, o) :: L) O P → b = S.next → S'.next = S.next + 1 → k b S') : newW S o k :=
  newW_of fun b S' hb ha e hn => hk b S' ⟨h.h.cons e (by omega) ha, fun p hp => by
    rcases List.mem_cons.1 hp with rfl | hp
    · subst hb; exact h.mod.next
    · exact h.fresh p hp, fun c hc => Nat.lt_of_lt_of_le (h.lt c hc) e.next, fun p hp => by
    rcases List.mem_cons.1 hp with rfl | hp
    · intro hc; have := h.lt _ hc; simp only at this; omega
    · exact h.sep p hp, h.fr _ _ _ e.kp (fun _ _ h => h) h.p, h.fr⟩ hb hn
theorem Cx.newX (h : Cx W S0 S L O P) {o : DObj} {k : Nat → St → Prop} (hk : ∀ b S', Cx W S0 S' ((b, o) :: L) O P → b = S.next → S'.next = S.next + 1 → Ext S S' → k b S') : newW S o k :=
  newW_of fun b S' hb ha e hn => hk b S' ⟨h.h.cons e (by omega) ha, fun p hp => by
    rcases List.mem_cons.1 hp with rfl | hp
    · subst hb; exact h.mod.next
    · exact h.fresh p hp, fun c hc => Nat.lt_of_lt_of_le (h.lt c hc) e.next, fun p hp => by
    rcases List.mem_cons.1 hp with rfl | hp
    · intro hc; have := h.lt _ hc; simp only at this; omega
    · exact h.sep p hp, h.fr _ _ _ e.kp (fun _ _ h => h) h.p, h.fr⟩ hb hn e
/-- A box is written. -/
theorem Cx.set (h : Cx W S0 S L O P) {S' : St} (i : Nat) {b : Nat} {o o' : DObj} (hi : L[i]? = some (b, o)) (e : Mod (fun c => c = b) S S') (ha : At S' b o') : Cx W S0 S' (L.set i (b, o')) O P := by
  refine ⟨h.h.set i hi e ha, fun p hp => ?_, fun c hc => Nat.lt_of_lt_of_le (h.lt c hc) e.next, fun p hp => ?_, h.fr _ _ _ e.kp (fun c hc hb => h.ne hc hi hb) h.p, h.fr⟩
  · rcases List.mem_or_eq_of_mem_set hp with hp | rfl
    · exact h.fresh p hp
    · exact h.fresh (b, o) (List.mem_of_getElem? hi)
  · rcases List.mem_or_eq_of_mem_set hp with hp | rfl
    · exact h.sep p hp
    · exact h.sep (b, o) (List.mem_of_getElem? hi)
theorem Cx.ld (h : Cx W S0 S L O P) (i : Nat) {b o t : Nat} {cs : List Value} {more : Option Nat} {ro : Bool} {fz : Option (Nat × Nat)} {E : Env} {ty : TT} {k : ty.T → Prop} (hi : L[i]? = some (b, .cells cs more ro fz)) (ht : ldOk E t = true) (x : ty.T)
    (hv : cs[o]? = some (ty.enc x)) (hk : k x) : evV ty (loadV E S t (.pointer (some ⟨b, o, none⟩))) k := h.h.ld i hi ht x hv hk
theorem Cx.lda (h : Cx W S0 S L O P) (i : Nat) {b o t : Nat} {cs : List Value} {more : Option Nat} {ro : Bool} {fz : Option (Nat × Nat)} {E : Env} {l : List Sc} {k : Tup Sc.T l → Prop} (hi : L[i]? = some (b, .cells cs more ro fz)) (ht : ldAgg E t l.length = true) (x : Tup Sc.T l)
    (hv : decs Sc.dec l ((cs.drop o).take l.length) = some x) (hk : k x) : evV (.one (.agg l)) (loadV E S t (.pointer (some ⟨b, o, none⟩))) k := h.h.lda i hi ht x hv hk
theorem Cx.st (h : Cx W S0 S L O P) (i : Nat) {b o t : Nat} (n : Nat) {cs cs' : List Value} {more : Option Nat} {E : Env} {v : Value} {k : St → Prop} (hi : L[i]? = some (b, .cells cs more false none)) (ht : stOk E t n = true) (hn : (cellsOf v).length = n) (ho : o + n ≤ cs.length)
    (hone : (cellsOf v).all St.one = true) (hcs : cs.take o ++ (cellsOf v ++ cs.drop (o + n)) = cs') (hk : ∀ S', Cx W S0 S' (L.set i (b, .cells cs' more false none)) O P → S'.next = S.next → k S') : evS (storeV E S t (.pointer (some ⟨b, o, none⟩)) v) k := by
  subst hcs
  exact ⟨_, store_cells (h.at i hi) ht hn ho hone, hk _ (h.set i hi upd_mod (upd_at (h.at i hi))) rfl⟩
theorem Cx.upd (h : Cx W S0 S L O P) (i : Nat) {b : Nat} {o o' : DObj} {k : St → Prop} (hi : L[i]? = some (b, o)) (hk : ∀ S', Cx W S0 S' (L.set i (b, o')) O P → S'.next = S.next → k S') : updW S b o' k :=
  updW_of (h.at i hi).lt fun S' ha e hn => hk S' (h.set i hi e ha) hn
theorem Cx.has (h : Cx W S0 S L O P) (i : Nat) {b : Nat} {o : DObj} {K : Prop} (hi : L[i]? = some (b, o)) (hk : K) : hasW S b o K := ⟨(h.at i hi).get, hk⟩
theorem Cx.record (h : Cx W S0 S L O P) {o : DObj} : Cx W S0 (S.alloc o).2 ((S.next, o) :: L) O P :=
  ⟨h.h.record, fun p hp => by
    rcases List.mem_cons.1 hp with rfl | hp
    · exact h.mod.next
    · exact h.fresh p hp, fun c hc => Nat.lt_of_lt_of_le (h.lt c hc) (alloc_ext (o := o)).next, fun p hp => by
    rcases List.mem_cons.1 hp with rfl | hp
    · intro hc; have := h.lt _ hc; simp only at this; omega
    · exact h.sep p hp, h.fr _ _ _ (alloc_ext (o := o)).kp (fun _ _ h => h) h.p, h.fr⟩
/-- The first boxes are forgotten. -/
theorem Cx.tl (h : Cx W S0 S L O P) (n : Nat) : Cx W S0 S (L.drop n) O P :=
  ⟨⟨h.mod, fun q hq => h.h.all q (List.mem_of_mem_drop hq), by rw [List.map_drop]; exact h.h.dis.sublist (List.drop_sublist _ _)⟩, fun q hq => h.fresh q (List.mem_of_mem_drop hq), h.lt, fun q hq => h.sep q (List.mem_of_mem_drop hq), h.p, h.fr⟩
/-- A step that writes P's own blocks alone, and makes P' of it. -/
theorem Cx.op (h : Cx W S0 S L O P) {S' : St} {F O' : Nat → Prop} {P' : St → Prop} (e : Mod F S S') (hF : ∀ c, F c → O c) (hW : ∀ c, F c → c < S0.next → W c) (hP : P' S') (fr : Frm O' P') (hO : ∀ c, O' c → O c ∨ S.next ≤ c) (hlt : ∀ c, O' c → c < S'.next) : Cx W S0 S' L O' P' :=
  ⟨h.h.step e fun b hb hl => ⟨by
      by_cases hlt : b < S0.next
      · exact .inr (hW b hb hlt)
      · exact .inl (by omega), fun p hp e => h.sep p hp (e ▸ hF b hb)⟩, h.fresh, hlt, fun p hp hc => by
    rcases hO _ hc with hc | hc
    · exact h.sep p hp hc
    · have := (h.h.all p hp).1.lt; omega, hP, fr⟩
/-- The fact is put in other words. -/
theorem Cx.as (h : Cx W S0 S L O P) {O' : Nat → Prop} {P' : St → Prop} (hP : P' S) (fr : Frm O' P') (hO : ∀ c, O' c → O c) : Cx W S0 S L O' P' :=
  ⟨h.h, h.fresh, fun c hc => h.lt c (hO c hc), fun p hp hc => h.sep p hp (hO _ hc), hP, fr⟩
theorem Cx.low (h : Cx W S0 S L O P) {S' : St} (h1 : S'.heap = S.heap) (h2 : S'.next = S.next) (h3 : ∀ lim, lim ≤ S0.low → lim ≤ S0.next → (∀ b, W b → lim ≤ b) → lim ≤ S'.low) : Cx W S0 S' L O P :=
  ⟨h.h.setLow h1 h2 h3, h.fresh, fun c hc => by rw [h2]; exact h.lt c hc, h.sep, h.fr noB S S' (kp_same h1 h2) (fun _ _ h => h) h.p, h.fr⟩
/-- A quiet operation begins .. -/
theorem Cx.quiet (h : Cx W S0 S L O P) {k : St → Prop} (hk : ∀ S', Cx W S0 S' L O P → Ext S S' → S'.next = S.next → S'.low = S.next → k S') : setLowW S S.next k :=
  setLowW_of fun S' h1 h2 h3 => hk S' (h.low h1 h2 fun lim _ hl _ => by have := h.mod.next; omega) ⟨by omega, fun b _ _ => by rw [h1], fun lim _ hl _ => by omega⟩ h2 h3
/-- .. and ends. -/
theorem Cx.loud (h : Cx W S0 S L O P) {S2 : St} {L' : List (Nat × DObj)} {O' : Nat → Prop} {P' : St → Prop} (h' : Cx W S0 S2 L' O' P') {lim : Nat} (hlim : S.next ≤ lim) {k : St → Prop} (hk : ∀ S', Cx W S0 S' L' O' P' → S'.heap = S2.heap → S'.next = S2.next → k S') : setLowW S2 (Nat.min S.low lim) k :=
  setLowW_of fun S' h1 h2 h3 => hk S' (h'.low h1 h2 fun l hl hn hf => by
    have a := h.mod.low l hl hn hf
    have b := h.mod.next
    have c : S'.low = min S.low lim := h3
    omega) h1 h2
theorem Cx.quiet' (h : Cx W S0 S L O P) {lim : Nat} (hlim : S0.next ≤ lim) {k : St → Prop} (hk : ∀ S', Cx W S0 S' L O P → S'.heap = S.heap → S'.next = S.next → S'.low = lim → k S') : setLowW S lim k :=
  setLowW_of fun S' h1 h2 h3 => hk S' (h.low h1 h2 fun l _ hl _ => by omega) h1 h2 h3
theorem Cx.loud' (h : Cx W S0 S L O P) {S2 : St} {L' : List (Nat × DObj)} {O' : Nat → Prop} {P' : St → Prop} (h' : Cx W S0 S2 L' O' P') {lim : Nat} (hlim : S0.next ≤ lim) {k : St → Prop} (hk : ∀ S', Cx W S0 S' L' O' P' → S'.heap = S2.heap → S'.next = S2.next → k S') : setLowW S2 (Nat.min S.low lim) k :=
  setLowW_of fun S' h1 h2 h3 => hk S' (h'.low h1 h2 fun l hl hn hf => by
    have a := h.mod.low l hl hn hf
    have c : S'.low = min S.low lim := h3
    omega) h1 h2
end
end
end Go.Proofs.Ytcookjolkhcjhaa.D
