/-
  D, part 30: loops over functions, drawn regions: steps over one's own blocks.
-/
import Derived.Test.YtcookjolkhcjhaaD29
namespace Go.Proofs.Ytcookjolkhcjhaa.D
noncomputable section
set_option linter.unusedVariables false

theorem lowVW_ptr {lim b o : Nat} {K : Prop} (h : b < lim) (k : K) : lowVW lim (.pointer (some ⟨b, o, none⟩)) K := needB_iff.2 ⟨Nat.blt_eq.mpr h, k⟩
theorem lowVW_sl {lim b o l c : Nat} {K : Prop} (h : b < lim) (k : K) : lowVW lim (.slice (some ⟨b, o, none⟩) l c) K := needB_iff.2 ⟨Nat.blt_eq.mpr h, k⟩
theorem Mod.setLow {F : Nat → Prop} {S0 S S' : St} (h : Mod F S0 S) (h1 : S'.heap = S.heap) (h2 : S'.next = S.next) (h3 : ∀ lim, lim ≤ S0.low → lim ≤ S0.next → (∀ b, F b → lim ≤ b) → lim ≤ S'.low) : Mod F S0 S' :=
  ⟨by rw [h2]; exact h.next, fun b hb hn => by rw [h1]; exact h.keep b hb hn, h3⟩
theorem Hld.setLow {F : Nat → Prop} {S0 S S' : St} {L : List (Nat × DObj)} (h : Hld F S0 S L) (h1 : S'.heap = S.heap) (h2 : S'.next = S.next) (h3 : ∀ lim, lim ≤ S0.low → lim ≤ S0.next → (∀ b, F b → lim ≤ b) → lim ≤ S'.low) : Hld F S0 S' L where
  mod := h.mod.setLow h1 h2 h3
  all := fun p hp => ⟨⟨by rw [h1]; exact (h.all p hp).1.get, by rw [h2]; exact (h.all p hp).1.lt⟩, (h.all p hp).2⟩
  dis := h.dis
/-- A quiet operation begins .. -/
theorem Hld.quiet {F : Nat → Prop} {S0 S : St} {L : List (Nat × DObj)} (h : Hld F S0 S L) {k : St → Prop} (hk : ∀ S', Hld F S0 S' L → Ext S S' → S'.next = S.next → S'.low = S.next → k S') : setLowW S S.next k :=
  setLowW_of fun S' h1 h2 h3 => hk S' (h.setLow h1 h2 fun lim _ hl _ => by have := h.mod.next; omega) ⟨by omega, fun b _ _ => by rw [h1], fun lim _ hl _ => by omega⟩ h2 h3
/-- .. and ends. -/
theorem Hld.loud {F : Nat → Prop} {S0 S S2 : St} {L L' : List (Nat × DObj)} (h : Hld F S0 S L) (h' : Hld F S0 S2 L') {lim : Nat} (hlim : S.next ≤ lim) {k : St → Prop} (hk : ∀ S', Hld F S0 S' L' → S'.heap = S2.heap → S'.next = S2.next → k S') : setLowW S2 (Nat.min S.low lim) k :=
  setLowW_of fun S' h1 h2 h3 => hk S' (h'.setLow h1 h2 fun l hl hn hf => by
    have a := h.mod.low l hl hn hf
    have b := h.mod.next
    have c : S'.low = min S.low lim := h3
    omega) h1 h2
theorem Hld.quiet' {F : Nat → Prop} {S0 S : St} {L : List (Nat × DObj)} (h : Hld F S0 S L) {lim : Nat} (hlim : S0.next ≤ lim) {k : St → Prop} (hk : ∀ S', Hld F S0 S' L → S'.heap = S.heap → S'.next = S.next → S'.low = lim → k S') : setLowW S lim k :=
  setLowW_of fun S' h1 h2 h3 => hk S' (h.setLow h1 h2 fun l _ hl _ => by omega) h1 h2 h3
theorem Hld.loud' {F : Nat → Prop} {S0 S S2 : St} {L L' : List (Nat × DObj)} (h : Hld F S0 S L) (h' : Hld F S0 S2 L') {lim : Nat} (hlim : S0.next ≤ lim) {k : St → Prop} (hk : ∀ S', Hld F S0 S' L' → S'.heap = S2.heap → S'.next = S2.next → k S') : setLowW S2 (Nat.min S.low lim) k :=
  setLowW_of fun S' h1 h2 h3 => hk S' (h'.setLow h1 h2 fun l hl hn hf => by
    have a := h.mod.low l hl hn hf
    have c : S'.low = min S.low lim := h3
    omega) h1 h2
/-- Boxes are written; a slice that grows in blocks from N on stays. -/
theorem Hld.updG {α : Type} {f : α → List Value} {sz N : Nat} {s : Sl} {l : List α} {F : Nat → Prop} {S0 S : St} {L : List (Nat × DObj)} (h : Hld F S0 S L) (g : Gr f sz N S s l) (i : Nat) {b : Nat} {o o' : DObj} {k : St → Prop} (hi : L[i]? = some (b, o)) (hb : b < N)
    (hk : ∀ S', Hld F S0 S' (L.set i (b, o')) → Gr f sz N S' s l → S'.next = S.next → k S') : updW S b o' k :=
  updW_of (h.at i hi).lt fun S' ha e hn => hk S' (h.set i hi e ha) (e.gr g fun c h1 _ h2 => by omega) hn
theorem Hld.stG {α : Type} {f : α → List Value} {sz N : Nat} {s : Sl} {l : List α} {F : Nat → Prop} {S0 S : St} {L : List (Nat × DObj)} (h : Hld F S0 S L) (g : Gr f sz N S s l) (i : Nat) {b o t : Nat} (n : Nat) {cs cs' : List Value} {more : Option Nat} {E : Env} {v : Value} {k : St → Prop} (hi : L[i]? = some (b, .cells cs more false none)) (hb : b < N) (ht : stOk E t n = true) (hn : (cellsOf v).length = n) (ho : o + n ≤ cs.length)
    (hone : (cellsOf v).all St.one = true) (hcs : cs.take o ++ (cellsOf v ++ cs.drop (o + n)) = cs') (hk : ∀ S', Hld F S0 S' (L.set i (b, .cells cs' more false none)) → Gr f sz N S' s l → S'.next = S.next → k S') : evS (storeV E S t (.pointer (some ⟨b, o, none⟩)) v) k := by
  subst hcs
  exact ⟨_, store_cells (h.at i hi) ht hn ho hone, hk _ (h.set i hi upd_mod (upd_at (h.at i hi))) (Mod.gr upd_mod g fun c h1 _ h2 => by omega) rfl⟩
theorem Gr.same {α : Type} {f : α → List Value} {sz N : Nat} {s : Sl} {l : List α} {S S' : St} (g : Gr f sz N S s l) (h1 : S'.heap = S.heap) (h2 : S'.next = S.next) : Gr f sz N S' s l := by
  rcases g with h | ⟨b, hb, e, ha⟩
  · exact .inl h
  · exact .inr ⟨b, hb, e, ⟨by rw [h1]; exact ha.get, by rw [h2]; exact ha.lt⟩⟩
theorem Gr.len {α : Type} {f : α → List Value} {sz N : Nat} {s : Sl} {l : List α} {S : St} (g : Gr f sz N S s l) : s.len = l.length := by
  rcases g with ⟨rfl, rfl⟩ | ⟨b, hb, rfl, ha⟩ <;> rfl
/-- The record of a loop over a function is laid. -/
theorem Hld.record {F : Nat → Prop} {S0 S : St} {L : List (Nat × DObj)} (h : Hld F S0 S L) {o : DObj} : Hld F S0 (S.alloc o).2 ((S.next, o) :: L) := h.cons alloc_ext (Nat.le_refl _) alloc_at
theorem WG_of {E : Env} {f : Nat} {first cap : Array Value} {l : Nat} {S : St} {Q : St → Prop} (hp : E.prim f = none) (h : WC E f (first.toList ++ [.func (.yield l) #[] #[]] ++ cap.toList) S fun _ S' => Q S') : WG E (.func (.func f) first cap) l S Q :=
  ⟨f, first, cap, rfl, hp, h⟩
/-- A letter of a text. -/
theorem indexD_str {E : Env} {t : TypeId} (ht : E.und t = some .string) {l : List UInt8} {n : Nat} (hn : n < l.length) : indexD E t (.string ⟨l.toArray⟩) (.int .i64 (n : Int)) = some (.int .u8 (l[n].toNat : Int)) := by
  have h0 : decide ((0 : Int) ≤ (n : Int)) = true := by simp
  simp only [indexD, ht, h0, cond_true, Int.toNat_natCast]
  rw [List.getElem?_eq_getElem hn]; rfl
theorem minmax_min (a b : Int) : (cond false (cond (decide (b > a)) b a) (cond (decide (b < a)) b a)) = min a b := by
  by_cases h : b < a
  · rw [decide_eq_true h]; show b = min a b; omega
  · rw [decide_eq_false h]; show a = min a b; omega
theorem minmax_max (a b : Int) : (cond true (cond (decide (b > a)) b a) (cond (decide (b < a)) b a)) = max a b := by
  by_cases h : b > a
  · rw [decide_eq_true h]; show b = max a b; omega
  · rw [decide_eq_false h]; show a = max a b; omega

end
end Go.Proofs.Ytcookjolkhcjhaa.D
