/-
  D, part 33: arguments that are slices, with what is known of where they stand; single cells of structs.
-/
import Derived.Test.YtcookjolkhcjhaaD28
import Derived.Test.YtcookjolkhcjhaaD32
namespace Go.Proofs.Ytcookjolkhcjhaa.D
open Go.ChangeShapes Go.WideShapes Go.ChangeAt Go.RowKit
noncomputable section
set_option linter.unusedVariables false
set_option linter.unusedSimpArgs false

theorem at_take {cs : List Value} {o n j : Nat} {vs : List Value} (h : (cs.drop o).take n = vs) (hj : j < n) : cs[o + j]? = vs[j]? := by
  rw [← h, List.getElem?_take, if_pos hj, List.getElem?_drop]
section
variable {H : Type} {enc : TypeId × Value → H} {P : Program} {W : World} {base : Nat} {spare : Nat → Bool} {held : Bool} {E : Env}
/-- A slice that was read. -/
theorem trod_slX {α : Type} {f : α → List Value} {sz : Nat} {Wf : α → Prop} (hf : ∀ x, (f x).length = sz) (hsz : 0 < sz) {t e : TypeId} (hu : P.underlying t = some (.slice e)) (hce : P.cellsOf e = sz)
    (hel : ∀ fuel cs r, DataW.trod enc P W base spare held fuel e cs = some r → cs.length = sz → ∃ x, Wf x ∧ cs.map (nv (argN E W)) = f x) (hsp : ∀ b, spare b = true)
    {fuel : Nat} {v : Value} {d : DataW H} {ps : List MemPlace} (h : DataW.trod enc P W base spare held fuel t [v] = some (d, ps)) :
    ∃ s l, nv (argN E W) v = .slice s.a s.len s.cap ∧ SlOf f sz (argS E W) s l ∧ (∀ x ∈ l, Wf x) ∧ s.len ≤ s.cap ∧ s.cap < inex ∧ ∀ a, s.a = some a → a.spot = none := by
  cases fuel with
  | zero => cases h
  | succ fuel =>
    unfold DataW.trod at h
    rw [hu] at h
    split at h <;> first | (cases (‹some (TypeDesc.slice e) = some _›); done) | (cases h; done) | skip
    · rename_i he hv
      cases hv
      exact ⟨⟨none, 0, 0⟩, [], by unfold nv; rfl, ⟨rfl, fun h => (h rfl).elim⟩, by simp, Nat.le_refl _, by decide, fun a h => by cases h⟩
    · rename_i e' a len cap he hv
      cases he
      cases hv
      split at h
      · rename_i hc
        obtain ⟨hc1, hc2, hc3⟩ := hc
        rw [hce] at h
        rw [Option.bind_eq_some_iff] at h
        obtain ⟨elems, h1, h⟩ := h
        rw [Option.map_eq_some_iff] at h
        obtain ⟨rest, h2, _⟩ := h
        rw [hsp, if_pos rfl] at h2
        obtain ⟨g1, g2⟩ := mapM_range h1
        obtain ⟨g3, g4⟩ := mapM_range h2
        have hcap : cap < inex := by
          have : cap ≤ 2 ^ 63 - 1 := hc3
          unfold inex
          omega
        by_cases h0 : cap = 0
        · subst h0
          have : len = 0 := by omega
          subst this
          exact ⟨⟨some ⟨0, 0, none⟩, 0, 0⟩, [], by unfold nv; rfl, ⟨rfl, fun h => (h rfl).elim⟩, by simp, Nat.le_refl _, by decide, fun a h => by cases h; rfl⟩
        · -- the first cell is read: the address is one
          have hat : ∀ i, i < cap → ∃ cs r, W.cells? base (a.add (i * sz)) sz = some cs ∧ DataW.trod enc P W base spare held fuel e cs = some r := by
            intro i hi
            by_cases hl : i < len
            · have := g2 i (by omega)
              rw [Option.bind_eq_some_iff] at this
              obtain ⟨cs, h5, h6⟩ := this
              exact ⟨cs, _, h5, h6⟩
            · have := g4 (i - len) (by omega)
              rw [Option.bind_eq_some_iff, show len + (i - len) = i by omega] at this
              obtain ⟨cs, h5, h6⟩ := this
              exact ⟨cs, _, h5, h6⟩
          obtain ⟨cs0, r0, h5, h6⟩ := hat 0 (by omega)
          obtain ⟨hs0, c, et, fr, hw, hA, _, _⟩ := cells_at (E := E) h5 hsz
          simp only [Nat.zero_mul, show a.add 0 = a by simp [Addr.add]] at hs0 hw hA
          obtain ⟨l, hl1, hl2⟩ := list_of (p := fun i x => Wf x ∧ ((c.toList.map (nv (argN E W))).drop (a.off + i * sz)).take sz = f x) (n := len) (fun i hi => by
            obtain ⟨cs, r, h7, h8⟩ := hat i (by omega)
            obtain ⟨_, c', et', fr', hw', hA', ht, hlen⟩ := cells_at (E := E) h7 hsz
            rw [add_off hs0] at hw' ht
            rw [hw] at hw'
            cases hw'
            obtain ⟨x, hx1, hx2⟩ := hel fuel cs r h8 hlen
            exact ⟨x, hx1, by rw [← hx2]; exact ht⟩)
          have hok : okA (argN E W) a = true := by
            have := hA.lt
            simp only [okA, hs0, Option.isNone_none, Bool.true_and]
            exact Nat.blt_eq.mpr this
          have ha : a = ⟨a.block, a.off, none⟩ := by
            obtain ⟨b, o, s⟩ := a
            simp at hs0
            rw [hs0]
          refine ⟨⟨some a, len, cap⟩, l, ?_, ⟨hl1.symm, fun _ => ⟨a.block, a.off, _, _, _, _, congrArg some ha, hA, take_flat (fun i hi => (hl2 i hi).2) hf⟩⟩, ?_, hc2, hcap, fun a' h => by cases h; exact hs0⟩
          · unfold nv
            have e1 : (Nat.beq len 0 && Nat.beq cap 0) = false := by
              rw [Bool.and_eq_false_iff]
              exact .inr (PM.beq_f h0)
            rw [e1, hok, Nat.ble_eq_true_of_le hc2, Nat.blt_eq.mpr hcap]
            rfl
          · intro x hx
            obtain ⟨i, hi, rfl⟩ := List.getElem_of_mem hx
            exact (hl2 i hi).1
      · cases h
end
section
variable {H : Type} {enc : TypeId × Value → H} {P : Program} {W : World} {base b0 : Nat} {spare : Nat → Bool} {held : Bool} {E : Env} {r : Reach}
theorem arg_slX {α : Type} {f : α → List Value} {sz : Nat} {Wf : α → Prop} (hf : ∀ x, (f x).length = sz) (hsz : 0 < sz) {t e : TypeId} (hu : P.underlying t = some (.slice e)) (hce : P.cellsOf e = sz)
    (hel : ∀ fuel cs r, DataW.trod enc P W base spare held fuel e cs = some r → cs.length = sz → ∃ x, Wf x ∧ cs.map (nv (argN E W)) = f x) (hsp : ∀ b, spare b = true)
    {v : Value} {d : DataW H} {ps : List MemPlace} (hok : Value.okWide P W r b0 t v) (h : DataW.Trod enc P W base spare held t v d ps) :
    ∃ s l, nv (argN E W) v = .slice s.a s.len s.cap ∧ SlOf f sz (argS E W) s l ∧ (∀ x ∈ l, Wf x) ∧ s.len ≤ s.cap ∧ s.cap < inex ∧ ∀ a, s.a = some a → a.spot = none := by
  obtain ⟨fuel, h⟩ := h
  rw [okWide_cell hu rfl hok] at h
  exact trod_slX hf hsz hu hce hel hsp h
end
end
end Go.Proofs.Ytcookjolkhcjhaa.D
