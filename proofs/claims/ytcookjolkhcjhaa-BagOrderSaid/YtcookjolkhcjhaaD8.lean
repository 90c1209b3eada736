/-
  D, part 8: one operation of D, and the model's: slice expressions, conversions, maps.
-/
import Derived.Test.YtcookjolkhcjhaaD7
namespace Go.Proofs.Ytcookjolkhcjhaa.D
set_option linter.unusedSectionVars false

section
variable {E : Env} {P : Program} (hE : E.Ok P) {m : Mp} {S : St} {w : World} (hH : HR E m S w)
include hE hH

theorem moreIs_sz {b s : Nat} {x : BM} (h : moreIs S b s = true) (hm : m b = some x) : x.sz = s := by
  unfold moreIs at h
  split at h
  · rename_i cs z ro fz hg
    obtain ⟨y, ccs, e, fr, h1, _, _, _, _, _, h2⟩ := hH.cells hg
    rw [hm] at h1; cases h1
    rw [h2 z rfl]; exact Nat.eq_of_beq_eq_true h
  · cases h

theorem roomD_le {b o s c : Nat} {x : BM} (hm : m b = some x) (ht : x.base + o + c * x.sz = x.tot) : roomD S b o s ≤ c := by
  unfold roomD
  split
  · rename_i cs z ro fz hg
    obtain ⟨y, ccs, e, fr, h1, _, h3, h4, _, _, h2⟩ := hH.cells hg
    rw [hm] at h1; cases h1
    have hz := h2 z rfl
    cases hc : (Nat.beq z s && Nat.blt 0 s) with
    | false => exact Nat.zero_le _
    | true =>
      simp only [Bool.and_eq_true] at hc
      have e1 := Nat.eq_of_beq_eq_true hc.1
      have e2 := Nat.blt_eq.mp hc.2
      show (cs.length - o) / s ≤ c
      rw [hz, e1] at ht
      have : cs.length - o ≤ c * s := by omega
      calc (cs.length - o) / s ≤ (c * s) / s := Nat.div_le_div_right this
        _ = c := Nat.mul_div_cancel _ e2
  · exact Nat.zero_le _
theorem kcapD_slx {b o s len c : Nat} {x : BM} (hm : m b = some x) (hl : len ≤ c) (ht : x.base + o + c * x.sz = x.tot) : kcapD S s (some ⟨b, o, none⟩) len inex ≤ c := by
  have hbe : Nat.beq inex inex = true := by simp
  unfold kcapD
  rw [hbe]
  exact Nat.max_le.2 ⟨hl, roomD_le hE hH hm ht⟩
theorem kcapD_sle {b o s : Nat} {x : BM} (hm : m b = some x) (ht : x.base + o = x.tot) : kcapD S s (some ⟨b, o, none⟩) 0 inex = 0 :=
  Nat.le_zero.1 (kcapD_slx hE hH hm (Nat.le_refl _) (by rw [← ht]; omega))
omit hE hH in
theorem kcapD_ne {s len c : Nat} {a : Option Addr} (h : c ≠ inex) : kcapD S s a len c = c := by
  unfold kcapD; rw [PM.beq_f h]; rfl

theorem sliceD_sim {t : TypeId} {x x' v : Value} {lo lo' hi hi' mx mx' : Option Value} (h : sliceD E S t x lo hi mx = some v) (hx : VR m x x') (hlo : VRo m lo lo') (hhi : VRo m hi hi') (hmx : VRo m mx mx') :
    SV P m w (Instr.sliceAt t x' lo' hi' mx') v := by
  unfold sliceD at h
  split at h
  · rename_i hu
    obtain ⟨d, hd, hu⟩ := und_of hE hH hu
    split at h
    · rename_i s
      cases hx
      cases mx' with
      | some _ => cases hmx
      | none =>
        simp only [Option.bind_eq_some_iff] at h
        obtain ⟨H, h1, L, h2, h3⟩ := h
        obtain ⟨h4, h5⟩ := cond_some h3
        simp only [Bool.and_eq_true, Nat.ble_eq] at h4
        cases h5
        have hlen : s.data.toList.length = s.size := Array.length_toList
        have hb := sliceBounds_run (P := P) (w := w) (isS := false) (len := s.size) (cap := s.size) (known := s.size) (mx := none) (mx' := none) (M := s.size) hlo hhi trivial rfl
          (by rw [← hlen]; exact h1) h2 (Nat.le_refl _) (by omega) h4.2 (Nat.le_refl _)
        refine ⟨.string (s.extract L H), ?_, ?_⟩
        · simp only [Instr.sliceAt, Sem.run_bind, run_und hE hd w, hu, Result.andThen_ok, Instr.slice, hb, Option.isSome_none, Bool.false_eq_true, if_false, Sem.run_pure]
        · have : (⟨((s.data.toList.drop L).take (H - L)).toArray⟩ : ByteArray) = s.extract L H := by
            apply ByteArray.ext; apply Array.ext'; simp [Array.toList_extract, List.extract_eq_take_drop]
          rw [this]; exact .string _
    · cases h
  · rename_i e hu
    obtain ⟨d, hd, hu⟩ := und_of hE hH hu
    rw [Option.bind_eq_some_iff] at h
    obtain ⟨s, hs, h⟩ := h
    obtain ⟨de, hde, rfl⟩ := size_of hE hH hs
    split at h
    · rename_i a len cap
      simp only [Option.bind_eq_some_iff] at h
      obtain ⟨M, h0, H, h1, L, h2, h3⟩ := h
      obtain ⟨h4, h5⟩ := cond_some h3
      clear h3
      simp only [Bool.and_eq_true, Nat.ble_eq, Nat.blt_eq] at h4
      obtain ⟨⟨⟨h4, h6⟩, h7⟩, h8⟩ := h4
      have run : ∀ (a' : Option Addr) (cap' : Nat), kcapD S de.size a len cap ≤ cap' →
          (Instr.sliceAt t (.slice a' len cap') lo' hi' mx').run P w =
            .ok (.slice (if (if mx.isSome then M else cap') = L then a' else a'.map (·.add (L * de.size))) (H - L) ((if mx.isSome then M else cap') - L)) w := by
        intro a' cap' hk
        have hb := sliceBounds_run (P := P) (w := w) (isS := true) (len := len) (cap := cap') hlo hhi hmx h0 h1 h2 h4 h6 h7 hk
        simp only [Instr.sliceAt, Sem.run_bind, run_und hE hd w, hu, Result.andThen_ok, Instr.slice, hb, run_size hE hde w, Sem.run_pure]
      have nat : ∀ (y : BM) (o : Nat), Addr.add ⟨y.blk, y.base + o, none⟩ (L * de.size) = ⟨y.blk, y.base + (o + L * de.size), none⟩ := by
        intro y o
        unfold Addr.add; split
        · rename_i h0; simp [h0]
        · simp [Nat.add_assoc]
      cases a with
      | none =>
        cases h5
        cases hx
        have ec : kcapD S de.size none 0 0 = 0 := kcapD_ne (by decide)
        have := run none 0 (by rw [ec]; exact Nat.le_refl _)
        refine ⟨_, this, ?_⟩
        have e0 : M = 0 ∧ H = 0 ∧ L = 0 := by
          rw [ec] at h4
          omega
        obtain ⟨rfl, rfl, rfl⟩ := e0
        simp
        exact .nils
      | some a =>
        obtain ⟨b, o, sp⟩ := a
        cases sp with
        | some _ => cases h5
        | none =>
          dsimp only at h5
          cases hc : (Nat.beq cap inex && mx.isNone) with
          | true =>
            rw [hc] at h5
            obtain ⟨h9, h10⟩ := cond_some h5
            cases h10
            simp only [Bool.and_eq_true] at hc
            have ec := Nat.eq_of_beq_eq_true hc.1
            subst ec
            have hmn : mx.isSome = false := by cases mx <;> simp_all
            simp only [hmn, Bool.false_eq_true, if_false] at run
            have hM : M = kcapD S de.size (some ⟨b, o, none⟩) len inex := by
              cases mx with
              | none => simp only [optNat, Option.some.injEq] at h0; exact h0.symm
              | some _ => simp at hmn
            cases hx with
            | sl _ _ _ _ y hy hne _ => exact absurd rfl hne
            | slx _ _ _ cap' y hy hle htot =>
              have hsz := moreIs_sz hE hH h9 hy
              have hcl := kcapD_slx (s := de.size) hE hH hy hle htot
              refine ⟨_, run _ cap' hcl, ?_⟩
              by_cases hcl : cap' = L
              · rw [if_pos hcl]
                have e1 : H - L = 0 := by omega
                have e2 : cap' - L = 0 := by omega
                rw [e1, e2]
                exact .sle b _ _ y hy (by rw [← htot, hsz, hcl]; omega)
              · rw [if_neg hcl]
                simp only [Option.map_some, nat]
                refine .slx b _ _ _ y hy (by omega) ?_
                rw [← htot, hsz, Nat.sub_mul]
                have : L * de.size ≤ cap' * de.size := Nat.mul_le_mul_right _ (by omega)
                omega
            | sle _ _ a' y hy htot =>
              have ec := kcapD_sle (s := de.size) hE hH hy htot
              rw [ec] at hM run
              have e0 : H = 0 ∧ L = 0 := by omega
              obtain ⟨rfl, rfl⟩ := e0
              refine ⟨_, run _ 0 (Nat.le_refl _), ?_⟩
              simp
              exact .sle b o a' y hy htot
          | false =>
            rw [hc] at h5
            simp only [cond_false, Option.some.injEq] at h5
            subst h5
            have key : ∀ (y : BM) (cap' : Nat), m b = some y → (if mx.isSome then M else cap') = M → kcapD S de.size (some ⟨b, o, none⟩) len cap ≤ cap' →
                SV P m w (Instr.sliceAt t (.slice (some ⟨y.blk, y.base + o, none⟩) len cap') lo' hi' mx') (.slice (some ⟨b, cond (Nat.beq M L) o (o + L * de.size), none⟩) (H - L) (M - L)) := by
              intro y cap' hy hMM hk
              refine ⟨_, run _ cap' hk, ?_⟩
              rw [hMM]
              by_cases hml : M = L
              · subst hml
                rw [if_pos rfl]
                have : Nat.beq M M = true := by simp
                rw [this]
                exact .sl b o _ _ y hy (by unfold inex; omega) (by omega)
              · rw [if_neg hml, PM.beq_f hml]
                simp only [Option.map_some, nat, cond_false]
                exact .sl b _ _ _ y hy (by omega) (by omega)
            cases hx with
            | sl _ _ _ _ y hy hne hle =>
              refine key y cap hy ?_ (by rw [kcapD_ne hne]; exact Nat.le_refl _)
              cases mx with
              | some _ => rfl
              | none =>
                rw [kcapD_ne hne] at h0
                simp only [optNat, Option.some.injEq] at h0
                simpa using h0
            | slx _ _ _ cap' y hy hle htot =>
              have hbe : Nat.beq inex inex = true := by simp
              refine key y cap' hy ?_ (kcapD_slx hE hH hy hle htot)
              cases mx with
              | some _ => rfl
              | none => rw [hbe] at hc; cases hc
            | slz _ _ a' =>
              have ec : kcapD S de.size (some ⟨b, o, none⟩) 0 0 = 0 := kcapD_ne (by decide)
              rw [ec] at h4
              have e0 : M = 0 ∧ H = 0 ∧ L = 0 := by omega
              obtain ⟨rfl, rfl, rfl⟩ := e0
              refine ⟨_, run _ 0 (by rw [ec]; exact Nat.le_refl _), ?_⟩
              simp
              exact .slz b o a'
            | sle _ _ a' y hy htot =>
              have hbe : Nat.beq inex inex = true := by simp
              have ec := kcapD_sle (s := de.size) hE hH hy htot
              rw [ec] at h4
              have e0 : M = 0 ∧ H = 0 ∧ L = 0 := by omega
              obtain ⟨rfl, rfl, rfl⟩ := e0
              cases mx with
              | none => rw [hbe] at hc; cases hc
              | some u =>
                refine ⟨_, run _ 0 (by rw [ec]; exact Nat.le_refl _), ?_⟩
                simp
                exact .slz b o a'
    · cases h
  · cases h
end

end Go.Proofs.Ytcookjolkhcjhaa.D
