/- Bags: packets of their own. -/
import Derived.Test.YtcookjolkhcjhaaBag1
namespace Go.Proofs.Ytcookjolkhcjhaa
open Go Go.Proofs.Ytcookjolkhcjhaa.D
set_option linter.unusedVariables false
set_option linter.unusedSimpArgs false
noncomputable section

theorem und42b : E0.und 42 = some (.slice 5) := by kernel_rfl
theorem inf5b : E0.inf 5 = some DEnv.i5 := by kernel_rfl
theorem inf42b : E0.inf 42 = some DEnv.i42 := by kernel_rfl
theorem bytes5 : DEnv.i5.bytes = 1 := by kernel_rfl
theorem sizei5 : DEnv.i5.size = 1 := by kernel_rfl
theorem zero5 : DEnv.i5.zero = some (.int .u8 0) := by kernel_rfl
abbrev cellB (n : Int) : List Value := [.int .u8 n]
/-- Bytes in a block of their own, if there are any. -/
def Dat (N : Nat) (S : St) (s : Sl) (l : List Int) : Prop := (l = [] ∧ ∃ b, N ≤ b ∧ s = ⟨some ⟨b, 0, none⟩, 0, 0⟩ ∧ At S b (.cells [] none false none)) ∨ Gr cellB 1 N S s l
theorem Dat.down {N N' : Nat} {S : St} {s : Sl} {l : List Int} (h : Dat N S s l) (hn : N' ≤ N) : Dat N' S s l := by
  rcases h with ⟨h1, b, h2, h3⟩ | h
  · exact .inl ⟨h1, b, Nat.le_trans hn h2, h3⟩
  · exact .inr (h.down hn)
theorem Dat.of {N : Nat} {S : St} {s : Sl} {l : List Int} (h : Dat N S s l) : SlOf cellB 1 S s l := by
  rcases h with ⟨rfl, b, _, rfl, h⟩ | h
  · exact ⟨rfl, fun h => (h rfl).elim⟩
  · exact h.of fun _ => rfl
theorem eqNil (S : St) (s : Sl) : eqD E0 S 6 42 (.slice s.a s.len s.cap) (.slice none 0 0) = some s.a.isNone := by
  cases h : s.a with
  | none => kernel_rfl
  | some a => kernel_rfl
theorem oneB (l : List Int) : (l.flatMap cellB).all St.one = true := by
  induction l with
  | nil => rfl
  | cons x r ih => rw [List.flatMap_cons, List.all_append, ih]; rfl
theorem s70 {S : St} {s : Sl} {l : List Int} {k : Value → St → Prop} (h : SlOf cellB 1 S s l) (hsp : ∀ a, s.a = some a → a.spot = none) (hlen : l.length ≤ 1000000)
    (hk : ∀ s' S', Dat S.next S' s' l → Ext S S' → k (.slice s'.a s'.len s'.cap) S') : WC E0 70 [.slice s.a s.len s.cap] S k := by
  refine w70 s ?_
  unfold c70
  refine ⟨_, eqNil S s, ?_⟩
  have hf : ∀ x, (cellB x).length = 1 := fun _ => rfl
  refine ifW_of (fun hn => ?_) fun hn => ?_
  · have hl : l = [] := by
      apply Classical.byContradiction
      intro hl
      obtain ⟨b, o, cs, more, ro, fz, e, _⟩ := h.mem hl
      rw [e] at hn
      cases hn
    exact hk ⟨none, 0, 0⟩ S (.inr (.inl ⟨hl, rfl⟩)) (Mod.refl _ _)
  · refine newW_of fun b1 S1 hb1 ha1 e1 hn1 => ?_
    by_cases hl : l = []
    · subst hl
      have hsl : s.len = 0 := h.len
      refine ⟨⟨some ⟨b1, 0, none⟩, 0, 0⟩, S1, ?_, hk ⟨some ⟨b1, 0, none⟩, 0, 0⟩ S1 (.inl ⟨rfl, b1, by omega, rfl, ha1⟩) e1⟩
      have h3 : firstD S1 1 0 (.slice s.a 0 s.cap) = some [] := by
        cases ha : s.a with
        | none => rfl
        | some a =>
          obtain ⟨b, o, sp⟩ := a
          have := hsp _ ha
          cases sp with
          | none => rfl
          | some _ => cases this
      have g1 : Nat.beq (cellsOf (.int .u8 0)).length 1 = true := rfl
      have g2 : Nat.beq ([] : List Value).length (0 * 1) = true := rfl
      have g3 : Nat.ble ((0 + 0) * DEnv.i5.bytes) 17592186044416 = true := Nat.ble_eq_true_of_le (by omega)
      have g4 : Nat.ble (0 + 0) 17592186044416 = true := rfl
      have g5 : Nat.blt 0 1 = true := rfl
      have g6 : Nat.beq 0 0 = true := rfl
      simp only [appendD, und42b, inf5b, apK, cond_true, zero5, Option.bind_some, lenOfD, hsl, sizei5, h3, g1, g2, g3, g4, g5, g6, Bool.and_true, TT.enc, Ty.enc, Sc.enc]
    · obtain ⟨b, o, cs, more, ro, fz, ea, eat, ecs⟩ := h.mem hl
      have hn0 : 0 < l.length := List.length_pos_iff.2 hl
      have hsl : s.len = l.length := h.len
      have eat1 := e1.at eat
      have hfl : (l.flatMap cellB).length = l.length * 1 := flat_len hf l
      have g0 : Nat.beq (l.length * 1) 0 = false := Bool.eq_false_iff.2 fun hh => by have := Nat.eq_of_beq_eq_true hh; omega
      have g00 : Nat.beq l.length 0 = false := Bool.eq_false_iff.2 fun hh => by have := Nat.eq_of_beq_eq_true hh; omega
      have h3 : firstD S1 1 l.length (.slice s.a s.len s.cap) = some (l.flatMap cellB) := by
        rw [ea]
        simp only [firstD, g0, cond_false, St.loadN, eat1.get, ecs, hfl, Nat.beq_refl, cond_true]
      have g1 : Nat.beq (cellsOf (.int .u8 0)).length 1 = true := rfl
      have g2 : Nat.beq (l.flatMap cellB).length (l.length * 1) = true := by rw [hfl, Nat.beq_refl]
      have g3 : Nat.ble ((0 + l.length) * DEnv.i5.bytes) 17592186044416 = true := Nat.ble_eq_true_of_le (by rw [bytes5]; omega)
      have g4 : Nat.ble (0 + l.length) 17592186044416 = true := Nat.ble_eq_true_of_le (by omega)
      have g5 : Nat.blt 0 1 = true := rfl
      have g6 : Nat.beq 0 inex = false := rfl
      have g7 : Nat.ble (0 + l.length) 0 = false := Bool.eq_false_iff.2 fun hh => by have := Nat.le_of_ble_eq_true hh; omega
      have g8 : St.loadN S1 b1 0 (0 * 1) = some [] := by simp only [St.loadN, ha1.get]; rfl
      rw [hsl] at h3 ⊢
      refine ⟨⟨some ⟨S1.next, 0, none⟩, 0 + l.length, inex⟩, (S1.alloc (.cells ([] ++ l.flatMap cellB) (some 1) false none)).2, ?_, hk ⟨some ⟨S1.next, 0, none⟩, 0 + l.length, inex⟩ _ (.inr (.inr ⟨S1.next, by omega, by simp, ?_⟩)) (e1.tr alloc_ext)⟩
      · simp only [appendD, und42b, inf5b, inf42b, apK, cond_true, zero5, Option.bind_some, lenOfD, sizei5, h3, g00, g1, g2, g3, g4, g5, g6, g7, g8, cond_false, Bool.and_true, TT.enc, Ty.enc, Sc.enc, Option.map_some]
      · rw [List.nil_append]; exact alloc_at
theorem mod_dat {N : Nat} {F : Nat → Prop} {S S' : St} {s : Sl} {l : List Int} (h : Mod F S S') (hs : Dat N S s l) (hn : ∀ b, N ≤ b → b < S.next → ¬ F b) : Dat N S' s l := by
  rcases hs with ⟨h1, b, h2, h3, h4⟩ | h1
  · exact .inl ⟨h1, b, h2, h3, h.at h4 (hn b h2 h4.lt)⟩
  · exact .inr (h.gr h1 hn)
/-- A packet's twin. -/
theorem s58 {S : St} {x : Flt} {l : List Int} {k : Value → St → Prop} (h : SlOf cellB 1 S x.2.2.2.1 l) (hsp : ∀ a, x.2.2.2.1.a = some a → a.spot = none) (hlen : l.length ≤ 1000000)
    (hk : ∀ d N S', S.next ≤ N → Dat N S' d l → Ext S S' → k (sv G66 (x.1, x.2.1, x.2.2.1, d, x.2.2.2.2)) S') : WC E0 58 [sv G66 x] S k := by
  refine w58 x ?_
  unfold c58
  have hL := Hld.start noB S
  refine hL.new fun b1 S1 hL hb1 hn1 => ?_
  refine hL.new fun b2 S2 hL hb2 hn2 => ?_
  refine ptrW_of ?_
  (first | refine hL.ld 0 rfl (by kernel_rfl) _ rfl ?_ | refine hL.ld 1 rfl (by kernel_rfl) _ rfl ?_ | refine hL.ld 2 rfl (by kernel_rfl) _ rfl ?_ | refine hL.ld 3 rfl (by kernel_rfl) _ rfl ?_ | refine hL.ld 4 rfl (by kernel_rfl) _ rfl ?_ | refine hL.ld 5 rfl (by kernel_rfl) _ rfl ?_ | refine hL.ld 6 rfl (by kernel_rfl) _ rfl ?_ | refine hL.ld 7 rfl (by kernel_rfl) _ rfl ?_ | refine hL.lda 0 rfl (by kernel_rfl) _ rfl ?_ | refine hL.lda 1 rfl (by kernel_rfl) _ rfl ?_ | refine hL.lda 2 rfl (by kernel_rfl) _ rfl ?_ | refine hL.lda 3 rfl (by kernel_rfl) _ rfl ?_ | refine hL.lda 4 rfl (by kernel_rfl) _ rfl ?_ | refine hL.lda 5 rfl (by kernel_rfl) _ rfl ?_ | refine hL.lda 6 rfl (by kernel_rfl) _ rfl ?_ | refine hL.lda 7 rfl (by kernel_rfl) _ rfl ?_)
  refine evC_of (s70 (s := x.2.2.2.1) (hL.mod.slOf h fun _ _ _ _ h => h) hsp hlen fun d S3 hd e3 => ⟨_, rfl, ?_⟩)
  have hL3 := hL.ext e3
  have hL := hL3.re
  refine ptrW_of ?_
  (first | refine hL.st 0 _ rfl (by kernel_rfl) rfl (Nat.le_of_ble_eq_true rfl) rfl rfl fun S' hL hn' => ?_ | refine hL.st 1 _ rfl (by kernel_rfl) rfl (Nat.le_of_ble_eq_true rfl) rfl rfl fun S' hL hn' => ?_ | refine hL.st 2 _ rfl (by kernel_rfl) rfl (Nat.le_of_ble_eq_true rfl) rfl rfl fun S' hL hn' => ?_ | refine hL.st 3 _ rfl (by kernel_rfl) rfl (Nat.le_of_ble_eq_true rfl) rfl rfl fun S' hL hn' => ?_ | refine hL.st 4 _ rfl (by kernel_rfl) rfl (Nat.le_of_ble_eq_true rfl) rfl rfl fun S' hL hn' => ?_ | refine hL.st 5 _ rfl (by kernel_rfl) rfl (Nat.le_of_ble_eq_true rfl) rfl rfl fun S' hL hn' => ?_ | refine hL.st 6 _ rfl (by kernel_rfl) rfl (Nat.le_of_ble_eq_true rfl) rfl rfl fun S' hL hn' => ?_ | refine hL.st 7 _ rfl (by kernel_rfl) rfl (Nat.le_of_ble_eq_true rfl) rfl rfl fun S' hL hn' => ?_)
  (first | refine hL.ld 0 rfl (by kernel_rfl) _ rfl ?_ | refine hL.ld 1 rfl (by kernel_rfl) _ rfl ?_ | refine hL.ld 2 rfl (by kernel_rfl) _ rfl ?_ | refine hL.ld 3 rfl (by kernel_rfl) _ rfl ?_ | refine hL.ld 4 rfl (by kernel_rfl) _ rfl ?_ | refine hL.ld 5 rfl (by kernel_rfl) _ rfl ?_ | refine hL.ld 6 rfl (by kernel_rfl) _ rfl ?_ | refine hL.ld 7 rfl (by kernel_rfl) _ rfl ?_ | refine hL.lda 0 rfl (by kernel_rfl) _ rfl ?_ | refine hL.lda 1 rfl (by kernel_rfl) _ rfl ?_ | refine hL.lda 2 rfl (by kernel_rfl) _ rfl ?_ | refine hL.lda 3 rfl (by kernel_rfl) _ rfl ?_ | refine hL.lda 4 rfl (by kernel_rfl) _ rfl ?_ | refine hL.lda 5 rfl (by kernel_rfl) _ rfl ?_ | refine hL.lda 6 rfl (by kernel_rfl) _ rfl ?_ | refine hL.lda 7 rfl (by kernel_rfl) _ rfl ?_)
  (first | refine hL.st 0 _ rfl (by kernel_rfl) rfl (Nat.le_of_ble_eq_true rfl) rfl rfl fun S' hL hn' => ?_ | refine hL.st 1 _ rfl (by kernel_rfl) rfl (Nat.le_of_ble_eq_true rfl) rfl rfl fun S' hL hn' => ?_ | refine hL.st 2 _ rfl (by kernel_rfl) rfl (Nat.le_of_ble_eq_true rfl) rfl rfl fun S' hL hn' => ?_ | refine hL.st 3 _ rfl (by kernel_rfl) rfl (Nat.le_of_ble_eq_true rfl) rfl rfl fun S' hL hn' => ?_ | refine hL.st 4 _ rfl (by kernel_rfl) rfl (Nat.le_of_ble_eq_true rfl) rfl rfl fun S' hL hn' => ?_ | refine hL.st 5 _ rfl (by kernel_rfl) rfl (Nat.le_of_ble_eq_true rfl) rfl rfl fun S' hL hn' => ?_ | refine hL.st 6 _ rfl (by kernel_rfl) rfl (Nat.le_of_ble_eq_true rfl) rfl rfl fun S' hL hn' => ?_ | refine hL.st 7 _ rfl (by kernel_rfl) rfl (Nat.le_of_ble_eq_true rfl) rfl rfl fun S' hL hn' => ?_)
  (first | refine hL.ld 0 rfl (by kernel_rfl) _ rfl ?_ | refine hL.ld 1 rfl (by kernel_rfl) _ rfl ?_ | refine hL.ld 2 rfl (by kernel_rfl) _ rfl ?_ | refine hL.ld 3 rfl (by kernel_rfl) _ rfl ?_ | refine hL.ld 4 rfl (by kernel_rfl) _ rfl ?_ | refine hL.ld 5 rfl (by kernel_rfl) _ rfl ?_ | refine hL.ld 6 rfl (by kernel_rfl) _ rfl ?_ | refine hL.ld 7 rfl (by kernel_rfl) _ rfl ?_ | refine hL.lda 0 rfl (by kernel_rfl) _ rfl ?_ | refine hL.lda 1 rfl (by kernel_rfl) _ rfl ?_ | refine hL.lda 2 rfl (by kernel_rfl) _ rfl ?_ | refine hL.lda 3 rfl (by kernel_rfl) _ rfl ?_ | refine hL.lda 4 rfl (by kernel_rfl) _ rfl ?_ | refine hL.lda 5 rfl (by kernel_rfl) _ rfl ?_ | refine hL.lda 6 rfl (by kernel_rfl) _ rfl ?_ | refine hL.lda 7 rfl (by kernel_rfl) _ rfl ?_)
  refine hk d S2.next _ (by omega) (mod_dat hL.mod hd fun b hb _ hm => ?_) (hL3.back hL.mod)
  simp only [List.map_cons, List.map_nil, List.mem_cons, List.not_mem_nil, or_false] at hm
  omega
end
end Go.Proofs.Ytcookjolkhcjhaa
