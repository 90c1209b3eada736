/- Parts of the proof, put together. -/
import Derived.Test.YtcookjolkhcjhaaCA
import Derived.Test.YtcookjolkhcjhaaDD
/- Bags: packets, and one that is taken out of a list. -/
namespace Go.Proofs.Ytcookjolkhcjhaa
open Go Go.Proofs.Ytcookjolkhcjhaa.D
set_option linter.unusedVariables false
set_option linter.unusedSimpArgs false
noncomputable section

theorem und55 : E0.und 55 = some (.slice 67) := by kernel_rfl
theorem inf67 : E0.inf 67 = some DEnv.i67 := by kernel_rfl
theorem size67 : E0.size 67 = some 5 := by kernel_rfl
theorem bytes67 : DEnv.i67.bytes = 56 := by kernel_rfl
abbrev zeroF : Value := .agg #[.int .i64 0, .int .i64 0, .int .i64 0, .slice none 0 0, .bool false]
theorem zero67 : DEnv.i67.zero = some zeroF := by kernel_rfl
/-- A packet, as cells: its number, from, to, its bytes' slice, spoilt? -/
abbrev Flt := Int × Int × Int × Sl × Bool
abbrev cellsF (x : Flt) : List Value := [.int .i64 x.1, .int .i64 x.2.1, .int .i64 x.2.2.1, .slice x.2.2.2.1.a x.2.2.2.1.len x.2.2.2.1.cap, .bool x.2.2.2.2]
abbrev Fls (N : Nat) (S : St) (s : Sl) (l : List Flt) : Prop := GrX cellsF 5 N S s l
theorem oneF (l : List Flt) : (l.flatMap cellsF).all St.one = true := by
  induction l with
  | nil => rfl
  | cons x r ih => rw [List.flatMap_cons, List.all_append, ih]; rfl

/-- Delete's append: what stands behind place i comes one place nearer. -/
theorem del_append {S : St} {b i : Nat} {l : List Flt} {rest : List Value} (hat : At S b (.cells (l.flatMap cellsF ++ rest) (some 5) false none)) (hi : i < l.length) (hlen : l.length ≤ 256) :
    ∃ S' rest', appendD E0 S 55 55 (.slice (some ⟨b, 0, none⟩) i inex) (.slice (some ⟨b, 0 + (i + 1) * 5, none⟩) (l.length - (i + 1)) inex) = some (.slice (some ⟨b, 0, none⟩) (l.length - 1) inex, S')
      ∧ At S' b (.cells ((l.eraseIdx i).flatMap cellsF ++ rest') (some 5) false none) ∧ Mod (fun c => c = b) S S' ∧ S'.next = S.next ∧ rest'.length = rest.length + 5 := by
  have hf : ∀ x, (cellsF x).length = 5 := fun _ => rfl
  have hel : (l.eraseIdx i).length = l.length - 1 := List.length_eraseIdx_of_lt hi
  have hcs : (l.flatMap cellsF ++ rest).length = l.length * 5 + rest.length := by rw [List.length_append, flat_len hf]
  have h1 : Nat.beq (cellsOf zeroF).length 5 = true := by rfl
  have e0 : DEnv.i67.size = 5 := by kernel_rfl
  have h2 : Nat.blt 0 5 = true := rfl
  by_cases hn : l.length - (i + 1) = 0
  · have e : l.eraseIdx i = l.take i := by
      rw [List.eraseIdx_eq_take_drop_succ, List.drop_of_length_le (by omega), List.append_nil]
    refine ⟨S, (l.drop i).flatMap cellsF ++ rest, ?_, ?_, Mod.refl _ _, rfl, ?_⟩
    · have e1 : l.length - 1 = i := by omega
      have h3 : Nat.ble (i * DEnv.i67.bytes) 17592186044416 = true := Nat.ble_eq_true_of_le (by rw [bytes67]; omega)
      have h4 : Nat.ble i 17592186044416 = true := Nat.ble_eq_true_of_le (by omega)
      have h5 : Nat.beq ([] : List Value).length (0 * 5) = true := rfl
      simp only [hn, e1, appendD, und55, inf67, apK, cond_true, zero67, Option.bind_some, lenOfD, firstD, e0, Nat.zero_mul, Nat.beq_refl, h1, h2, h3, h4, List.length_nil, Bool.and_true, Nat.sub_zero, Nat.add_zero]
    · rw [e, ← List.append_assoc, ← List.flatMap_append, List.take_append_drop]; exact hat
    · rw [List.length_append, flat_len hf, List.length_drop]; omega
  · have hn' : Nat.beq ((l.length - (i + 1)) * 5) 0 = false := Bool.eq_false_iff.2 fun hh => by have := Nat.eq_of_beq_eq_true hh; omega
    have hn2 : Nat.beq (l.length - (i + 1)) 0 = false := Bool.eq_false_iff.2 fun hh => hn (Nat.eq_of_beq_eq_true hh)
    have hld : (((l.flatMap cellsF ++ rest).drop (0 + (i + 1) * 5)).take ((l.length - (i + 1)) * 5)) = (l.drop (i + 1)).flatMap cellsF := by
      rw [Nat.zero_add, List.drop_append_of_le_length (by rw [flat_len hf]; omega), flat_drop hf, List.take_append_of_le_length (by rw [flat_len hf, List.length_drop]; exact Nat.le_refl _), List.take_of_length_le (by rw [flat_len hf, List.length_drop]; exact Nat.le_refl _)]
    have hdl : ((l.drop (i + 1)).flatMap cellsF).length = (l.length - (i + 1)) * 5 := by rw [flat_len hf, List.length_drop]
    have h3 : Nat.ble ((i + (l.length - (i + 1))) * DEnv.i67.bytes) 17592186044416 = true := Nat.ble_eq_true_of_le (by rw [bytes67]; omega)
    have h4 : Nat.ble (i + (l.length - (i + 1))) 17592186044416 = true := Nat.ble_eq_true_of_le (by omega)
    have h6 : Nat.ble (0 + (i + (l.length - (i + 1))) * 5) (l.flatMap cellsF ++ rest).length = true := Nat.ble_eq_true_of_le (by rw [hcs]; omega)
    have h7 : Nat.ble (0 + i * 5 + (l.length - (i + 1)) * 5) (l.flatMap cellsF ++ rest).length = true := Nat.ble_eq_true_of_le (by rw [hcs]; omega)
    have e1 : i + (l.length - (i + 1)) = l.length - 1 := by omega
    rw [e1] at h3 h4 h6
    refine ⟨S.upd b (.cells ((l.flatMap cellsF ++ rest).take (0 + i * 5) ++ ((l.drop (i + 1)).flatMap cellsF ++ (l.flatMap cellsF ++ rest).drop (0 + i * 5 + (l.length - (i + 1)) * 5))) (some 5) false none), (l.flatMap cellsF ++ rest).drop (0 + i * 5 + (l.length - (i + 1)) * 5), ?_, ?_, upd_mod, rfl, ?_⟩
    · simp only [appendD, und55, inf67, apK, cond_true, zero67, Option.bind_some, lenOfD, firstD, e0, hn', hn2, cond_false, St.loadN, hat.get, hld, hdl, Nat.beq_refl, h1, h2, h3, h4, Bool.and_true, h6, St.storeN, Bool.not_false, h7, oneF, St.fzOk, Option.map_some, Bool.true_and, e1]
    · have e2 : l.eraseIdx i = l.take i ++ l.drop (i + 1) := List.eraseIdx_eq_take_drop_succ ..
      rw [e2, List.flatMap_append, List.append_assoc]
      have e3 : (l.flatMap cellsF ++ rest).take (0 + i * 5) = (l.take i).flatMap cellsF := by
        have : l.flatMap cellsF = (l.take i).flatMap cellsF ++ (l.drop i).flatMap cellsF := by rw [← List.flatMap_append, List.take_append_drop]
        rw [this, List.append_assoc, Nat.zero_add, List.take_left' (by rw [flat_len hf, List.length_take]; omega)]
      rw [← e3]
      exact upd_at hat
    · rw [List.length_drop, hcs]; omega
/-- One is taken out. -/
theorem s68 {N : Nat} {S : St} {s : Sl} {l : List Flt} {i : Nat} {k : Value → St → Prop} (h : Fls N S s l) (hi : i < l.length) (hlen : l.length ≤ 256)
    (hk : ∀ s' S', Fls N S' s' (l.eraseIdx i) → Mod (fun b => N ≤ b ∧ s.a = some ⟨b, 0, none⟩) S S' → s'.a = s.a → S'.next = S.next → k (.slice s'.a s'.len s'.cap) S') :
    WC E0 68 [.slice s.a s.len s.cap, .int .i64 (i : Int), .int .i64 ((i + 1 : Nat) : Int)] S k := by
  refine w68 s _ _ ?_
  unfold c68
  rcases h with ⟨rfl, rfl⟩ | ⟨b, rest, hN, rfl, hat, hlt⟩
  · cases hi
  have hf : ∀ x, (cellsF x).length = 5 := fun _ => rfl
  have hcs : (l.flatMap cellsF ++ rest).length = l.length * 5 + rest.length := by rw [List.length_append, flat_len hf]
  have hr := roomD_at (o := 0) hat (by omega)
  rw [hcs] at hr
  have hroom : Nat.max l.length (roomD S b 0 5) < inex := by
    show max l.length (roomD S b 0 5) < inex
    have : (l.length * 5 + rest.length - 0) / 5 ≤ l.length * 5 + rest.length := by omega
    omega
  have hmx : l.length ≤ Nat.max l.length (roomD S b 0 5) := Nat.le_max_left _ _
  refine evV_of ⟨_, _, _⟩ (sliceD_grow3 (lo := i) (hi := i + 1) (mx := l.length) und55 size67 hat rfl (natOf_int (k := .i64)) (natOf_int (k := .i64)) (natOf_int (k := .i64)) (by omega) (by omega) hmx (by omega)) ?_
  refine ifW_neg (by omega) ?_
  refine evV_of ⟨_, _, _⟩ (sliceD_grow (lo := 0) (hi := i) und55 size67 hat rfl (natOf_int (k := .i64)) (by omega) (Nat.le_trans (by omega : i ≤ l.length) hmx) hroom) ?_
  refine evV_of ⟨_, _, _⟩ (sliceD_grow (lo := i + 1) (hi := l.length) und55 size67 hat (natOf_int (k := .i64)) rfl (by omega) hmx hroom) ?_
  obtain ⟨S1, rest1, happ, hat1, hm1, hn1, hr1⟩ := del_append hat hi hlen
  refine ⟨⟨_, _, _⟩, S1, happ, ?_⟩
  have hel : (l.eraseIdx i).length = l.length - 1 := List.length_eraseIdx_of_lt hi
  have hcs1 : ((l.eraseIdx i).flatMap cellsF ++ rest1).length = (l.length - 1) * 5 + rest1.length := by rw [List.length_append, flat_len hf, hel]
  have hr2 := roomD_at (o := 0) hat1 (by omega)
  rw [hcs1] at hr2
  have hge : l.length ≤ roomD S1 b 0 5 := by rw [hr2]; omega
  have hroom1 : Nat.max (l.length - 1) (roomD S1 b 0 5) < inex := by
    show max (l.length - 1) (roomD S1 b 0 5) < inex
    omega
  refine evV_of ⟨_, _, _⟩ (sliceD_grow (lo := l.length - 1) (hi := l.length) und55 size67 hat1 (natOf_int (k := .i64)) (natOf_int (k := .i64)) (by omega) (Nat.le_trans hge (Nat.le_max_right _ _)) hroom1) ?_
  have e1 : l.length - (l.length - 1) = 1 := by omega
  have hz : zerosD (cellsOf zeroF) 1 = cellsF (0, 0, 0, ⟨none, 0, 0⟩, false) := rfl
  have hone : (cellsF (0, 0, 0, ⟨none, 0, 0⟩, false)).all St.one = true := rfl
  have hle : Nat.ble (0 + (l.length - 1) * 5 + 5) ((l.eraseIdx i).flatMap cellsF ++ rest1).length = true := Nat.ble_eq_true_of_le (by rw [hcs1]; omega)
  have hlen5 : (cellsF (0, 0, 0, ⟨none, 0, 0⟩, false)).length = 5 := rfl
  have hb0 : Nat.beq 1 0 = false := rfl
  have hres : ((l.eraseIdx i).flatMap cellsF ++ rest1).take (0 + (l.length - 1) * 5) ++ (cellsF (0, 0, 0, ⟨none, 0, 0⟩, false) ++ ((l.eraseIdx i).flatMap cellsF ++ rest1).drop (0 + (l.length - 1) * 5 + 5)) = (l.eraseIdx i).flatMap cellsF ++ (cellsF (0, 0, 0, ⟨none, 0, 0⟩, false) ++ rest1.drop 5) := by
    have h5 : ((l.eraseIdx i).flatMap cellsF).length = 0 + (l.length - 1) * 5 := by rw [flat_len hf, hel]; omega
    rw [List.take_left' h5, ← List.drop_drop, List.drop_left' h5]
  refine ⟨S1.upd b (.cells ((l.eraseIdx i).flatMap cellsF ++ (cellsF (0, 0, 0, ⟨none, 0, 0⟩, false) ++ rest1.drop 5)) (some 5) false none), ?_, ?_⟩
  · simp only [clearD, und55, inf67, zero67, Option.bind_some, e1, hb0, cond_false, hz, St.storeN, hat1.get, hlen5, hle, hone, St.fzOk, Bool.not_false, Bool.and_true, cond_true, hres]
  · refine hk ⟨some ⟨b, 0, none⟩, l.length - 1, inex⟩ _ (.inr ⟨b, _, hN, by rw [hel], upd_at hat1, ?_⟩) ?_ rfl hn1
    · rw [hel, List.length_append, List.length_drop, hlen5]; omega
    · exact (hm1.trans upd_mod fun c hc _ => hc).mono fun c hc _ => by subst hc; exact ⟨hN, rfl⟩
end
end Go.Proofs.Ytcookjolkhcjhaa

/- Bags: packets of their own. -/
namespace Go.Proofs.Ytcookjolkhcjhaa
open Go Go.Proofs.Ytcookjolkhcjhaa.D
set_option linter.unusedVariables false
set_option linter.unusedSimpArgs false
noncomputable section

theorem und42b : E0.und 42 = some (.slice 5) := by kernel_rfl
theorem inf5b : E0.inf 5 = some DEnv.i5 := by kernel_rfl
theorem inf42b : E0.inf 42 = some DEnv.i42 := by kernel_rfl
theorem bytes5 : DEnv.i5.bytes = 1 := by kernel_rfl
theorem sizei5 : DEnv.i5.size = 1 := by kernel_rfl
theorem zero5 : DEnv.i5.zero = some (.int .u8 0) := by kernel_rfl
abbrev cellB (n : Int) : List Value := [.int .u8 n]
/-- Bytes in a block of their own, if there are any. -/
def Dat (N : Nat) (S : St) (s : Sl) (l : List Int) : Prop := (l = [] ∧ ∃ b, N ≤ b ∧ s = ⟨some ⟨b, 0, none⟩, 0, 0⟩ ∧ At S b (.cells [] none false none)) ∨ Gr cellB 1 N S s l
theorem Dat.down {N N' : Nat} {S : St} {s : Sl} {l : List Int} (h : Dat N S s l) (hn : N' ≤ N) : Dat N' S s l := by
  rcases h with ⟨h1, b, h2, h3⟩ | h
  · exact .inl ⟨h1, b, Nat.le_trans hn h2, h3⟩
  · exact .inr (h.down hn)
theorem Dat.of {N : Nat} {S : St} {s : Sl} {l : List Int} (h : Dat N S s l) : SlOf cellB 1 S s l := by
  rcases h with ⟨rfl, b, _, rfl, h⟩ | h
  · exact ⟨rfl, fun h => (h rfl).elim⟩
  · exact h.of fun _ => rfl
theorem eqNil (S : St) (s : Sl) : eqD E0 S 6 42 (.slice s.a s.len s.cap) (.slice none 0 0) = some s.a.isNone := by
  cases h : s.a with
  | none => kernel_rfl
  | some a => kernel_rfl
theorem oneB (l : List Int) : (l.flatMap cellB).all St.one = true := by
  induction l with
  | nil => rfl
  | cons x r ih => rw [List.flatMap_cons, List.all_append, ih]; rfl
theorem s70 {S : St} {s : Sl} {l : List Int} {k : Value → St → Prop} (h : SlOf cellB 1 S s l) (hsp : ∀ a, s.a = some a → a.spot = none) (hlen : l.length ≤ 1000000)
    (hk : ∀ s' S', Dat S.next S' s' l → Ext S S' → k (.slice s'.a s'.len s'.cap) S') : WC E0 70 [.slice s.a s.len s.cap] S k := by
  refine w70 s ?_
  unfold c70
  refine ⟨_, eqNil S s, ?_⟩
  have hf : ∀ x, (cellB x).length = 1 := fun _ => rfl
  refine ifW_of (fun hn => ?_) fun hn => ?_
  · have hl : l = [] := by
      apply Classical.byContradiction
      intro hl
      obtain ⟨b, o, cs, more, ro, fz, e, _⟩ := h.mem hl
      rw [e] at hn
      cases hn
    exact hk ⟨none, 0, 0⟩ S (.inr (.inl ⟨hl, rfl⟩)) (Mod.refl _ _)
  · refine newW_of fun b1 S1 hb1 ha1 e1 hn1 => ?_
    by_cases hl : l = []
    · subst hl
      have hsl : s.len = 0 := h.len
      refine ⟨⟨some ⟨b1, 0, none⟩, 0, 0⟩, S1, ?_, hk ⟨some ⟨b1, 0, none⟩, 0, 0⟩ S1 (.inl ⟨rfl, b1, by omega, rfl, ha1⟩) e1⟩
      have h3 : firstD S1 1 0 (.slice s.a 0 s.cap) = some [] := by
        cases ha : s.a with
        | none => rfl
        | some a =>
          obtain ⟨b, o, sp⟩ := a
          have := hsp _ ha
          cases sp with
          | none => rfl
          | some _ => cases this
      have g1 : Nat.beq (cellsOf (.int .u8 0)).length 1 = true := rfl
      have g2 : Nat.beq ([] : List Value).length (0 * 1) = true := rfl
      have g3 : Nat.ble ((0 + 0) * DEnv.i5.bytes) 17592186044416 = true := Nat.ble_eq_true_of_le (by omega)
      have g4 : Nat.ble (0 + 0) 17592186044416 = true := rfl
      have g5 : Nat.blt 0 1 = true := rfl
      have g6 : Nat.beq 0 0 = true := rfl
      simp only [appendD, und42b, inf5b, apK, cond_true, zero5, Option.bind_some, lenOfD, hsl, sizei5, h3, g1, g2, g3, g4, g5, g6, Bool.and_true, TT.enc, Ty.enc, Sc.enc]
    · obtain ⟨b, o, cs, more, ro, fz, ea, eat, ecs⟩ := h.mem hl
      have hn0 : 0 < l.length := List.length_pos_iff.2 hl
      have hsl : s.len = l.length := h.len
      have eat1 := e1.at eat
      have hfl : (l.flatMap cellB).length = l.length * 1 := flat_len hf l
      have g0 : Nat.beq (l.length * 1) 0 = false := Bool.eq_false_iff.2 fun hh => by have := Nat.eq_of_beq_eq_true hh; omega
      have g00 : Nat.beq l.length 0 = false := Bool.eq_false_iff.2 fun hh => by have := Nat.eq_of_beq_eq_true hh; omega
      have h3 : firstD S1 1 l.length (.slice s.a s.len s.cap) = some (l.flatMap cellB) := by
        rw [ea]
        simp only [firstD, g0, cond_false, St.loadN, eat1.get, ecs, hfl, Nat.beq_refl, cond_true]
      have g1 : Nat.beq (cellsOf (.int .u8 0)).length 1 = true := rfl
      have g2 : Nat.beq (l.flatMap cellB).length (l.length * 1) = true := by rw [hfl, Nat.beq_refl]
      have g3 : Nat.ble ((0 + l.length) * DEnv.i5.bytes) 17592186044416 = true := Nat.ble_eq_true_of_le (by rw [bytes5]; omega)
      have g4 : Nat.ble (0 + l.length) 17592186044416 = true := Nat.ble_eq_true_of_le (by omega)
      have g5 : Nat.blt 0 1 = true := rfl
      have g6 : Nat.beq 0 inex = false := rfl
      have g7 : Nat.ble (0 + l.length) 0 = false := Bool.eq_false_iff.2 fun hh => by have := Nat.le_of_ble_eq_true hh; omega
      have g8 : St.loadN S1 b1 0 (0 * 1) = some [] := by simp only [St.loadN, ha1.get]; rfl
      rw [hsl] at h3 ⊢
      refine ⟨⟨some ⟨S1.next, 0, none⟩, 0 + l.length, inex⟩, (S1.alloc (.cells ([] ++ l.flatMap cellB) (some 1) false none)).2, ?_, hk ⟨some ⟨S1.next, 0, none⟩, 0 + l.length, inex⟩ _ (.inr (.inr ⟨S1.next, by omega, by simp, ?_⟩)) (e1.tr alloc_ext)⟩
      · simp only [appendD, und42b, inf5b, inf42b, apK, cond_true, zero5, Option.bind_some, lenOfD, sizei5, h3, g00, g1, g2, g3, g4, g5, g6, g7, g8, cond_false, Bool.and_true, TT.enc, Ty.enc, Sc.enc, Option.map_some]
      · rw [List.nil_append]; exact alloc_at
theorem mod_dat {N : Nat} {F : Nat → Prop} {S S' : St} {s : Sl} {l : List Int} (h : Mod F S S') (hs : Dat N S s l) (hn : ∀ b, N ≤ b → b < S.next → ¬ F b) : Dat N S' s l := by
  rcases hs with ⟨h1, b, h2, h3, h4⟩ | h1
  · exact .inl ⟨h1, b, h2, h3, h.at h4 (hn b h2 h4.lt)⟩
  · exact .inr (h.gr h1 hn)
/-- A packet's twin. -/
theorem s58 {S : St} {x : Flt} {l : List Int} {k : Value → St → Prop} (h : SlOf cellB 1 S x.2.2.2.1 l) (hsp : ∀ a, x.2.2.2.1.a = some a → a.spot = none) (hlen : l.length ≤ 1000000)
    (hk : ∀ d N S', S.next ≤ N → Dat N S' d l → Ext S S' → k (sv G66 (x.1, x.2.1, x.2.2.1, d, x.2.2.2.2)) S') : WC E0 58 [sv G66 x] S k := by
  refine w58 x ?_
  unfold c58
  have hL := Hld.start noB S
  refine hL.new fun b1 S1 hL hb1 hn1 => ?_
  refine hL.new fun b2 S2 hL hb2 hn2 => ?_
  refine ptrW_of ?_
  (first | refine hL.ld 0 rfl (by kernel_rfl) _ rfl ?_ | refine hL.ld 1 rfl (by kernel_rfl) _ rfl ?_ | refine hL.ld 2 rfl (by kernel_rfl) _ rfl ?_ | refine hL.ld 3 rfl (by kernel_rfl) _ rfl ?_ | refine hL.ld 4 rfl (by kernel_rfl) _ rfl ?_ | refine hL.ld 5 rfl (by kernel_rfl) _ rfl ?_ | refine hL.ld 6 rfl (by kernel_rfl) _ rfl ?_ | refine hL.ld 7 rfl (by kernel_rfl) _ rfl ?_ | refine hL.lda 0 rfl (by kernel_rfl) _ rfl ?_ | refine hL.lda 1 rfl (by kernel_rfl) _ rfl ?_ | refine hL.lda 2 rfl (by kernel_rfl) _ rfl ?_ | refine hL.lda 3 rfl (by kernel_rfl) _ rfl ?_ | refine hL.lda 4 rfl (by kernel_rfl) _ rfl ?_ | refine hL.lda 5 rfl (by kernel_rfl) _ rfl ?_ | refine hL.lda 6 rfl (by kernel_rfl) _ rfl ?_ | refine hL.lda 7 rfl (by kernel_rfl) _ rfl ?_)
  refine evC_of (s70 (s := x.2.2.2.1) (hL.mod.slOf h fun _ _ _ _ h => h) hsp hlen fun d S3 hd e3 => ⟨_, rfl, ?_⟩)
  have hL3 := hL.ext e3
  have hL := hL3.re
  refine ptrW_of ?_
  (first | refine hL.st 0 _ rfl (by kernel_rfl) rfl (Nat.le_of_ble_eq_true rfl) rfl rfl fun S' hL hn' => ?_ | refine hL.st 1 _ rfl (by kernel_rfl) rfl (Nat.le_of_ble_eq_true rfl) rfl rfl fun S' hL hn' => ?_ | refine hL.st 2 _ rfl (by kernel_rfl) rfl (Nat.le_of_ble_eq_true rfl) rfl rfl fun S' hL hn' => ?_ | refine hL.st 3 _ rfl (by kernel_rfl) rfl (Nat.le_of_ble_eq_true rfl) rfl rfl fun S' hL hn' => ?_ | refine hL.st 4 _ rfl (by kernel_rfl) rfl (Nat.le_of_ble_eq_true rfl) rfl rfl fun S' hL hn' => ?_ | refine hL.st 5 _ rfl (by kernel_rfl) rfl (Nat.le_of_ble_eq_true rfl) rfl rfl fun S' hL hn' => ?_ | refine hL.st 6 _ rfl (by kernel_rfl) rfl (Nat.le_of_ble_eq_true rfl) rfl rfl fun S' hL hn' => ?_ | refine hL.st 7 _ rfl (by kernel_rfl) rfl (Nat.le_of_ble_eq_true rfl) rfl rfl fun S' hL hn' => ?_)
  (first | refine hL.ld 0 rfl (by kernel_rfl) _ rfl ?_ | refine hL.ld 1 rfl (by kernel_rfl) _ rfl ?_ | refine hL.ld 2 rfl (by kernel_rfl) _ rfl ?_ | refine hL.ld 3 rfl (by kernel_rfl) _ rfl ?_ | refine hL.ld 4 rfl (by kernel_rfl) _ rfl ?_ | refine hL.ld 5 rfl (by kernel_rfl) _ rfl ?_ | refine hL.ld 6 rfl (by kernel_rfl) _ rfl ?_ | refine hL.ld 7 rfl (by kernel_rfl) _ rfl ?_ | refine hL.lda 0 rfl (by kernel_rfl) _ rfl ?_ | refine hL.lda 1 rfl (by kernel_rfl) _ rfl ?_ | refine hL.lda 2 rfl (by kernel_rfl) _ rfl ?_ | refine hL.lda 3 rfl (by kernel_rfl) _ rfl ?_ | refine hL.lda 4 rfl (by kernel_rfl) _ rfl ?_ | refine hL.lda 5 rfl (by kernel_rfl) _ rfl ?_ | refine hL.lda 6 rfl (by kernel_rfl) _ rfl ?_ | refine hL.lda 7 rfl (by kernel_rfl) _ rfl ?_)
  (first | refine hL.st 0 _ rfl (by kernel_rfl) rfl (Nat.le_of_ble_eq_true rfl) rfl rfl fun S' hL hn' => ?_ | refine hL.st 1 _ rfl (by kernel_rfl) rfl (Nat.le_of_ble_eq_true rfl) rfl rfl fun S' hL hn' => ?_ | refine hL.st 2 _ rfl (by kernel_rfl) rfl (Nat.le_of_ble_eq_true rfl) rfl rfl fun S' hL hn' => ?_ | refine hL.st 3 _ rfl (by kernel_rfl) rfl (Nat.le_of_ble_eq_true rfl) rfl rfl fun S' hL hn' => ?_ | refine hL.st 4 _ rfl (by kernel_rfl) rfl (Nat.le_of_ble_eq_true rfl) rfl rfl fun S' hL hn' => ?_ | refine hL.st 5 _ rfl (by kernel_rfl) rfl (Nat.le_of_ble_eq_true rfl) rfl rfl fun S' hL hn' => ?_ | refine hL.st 6 _ rfl (by kernel_rfl) rfl (Nat.le_of_ble_eq_true rfl) rfl rfl fun S' hL hn' => ?_ | refine hL.st 7 _ rfl (by kernel_rfl) rfl (Nat.le_of_ble_eq_true rfl) rfl rfl fun S' hL hn' => ?_)
  (first | refine hL.ld 0 rfl (by kernel_rfl) _ rfl ?_ | refine hL.ld 1 rfl (by kernel_rfl) _ rfl ?_ | refine hL.ld 2 rfl (by kernel_rfl) _ rfl ?_ | refine hL.ld 3 rfl (by kernel_rfl) _ rfl ?_ | refine hL.ld 4 rfl (by kernel_rfl) _ rfl ?_ | refine hL.ld 5 rfl (by kernel_rfl) _ rfl ?_ | refine hL.ld 6 rfl (by kernel_rfl) _ rfl ?_ | refine hL.ld 7 rfl (by kernel_rfl) _ rfl ?_ | refine hL.lda 0 rfl (by kernel_rfl) _ rfl ?_ | refine hL.lda 1 rfl (by kernel_rfl) _ rfl ?_ | refine hL.lda 2 rfl (by kernel_rfl) _ rfl ?_ | refine hL.lda 3 rfl (by kernel_rfl) _ rfl ?_ | refine hL.lda 4 rfl (by kernel_rfl) _ rfl ?_ | refine hL.lda 5 rfl (by kernel_rfl) _ rfl ?_ | refine hL.lda 6 rfl (by kernel_rfl) _ rfl ?_ | refine hL.lda 7 rfl (by kernel_rfl) _ rfl ?_)
  refine hk d S2.next _ (by omega) (mod_dat hL.mod hd fun b hb _ hm => ?_) (hL3.back hL.mod)
  simp only [List.map_cons, List.map_nil, List.mem_cons, List.not_mem_nil, or_false] at hm
  omega
end
end Go.Proofs.Ytcookjolkhcjhaa

/- Bags: all packets, and where one stands. -/
namespace Go.Proofs.Ytcookjolkhcjhaa
open Go Go.Proofs.Ytcookjolkhcjhaa.D
set_option linter.unusedVariables false
set_option linter.unusedSimpArgs false
noncomputable section

theorem eqPtr (S : St) (a : Addr) : eqD E0 S 6 83 (.pointer (some a)) (.pointer none) = some false := by kernel_rfl
abbrev Cnt := Int × Int × Int × Int × Int × Int
abbrev bagO (s : Sl) (last : Int) (c : Cnt) : DObj := .cells [.slice s.a s.len s.cap, .int .i64 last, .int .i64 c.1, .int .i64 c.2.1, .int .i64 c.2.2.1, .int .i64 c.2.2.2.1, .int .i64 c.2.2.2.2.1, .int .i64 c.2.2.2.2.2] none false none

theorem s69 {y : Value} {c1 bb : Nat} {S : St} {s : Sl} {fl : List Flt} {last : Int} {c : Cnt} (hlen : fl.length ≤ 256) (I : Nat → St → Prop) {Q : St → Prop}
    (hm : ∀ i S', I i S' → At S' c1 (.cells [.pointer (some ⟨bb, 0, none⟩)] none false none) ∧ At S' bb (bagO s last c) ∧ SlOf cellsF 5 S' s fl) (hext : ∀ i S' S'', I i S' → Ext S' S'' → I i S'') (h0 : I 0 S)
    (hstep : ∀ i (hi : i < fl.length) S', I i S' → evY E0 tB y [.int .i64 (i : Int), sv G66 fl[i]] S' fun t S'' => (t = true → I (i + 1) S'') ∧ (t = false → Q S''))
    (hend : ∀ S', I fl.length S' → Q S') : WC E0 69 [y, .pointer (some ⟨c1, 0, none⟩)] S fun _ S' => Q S' := by
  refine w69 y c1 ?_
  unfold c69
  obtain ⟨a1, a2, a3⟩ := hm 0 S h0
  refine evV_of (some ⟨bb, 0, none⟩) (load_one a1 (by kernel_rfl)) ?_
  refine ⟨false, eqPtr _ _, ?_⟩
  refine ifW_of (fun h => by cases h) fun _ => ?_
  refine evV_of (some ⟨bb, 0, none⟩) (load_one a1 (by kernel_rfl)) ?_
  refine ptrW_of (ptrW_of ?_)
  refine evV_of s (load_one a2 (by kernel_rfl)) ?_
  refine loopW_ind (fun q (x : Int) S' => ∃ n : Nat, x = n ∧ n ≤ fl.length ∧ q = fl.length - n ∧ I n S') (m := fl.length) ⟨0, rfl, by omega, rfl, h0⟩ ?_
  rintro P q x S1 ⟨n, rfl, hn, rfl, hi⟩ hP
  obtain ⟨a1, a2, a3⟩ := hm n S1 hi
  have hal := a3.len
  refine ifW_dec (fun hlt => ?_) fun hlt => ?_
  · have hlt2 : (n : Int) < (fl.length : Int) := by omega
    have hlt3 : n < fl.length := by omega
    have h00 : (0 : Int) ≤ (n : Int) := by omega
    refine a3.idx (f := cellsF) (sz := 5) (fun _ => rfl) h00 hlt2 fun b1 o1 cs1 m1 r1 f1 at1 _ h1 => ?_
    refine ⟨fl[n]'hlt3, load_agg at1 (n := 5) (by kernel_rfl) h1 rfl, ?_⟩
    have hL := Hld.start noB S1
    refine hL.new fun b7 S2 hL hb7 hn2 => ?_
    (first | refine hL.st 0 _ rfl (by kernel_rfl) rfl (Nat.le_of_ble_eq_true rfl) rfl rfl fun S' hL hn' => ?_ | refine hL.st 1 _ rfl (by kernel_rfl) rfl (Nat.le_of_ble_eq_true rfl) rfl rfl fun S' hL hn' => ?_ | refine hL.st 2 _ rfl (by kernel_rfl) rfl (Nat.le_of_ble_eq_true rfl) rfl rfl fun S' hL hn' => ?_ | refine hL.st 3 _ rfl (by kernel_rfl) rfl (Nat.le_of_ble_eq_true rfl) rfl rfl fun S' hL hn' => ?_ | refine hL.st 4 _ rfl (by kernel_rfl) rfl (Nat.le_of_ble_eq_true rfl) rfl rfl fun S' hL hn' => ?_ | refine hL.st 5 _ rfl (by kernel_rfl) rfl (Nat.le_of_ble_eq_true rfl) rfl rfl fun S' hL hn' => ?_ | refine hL.st 6 _ rfl (by kernel_rfl) rfl (Nat.le_of_ble_eq_true rfl) rfl rfl fun S' hL hn' => ?_ | refine hL.st 7 _ rfl (by kernel_rfl) rfl (Nat.le_of_ble_eq_true rfl) rfl rfl fun S' hL hn' => ?_)
    (first | refine hL.ld 0 rfl (by kernel_rfl) _ rfl ?_ | refine hL.ld 1 rfl (by kernel_rfl) _ rfl ?_ | refine hL.ld 2 rfl (by kernel_rfl) _ rfl ?_ | refine hL.ld 3 rfl (by kernel_rfl) _ rfl ?_ | refine hL.ld 4 rfl (by kernel_rfl) _ rfl ?_ | refine hL.ld 5 rfl (by kernel_rfl) _ rfl ?_ | refine hL.ld 6 rfl (by kernel_rfl) _ rfl ?_ | refine hL.ld 7 rfl (by kernel_rfl) _ rfl ?_ | refine hL.lda 0 rfl (by kernel_rfl) _ rfl ?_ | refine hL.lda 1 rfl (by kernel_rfl) _ rfl ?_ | refine hL.lda 2 rfl (by kernel_rfl) _ rfl ?_ | refine hL.lda 3 rfl (by kernel_rfl) _ rfl ?_ | refine hL.lda 4 rfl (by kernel_rfl) _ rfl ?_ | refine hL.lda 5 rfl (by kernel_rfl) _ rfl ?_ | refine hL.lda 6 rfl (by kernel_rfl) _ rfl ?_ | refine hL.lda 7 rfl (by kernel_rfl) _ rfl ?_)
    refine WV.mono (hstep n hlt3 S' (hext _ _ _ hi hL.mod)) ?_
    rintro v S4 ⟨t, rfl, ht1, ht2⟩
    refine ⟨t, rfl, ifW_of (fun h => ht2 (by simpa using h)) fun h => ?_⟩
    rw [wrap_succ (by omega)]
    exact hP _ _ _ (by omega) ⟨n + 1, rfl, by omega, rfl, ht1 (by simpa using h)⟩
  · have : n = fl.length := by omega
    subst this
    exact hend S1 hi
end
end Go.Proofs.Ytcookjolkhcjhaa

/- Bags: where a packet stands. -/
namespace Go.Proofs.Ytcookjolkhcjhaa
open Go Go.Proofs.Ytcookjolkhcjhaa.D
set_option linter.unusedVariables false
set_option linter.unusedSimpArgs false
noncomputable section

theorem hld_tail {F : Nat → Prop} {S0 S : St} {p : Nat × DObj} {L : List (Nat × DObj)} (h : Hld F S0 S (p :: L)) : Hld F S0 S L :=
  ⟨h.mod, fun q hq => h.all q (List.mem_cons_of_mem _ hq), (List.nodup_cons.1 (by rw [← List.map_cons]; exact h.dis)).2⟩
def placeF (fl : List Flt) (n : Int) : Int × Int := match fl.findIdx? (fun x => decide (x.1 = n)) with | some i => ((i : Int), 0) | none => (0, 80)
theorem place_at {fl : List Flt} {n : Int} {i : Nat} (hi : i < fl.length) (h1 : ∀ j (hj : j < i), fl[j].1 ≠ n) (h2 : fl[i].1 = n) : placeF fl n = ((i : Int), 0) := by
  unfold placeF
  have : fl.findIdx? (fun x => decide (x.1 = n)) = some i := by
    rw [List.findIdx?_eq_some_iff_getElem]
    exact ⟨hi, by simpa using h2, fun j hj => by simpa using h1 j hj⟩
  rw [this]
theorem place_no {fl : List Flt} {n : Int} (h1 : ∀ j (hj : j < fl.length), fl[j].1 ≠ n) : placeF fl n = (0, 80) := by
  unfold placeF
  have : fl.findIdx? (fun x => decide (x.1 = n)) = none := by
    rw [List.findIdx?_eq_none_iff]
    intro x hx
    obtain ⟨j, hj, rfl⟩ := List.getElem_of_mem hx
    simpa using h1 j hj
  rw [this]
abbrev boxesP (b5 b4 c1 b3 b2 b1 bb : Nat) (st : DObj) (n at_ e : Int) : List (Nat × DObj) :=
  [(b5, st), (b4, .deferred), (c1, .cells [.pointer (some ⟨bb, 0, none⟩)] none false none), (b3, .cells [.int .i64 e] none false none), (b2, .cells [.int .i64 at_] none false none), (b1, .cells [.int .i64 n] none false none)]
theorem s56 {bb : Nat} {S : St} {s : Sl} {fl : List Flt} {last : Int} {c : Cnt} {n : Int} {k : Value → St → Prop} (hb : At S bb (bagO s last c)) (hs : SlOf cellsF 5 S s fl) (hlen : fl.length ≤ 256)
    (hk : ∀ S', Ext S S' → k (.tuple #[.int .i64 (placeF fl n).1, .int .i64 (placeF fl n).2]) S') : WC E0 56 [.pointer (some ⟨bb, 0, none⟩), .int .i64 n] S k := by
  refine w56 _ n ?_
  unfold c56
  have hL := Hld.start noB S
  refine hL.new fun b1 S1 hL hb1 hn1 => ?_
  refine ⟨false, eqPtr _ _, ?_⟩
  refine ifW_of (fun h => by cases h) fun _ => ?_
  refine hL.new fun b2 S2 hL hb2 hn2 => ?_
  refine hL.new fun b3 S3 hL hb3 hn3 => ?_
  (first | refine hL.st 0 _ rfl (by kernel_rfl) rfl (Nat.le_of_ble_eq_true rfl) rfl rfl fun S' hL hn' => ?_ | refine hL.st 1 _ rfl (by kernel_rfl) rfl (Nat.le_of_ble_eq_true rfl) rfl rfl fun S' hL hn' => ?_ | refine hL.st 2 _ rfl (by kernel_rfl) rfl (Nat.le_of_ble_eq_true rfl) rfl rfl fun S' hL hn' => ?_ | refine hL.st 3 _ rfl (by kernel_rfl) rfl (Nat.le_of_ble_eq_true rfl) rfl rfl fun S' hL hn' => ?_ | refine hL.st 4 _ rfl (by kernel_rfl) rfl (Nat.le_of_ble_eq_true rfl) rfl rfl fun S' hL hn' => ?_ | refine hL.st 5 _ rfl (by kernel_rfl) rfl (Nat.le_of_ble_eq_true rfl) rfl rfl fun S' hL hn' => ?_ | refine hL.st 6 _ rfl (by kernel_rfl) rfl (Nat.le_of_ble_eq_true rfl) rfl rfl fun S' hL hn' => ?_ | refine hL.st 7 _ rfl (by kernel_rfl) rfl (Nat.le_of_ble_eq_true rfl) rfl rfl fun S' hL hn' => ?_)
  (first | refine hL.st 0 _ rfl (by kernel_rfl) rfl (Nat.le_of_ble_eq_true rfl) rfl rfl fun S' hL hn' => ?_ | refine hL.st 1 _ rfl (by kernel_rfl) rfl (Nat.le_of_ble_eq_true rfl) rfl rfl fun S' hL hn' => ?_ | refine hL.st 2 _ rfl (by kernel_rfl) rfl (Nat.le_of_ble_eq_true rfl) rfl rfl fun S' hL hn' => ?_ | refine hL.st 3 _ rfl (by kernel_rfl) rfl (Nat.le_of_ble_eq_true rfl) rfl rfl fun S' hL hn' => ?_ | refine hL.st 4 _ rfl (by kernel_rfl) rfl (Nat.le_of_ble_eq_true rfl) rfl rfl fun S' hL hn' => ?_ | refine hL.st 5 _ rfl (by kernel_rfl) rfl (Nat.le_of_ble_eq_true rfl) rfl rfl fun S' hL hn' => ?_ | refine hL.st 6 _ rfl (by kernel_rfl) rfl (Nat.le_of_ble_eq_true rfl) rfl rfl fun S' hL hn' => ?_ | refine hL.st 7 _ rfl (by kernel_rfl) rfl (Nat.le_of_ble_eq_true rfl) rfl rfl fun S' hL hn' => ?_)
  refine evC_of (w57 _ ?_)
  unfold c57
  refine hL.new fun c1 S4 hL hb4 hn4 => ?_
  refine ⟨_, rfl, ?_⟩
  refine hL.new fun b4 S5 hL hb5 hn5 => ?_
  rintro b5 S6 L rfl rfl hLL hR
  have hL := hL.record (o := L .ready none)
  generalize (S5.alloc (L .ready none)).2 = S6 at hL ⊢
  generalize hb6 : S5.next = b5 at hL hR ⊢
  refine WG_of rfl (s69 (bb := bb) (s := s) (fl := fl) (last := last) (c := c) hlen (fun i S' => Hld noB S S' (boxesP b5 b4 c1 b3 b2 b1 bb (L .ready none) n 0 80) ∧ ∀ j (hj : j < fl.length), j < i → fl[j].1 ≠ n) ?_ ?_ ?_ ?_ ?_)
  · rintro i S' ⟨hL, _⟩
    exact ⟨hL.at 2 rfl, hL.mod.at hb (fun h => h), hL.mod.slOf hs fun _ _ _ _ h => h⟩
  · rintro i S' S'' ⟨hL, h2⟩ e
    exact ⟨hL.ext e, h2⟩
  · exact ⟨hL, fun j _ h => by omega⟩
  · rintro i hi S' ⟨hL, hno⟩
    refine hR ((i : Int), fl[i]) S' _ ?_
    (first | refine hL.has 0 rfl ?_ | refine hL.has 1 rfl ?_ | refine hL.has 2 rfl ?_ | refine hL.has 3 rfl ?_ | refine hL.has 4 rfl ?_ | refine hL.has 5 rfl ?_ | refine hL.has 6 rfl ?_ | refine hL.has 7 rfl ?_)
    refine hL.new fun b6 S7 hL hb7 hn7 => ?_
    (first | refine hL.st 0 _ rfl (by kernel_rfl) rfl (Nat.le_of_ble_eq_true rfl) rfl rfl fun S' hL hn' => ?_ | refine hL.st 1 _ rfl (by kernel_rfl) rfl (Nat.le_of_ble_eq_true rfl) rfl rfl fun S' hL hn' => ?_ | refine hL.st 2 _ rfl (by kernel_rfl) rfl (Nat.le_of_ble_eq_true rfl) rfl rfl fun S' hL hn' => ?_ | refine hL.st 3 _ rfl (by kernel_rfl) rfl (Nat.le_of_ble_eq_true rfl) rfl rfl fun S' hL hn' => ?_ | refine hL.st 4 _ rfl (by kernel_rfl) rfl (Nat.le_of_ble_eq_true rfl) rfl rfl fun S' hL hn' => ?_ | refine hL.st 5 _ rfl (by kernel_rfl) rfl (Nat.le_of_ble_eq_true rfl) rfl rfl fun S' hL hn' => ?_ | refine hL.st 6 _ rfl (by kernel_rfl) rfl (Nat.le_of_ble_eq_true rfl) rfl rfl fun S' hL hn' => ?_ | refine hL.st 7 _ rfl (by kernel_rfl) rfl (Nat.le_of_ble_eq_true rfl) rfl rfl fun S' hL hn' => ?_)
    (first | refine hL.has 0 rfl ?_ | refine hL.has 1 rfl ?_ | refine hL.has 2 rfl ?_ | refine hL.has 3 rfl ?_ | refine hL.has 4 rfl ?_ | refine hL.has 5 rfl ?_ | refine hL.has 6 rfl ?_ | refine hL.has 7 rfl ?_)
    (first | refine hL.upd 0 rfl fun S' hL hn' => ?_ | refine hL.upd 1 rfl fun S' hL hn' => ?_ | refine hL.upd 2 rfl fun S' hL hn' => ?_ | refine hL.upd 3 rfl fun S' hL hn' => ?_ | refine hL.upd 4 rfl fun S' hL hn' => ?_ | refine hL.upd 5 rfl fun S' hL hn' => ?_ | refine hL.upd 6 rfl fun S' hL hn' => ?_ | refine hL.upd 7 rfl fun S' hL hn' => ?_)
    refine ptrW_of ?_
    (first | refine hL.ld 0 rfl (by kernel_rfl) _ rfl ?_ | refine hL.ld 1 rfl (by kernel_rfl) _ rfl ?_ | refine hL.ld 2 rfl (by kernel_rfl) _ rfl ?_ | refine hL.ld 3 rfl (by kernel_rfl) _ rfl ?_ | refine hL.ld 4 rfl (by kernel_rfl) _ rfl ?_ | refine hL.ld 5 rfl (by kernel_rfl) _ rfl ?_ | refine hL.ld 6 rfl (by kernel_rfl) _ rfl ?_ | refine hL.ld 7 rfl (by kernel_rfl) _ rfl ?_ | refine hL.lda 0 rfl (by kernel_rfl) _ rfl ?_ | refine hL.lda 1 rfl (by kernel_rfl) _ rfl ?_ | refine hL.lda 2 rfl (by kernel_rfl) _ rfl ?_ | refine hL.lda 3 rfl (by kernel_rfl) _ rfl ?_ | refine hL.lda 4 rfl (by kernel_rfl) _ rfl ?_ | refine hL.lda 5 rfl (by kernel_rfl) _ rfl ?_ | refine hL.lda 6 rfl (by kernel_rfl) _ rfl ?_ | refine hL.lda 7 rfl (by kernel_rfl) _ rfl ?_)
    (first | refine hL.ld 0 rfl (by kernel_rfl) _ rfl ?_ | refine hL.ld 1 rfl (by kernel_rfl) _ rfl ?_ | refine hL.ld 2 rfl (by kernel_rfl) _ rfl ?_ | refine hL.ld 3 rfl (by kernel_rfl) _ rfl ?_ | refine hL.ld 4 rfl (by kernel_rfl) _ rfl ?_ | refine hL.ld 5 rfl (by kernel_rfl) _ rfl ?_ | refine hL.ld 6 rfl (by kernel_rfl) _ rfl ?_ | refine hL.ld 7 rfl (by kernel_rfl) _ rfl ?_ | refine hL.lda 0 rfl (by kernel_rfl) _ rfl ?_ | refine hL.lda 1 rfl (by kernel_rfl) _ rfl ?_ | refine hL.lda 2 rfl (by kernel_rfl) _ rfl ?_ | refine hL.lda 3 rfl (by kernel_rfl) _ rfl ?_ | refine hL.lda 4 rfl (by kernel_rfl) _ rfl ?_ | refine hL.lda 5 rfl (by kernel_rfl) _ rfl ?_ | refine hL.lda 6 rfl (by kernel_rfl) _ rfl ?_ | refine hL.lda 7 rfl (by kernel_rfl) _ rfl ?_)
    refine ifW_dec (fun he => ?_) fun he => ?_
    · (first | refine hL.st 0 _ rfl (by kernel_rfl) rfl (Nat.le_of_ble_eq_true rfl) rfl rfl fun S' hL hn' => ?_ | refine hL.st 1 _ rfl (by kernel_rfl) rfl (Nat.le_of_ble_eq_true rfl) rfl rfl fun S' hL hn' => ?_ | refine hL.st 2 _ rfl (by kernel_rfl) rfl (Nat.le_of_ble_eq_true rfl) rfl rfl fun S' hL hn' => ?_ | refine hL.st 3 _ rfl (by kernel_rfl) rfl (Nat.le_of_ble_eq_true rfl) rfl rfl fun S' hL hn' => ?_ | refine hL.st 4 _ rfl (by kernel_rfl) rfl (Nat.le_of_ble_eq_true rfl) rfl rfl fun S' hL hn' => ?_ | refine hL.st 5 _ rfl (by kernel_rfl) rfl (Nat.le_of_ble_eq_true rfl) rfl rfl fun S' hL hn' => ?_ | refine hL.st 6 _ rfl (by kernel_rfl) rfl (Nat.le_of_ble_eq_true rfl) rfl rfl fun S' hL hn' => ?_ | refine hL.st 7 _ rfl (by kernel_rfl) rfl (Nat.le_of_ble_eq_true rfl) rfl rfl fun S' hL hn' => ?_)
      (first | refine hL.st 0 _ rfl (by kernel_rfl) rfl (Nat.le_of_ble_eq_true rfl) rfl rfl fun S' hL hn' => ?_ | refine hL.st 1 _ rfl (by kernel_rfl) rfl (Nat.le_of_ble_eq_true rfl) rfl rfl fun S' hL hn' => ?_ | refine hL.st 2 _ rfl (by kernel_rfl) rfl (Nat.le_of_ble_eq_true rfl) rfl rfl fun S' hL hn' => ?_ | refine hL.st 3 _ rfl (by kernel_rfl) rfl (Nat.le_of_ble_eq_true rfl) rfl rfl fun S' hL hn' => ?_ | refine hL.st 4 _ rfl (by kernel_rfl) rfl (Nat.le_of_ble_eq_true rfl) rfl rfl fun S' hL hn' => ?_ | refine hL.st 5 _ rfl (by kernel_rfl) rfl (Nat.le_of_ble_eq_true rfl) rfl rfl fun S' hL hn' => ?_ | refine hL.st 6 _ rfl (by kernel_rfl) rfl (Nat.le_of_ble_eq_true rfl) rfl rfl fun S' hL hn' => ?_ | refine hL.st 7 _ rfl (by kernel_rfl) rfl (Nat.le_of_ble_eq_true rfl) rfl rfl fun S' hL hn' => ?_)
      (first | refine hL.has 0 rfl ?_ | refine hL.has 1 rfl ?_ | refine hL.has 2 rfl ?_ | refine hL.has 3 rfl ?_ | refine hL.has 4 rfl ?_ | refine hL.has 5 rfl ?_ | refine hL.has 6 rfl ?_ | refine hL.has 7 rfl ?_)
      (first | refine hL.upd 0 rfl fun S' hL hn' => ?_ | refine hL.upd 1 rfl fun S' hL hn' => ?_ | refine hL.upd 2 rfl fun S' hL hn' => ?_ | refine hL.upd 3 rfl fun S' hL hn' => ?_ | refine hL.upd 4 rfl fun S' hL hn' => ?_ | refine hL.upd 5 rfl fun S' hL hn' => ?_ | refine hL.upd 6 rfl fun S' hL hn' => ?_ | refine hL.upd 7 rfl fun S' hL hn' => ?_)
      refine ⟨fun h => (by cases h), fun _ => .inr (.inl ?_)⟩
      rw [place_at hi (fun j hj => hno j (by omega) hj) he] at hk
      repeat (first | refine ptrW_of ?_ | refine sameV_of ?_ | refine hL.new fun bk S' hL hbk hnk => ?_ | (first | refine hL.ld 0 rfl (by kernel_rfl) _ rfl ?_ | refine hL.ld 1 rfl (by kernel_rfl) _ rfl ?_ | refine hL.ld 2 rfl (by kernel_rfl) _ rfl ?_ | refine hL.ld 3 rfl (by kernel_rfl) _ rfl ?_ | refine hL.ld 4 rfl (by kernel_rfl) _ rfl ?_ | refine hL.ld 5 rfl (by kernel_rfl) _ rfl ?_ | refine hL.ld 6 rfl (by kernel_rfl) _ rfl ?_ | refine hL.ld 7 rfl (by kernel_rfl) _ rfl ?_ | refine hL.lda 0 rfl (by kernel_rfl) _ rfl ?_ | refine hL.lda 1 rfl (by kernel_rfl) _ rfl ?_ | refine hL.lda 2 rfl (by kernel_rfl) _ rfl ?_ | refine hL.lda 3 rfl (by kernel_rfl) _ rfl ?_ | refine hL.lda 4 rfl (by kernel_rfl) _ rfl ?_ | refine hL.lda 5 rfl (by kernel_rfl) _ rfl ?_ | refine hL.lda 6 rfl (by kernel_rfl) _ rfl ?_ | refine hL.lda 7 rfl (by kernel_rfl) _ rfl ?_) | (first | refine hL.st 0 _ rfl (by kernel_rfl) rfl (Nat.le_of_ble_eq_true rfl) rfl rfl fun S' hL hn' => ?_ | refine hL.st 1 _ rfl (by kernel_rfl) rfl (Nat.le_of_ble_eq_true rfl) rfl rfl fun S' hL hn' => ?_ | refine hL.st 2 _ rfl (by kernel_rfl) rfl (Nat.le_of_ble_eq_true rfl) rfl rfl fun S' hL hn' => ?_ | refine hL.st 3 _ rfl (by kernel_rfl) rfl (Nat.le_of_ble_eq_true rfl) rfl rfl fun S' hL hn' => ?_ | refine hL.st 4 _ rfl (by kernel_rfl) rfl (Nat.le_of_ble_eq_true rfl) rfl rfl fun S' hL hn' => ?_ | refine hL.st 5 _ rfl (by kernel_rfl) rfl (Nat.le_of_ble_eq_true rfl) rfl rfl fun S' hL hn' => ?_ | refine hL.st 6 _ rfl (by kernel_rfl) rfl (Nat.le_of_ble_eq_true rfl) rfl rfl fun S' hL hn' => ?_ | refine hL.st 7 _ rfl (by kernel_rfl) rfl (Nat.le_of_ble_eq_true rfl) rfl rfl fun S' hL hn' => ?_) | (first | refine hL.has 0 rfl ?_ | refine hL.has 1 rfl ?_ | refine hL.has 2 rfl ?_ | refine hL.has 3 rfl ?_ | refine hL.has 4 rfl ?_ | refine hL.has 5 rfl ?_ | refine hL.has 6 rfl ?_ | refine hL.has 7 rfl ?_) | (first | refine hL.upd 0 rfl fun S' hL hn' => ?_ | refine hL.upd 1 rfl fun S' hL hn' => ?_ | refine hL.upd 2 rfl fun S' hL hn' => ?_ | refine hL.upd 3 rfl fun S' hL hn' => ?_ | refine hL.upd 4 rfl fun S' hL hn' => ?_ | refine hL.upd 5 rfl fun S' hL hn' => ?_ | refine hL.upd 6 rfl fun S' hL hn' => ?_ | refine hL.upd 7 rfl fun S' hL hn' => ?_))
      exact hk _ hL.mod
    · (first | refine hL.has 0 rfl ?_ | refine hL.has 1 rfl ?_ | refine hL.has 2 rfl ?_ | refine hL.has 3 rfl ?_ | refine hL.has 4 rfl ?_ | refine hL.has 5 rfl ?_ | refine hL.has 6 rfl ?_ | refine hL.has 7 rfl ?_)
      (first | refine hL.upd 0 rfl fun S' hL hn' => ?_ | refine hL.upd 1 rfl fun S' hL hn' => ?_ | refine hL.upd 2 rfl fun S' hL hn' => ?_ | refine hL.upd 3 rfl fun S' hL hn' => ?_ | refine hL.upd 4 rfl fun S' hL hn' => ?_ | refine hL.upd 5 rfl fun S' hL hn' => ?_ | refine hL.upd 6 rfl fun S' hL hn' => ?_ | refine hL.upd 7 rfl fun S' hL hn' => ?_)
      refine ⟨fun _ => ⟨hld_tail hL, fun j hj hji => ?_⟩, fun h => by cases h⟩
      rcases Nat.lt_or_ge j i with h | h
      · exact hno j hj h
      · have : j = i := by omega
        subst this
        exact he
  · rintro S' ⟨hL, hno⟩
    refine .inl ?_
    rw [place_no (fun j hj => hno j hj hj)] at hk
    repeat (first | refine ptrW_of ?_ | refine sameV_of ?_ | refine hL.new fun bk S' hL hbk hnk => ?_ | (first | refine hL.ld 0 rfl (by kernel_rfl) _ rfl ?_ | refine hL.ld 1 rfl (by kernel_rfl) _ rfl ?_ | refine hL.ld 2 rfl (by kernel_rfl) _ rfl ?_ | refine hL.ld 3 rfl (by kernel_rfl) _ rfl ?_ | refine hL.ld 4 rfl (by kernel_rfl) _ rfl ?_ | refine hL.ld 5 rfl (by kernel_rfl) _ rfl ?_ | refine hL.ld 6 rfl (by kernel_rfl) _ rfl ?_ | refine hL.ld 7 rfl (by kernel_rfl) _ rfl ?_ | refine hL.lda 0 rfl (by kernel_rfl) _ rfl ?_ | refine hL.lda 1 rfl (by kernel_rfl) _ rfl ?_ | refine hL.lda 2 rfl (by kernel_rfl) _ rfl ?_ | refine hL.lda 3 rfl (by kernel_rfl) _ rfl ?_ | refine hL.lda 4 rfl (by kernel_rfl) _ rfl ?_ | refine hL.lda 5 rfl (by kernel_rfl) _ rfl ?_ | refine hL.lda 6 rfl (by kernel_rfl) _ rfl ?_ | refine hL.lda 7 rfl (by kernel_rfl) _ rfl ?_) | (first | refine hL.st 0 _ rfl (by kernel_rfl) rfl (Nat.le_of_ble_eq_true rfl) rfl rfl fun S' hL hn' => ?_ | refine hL.st 1 _ rfl (by kernel_rfl) rfl (Nat.le_of_ble_eq_true rfl) rfl rfl fun S' hL hn' => ?_ | refine hL.st 2 _ rfl (by kernel_rfl) rfl (Nat.le_of_ble_eq_true rfl) rfl rfl fun S' hL hn' => ?_ | refine hL.st 3 _ rfl (by kernel_rfl) rfl (Nat.le_of_ble_eq_true rfl) rfl rfl fun S' hL hn' => ?_ | refine hL.st 4 _ rfl (by kernel_rfl) rfl (Nat.le_of_ble_eq_true rfl) rfl rfl fun S' hL hn' => ?_ | refine hL.st 5 _ rfl (by kernel_rfl) rfl (Nat.le_of_ble_eq_true rfl) rfl rfl fun S' hL hn' => ?_ | refine hL.st 6 _ rfl (by kernel_rfl) rfl (Nat.le_of_ble_eq_true rfl) rfl rfl fun S' hL hn' => ?_ | refine hL.st 7 _ rfl (by kernel_rfl) rfl (Nat.le_of_ble_eq_true rfl) rfl rfl fun S' hL hn' => ?_) | (first | refine hL.has 0 rfl ?_ | refine hL.has 1 rfl ?_ | refine hL.has 2 rfl ?_ | refine hL.has 3 rfl ?_ | refine hL.has 4 rfl ?_ | refine hL.has 5 rfl ?_ | refine hL.has 6 rfl ?_ | refine hL.has 7 rfl ?_) | (first | refine hL.upd 0 rfl fun S' hL hn' => ?_ | refine hL.upd 1 rfl fun S' hL hn' => ?_ | refine hL.upd 2 rfl fun S' hL hn' => ?_ | refine hL.upd 3 rfl fun S' hL hn' => ?_ | refine hL.upd 4 rfl fun S' hL hn' => ?_ | refine hL.upd 5 rfl fun S' hL hn' => ?_ | refine hL.upd 6 rfl fun S' hL hn' => ?_ | refine hL.upd 7 rfl fun S' hL hn' => ?_))
    exact hk _ hL.mod
end
end Go.Proofs.Ytcookjolkhcjhaa

/- Bags: how many, the counts, one packet found. -/
namespace Go.Proofs.Ytcookjolkhcjhaa
open Go Go.Proofs.Ytcookjolkhcjhaa.D
set_option linter.unusedVariables false
set_option linter.unusedSimpArgs false
noncomputable section

theorem s33 {bb : Nat} {S : St} {s : Sl} {last : Int} {c : Cnt} {k : Value → St → Prop} (hb : At S bb (bagO s last c)) (hk : k (.int .i64 (s.len : Int)) S) : WC E0 33 [.pointer (some ⟨bb, 0, none⟩)] S k := by
  refine w33 _ ?_
  unfold c33
  refine ⟨false, eqPtr _ _, ?_⟩
  refine ifW_of (fun h => by cases h) fun _ => ?_
  refine ptrW_of (ptrW_of ?_)
  exact evV_of s (load_one hb (by kernel_rfl)) hk
theorem s32 {bb : Nat} {S : St} {s : Sl} {last : Int} {c : Cnt} {k : Value → St → Prop} (hb : At S bb (bagO s last c)) (hk : ∀ S', Ext S S' → k (sv G56 c) S') : WC E0 32 [.pointer (some ⟨bb, 0, none⟩)] S k := by
  refine w32 _ ?_
  unfold c32
  have hL := Hld.start noB S
  refine hL.new fun b1 S1 hL hb1 hn1 => ?_
  refine ⟨false, eqPtr _ _, ?_⟩
  refine ifW_of (fun h => by cases h) fun _ => ?_
  refine ptrW_of (ptrW_of ?_)
  have hb' := hL.mod.at hb (fun h => h)
  refine ⟨c, load_agg hb' (n := 6) (by kernel_rfl) rfl rfl, ?_⟩
  (first | refine hL.st 0 _ rfl (by kernel_rfl) rfl (Nat.le_of_ble_eq_true rfl) rfl rfl fun S' hL hn' => ?_ | refine hL.st 1 _ rfl (by kernel_rfl) rfl (Nat.le_of_ble_eq_true rfl) rfl rfl fun S' hL hn' => ?_ | refine hL.st 2 _ rfl (by kernel_rfl) rfl (Nat.le_of_ble_eq_true rfl) rfl rfl fun S' hL hn' => ?_ | refine hL.st 3 _ rfl (by kernel_rfl) rfl (Nat.le_of_ble_eq_true rfl) rfl rfl fun S' hL hn' => ?_ | refine hL.st 4 _ rfl (by kernel_rfl) rfl (Nat.le_of_ble_eq_true rfl) rfl rfl fun S' hL hn' => ?_ | refine hL.st 5 _ rfl (by kernel_rfl) rfl (Nat.le_of_ble_eq_true rfl) rfl rfl fun S' hL hn' => ?_ | refine hL.st 6 _ rfl (by kernel_rfl) rfl (Nat.le_of_ble_eq_true rfl) rfl rfl fun S' hL hn' => ?_ | refine hL.st 7 _ rfl (by kernel_rfl) rfl (Nat.le_of_ble_eq_true rfl) rfl rfl fun S' hL hn' => ?_)
  (first | refine hL.ld 0 rfl (by kernel_rfl) _ rfl ?_ | refine hL.ld 1 rfl (by kernel_rfl) _ rfl ?_ | refine hL.ld 2 rfl (by kernel_rfl) _ rfl ?_ | refine hL.ld 3 rfl (by kernel_rfl) _ rfl ?_ | refine hL.ld 4 rfl (by kernel_rfl) _ rfl ?_ | refine hL.ld 5 rfl (by kernel_rfl) _ rfl ?_ | refine hL.ld 6 rfl (by kernel_rfl) _ rfl ?_ | refine hL.ld 7 rfl (by kernel_rfl) _ rfl ?_ | refine hL.lda 0 rfl (by kernel_rfl) _ rfl ?_ | refine hL.lda 1 rfl (by kernel_rfl) _ rfl ?_ | refine hL.lda 2 rfl (by kernel_rfl) _ rfl ?_ | refine hL.lda 3 rfl (by kernel_rfl) _ rfl ?_ | refine hL.lda 4 rfl (by kernel_rfl) _ rfl ?_ | refine hL.lda 5 rfl (by kernel_rfl) _ rfl ?_ | refine hL.lda 6 rfl (by kernel_rfl) _ rfl ?_ | refine hL.lda 7 rfl (by kernel_rfl) _ rfl ?_)
  exact hk _ hL.mod
/-- One packet, if it is there, and whether. -/
theorem s36 {bb : Nat} {S : St} {s : Sl} {fl : List Flt} {last : Int} {c : Cnt} {n : Int} {ds : Nat → List Int} {k : Value → St → Prop} (hb : At S bb (bagO s last c)) (hs : SlOf cellsF 5 S s fl) (hlen : fl.length ≤ 256)
    (hd : ∀ i (hi : i < fl.length), SlOf cellB 1 S fl[i].2.2.2.1 (ds i) ∧ (∀ a, fl[i].2.2.2.1.a = some a → a.spot = none) ∧ (ds i).length ≤ 1000000)
    (hno : (∀ x ∈ fl, x.1 ≠ n) → ∀ S', Ext S S' → k (.tuple #[zeroF, .bool false]) S')
    (hyes : ∀ i (hi : i < fl.length), (∀ j (hj : j < i), fl[j].1 ≠ n) → fl[i].1 = n → ∀ d N S', S.next ≤ N → Dat N S' d (ds i) → Ext S S' → k (.tuple #[sv G66 (fl[i].1, fl[i].2.1, fl[i].2.2.1, d, fl[i].2.2.2.2), .bool true]) S') :
    WC E0 36 [.pointer (some ⟨bb, 0, none⟩), .int .i64 n] S k := by
  refine w36 _ n ?_
  unfold c36
  have hL := Hld.start noB S
  refine hL.new fun b1 S1 hL hb1 hn1 => ?_
  refine evC_of (s56 (hL.mod.at hb (fun h => h)) (hL.mod.slOf hs fun _ _ _ _ h => h) hlen fun S2 e2 => ⟨placeF fl n, rfl, ?_⟩)
  have hL := hL.ext e2
  by_cases hex : ∃ x ∈ fl, x.1 = n
  · have hfi : ∃ i, ∃ hi : i < fl.length, (∀ j (hj : j < i), fl[j].1 ≠ n) ∧ fl[i].1 = n := by
      cases hf : fl.findIdx? (fun x => decide (x.1 = n)) with
      | none =>
        rw [List.findIdx?_eq_none_iff] at hf
        obtain ⟨x, hx, e⟩ := hex
        have := hf x hx
        simp [e] at this
      | some i =>
        rw [List.findIdx?_eq_some_iff_getElem] at hf
        obtain ⟨hi, h1, h2⟩ := hf
        exact ⟨i, hi, fun j hj => by simpa using h2 j hj, by simpa using h1⟩
    obtain ⟨i, hi, h1, h2⟩ := hfi
    rw [place_at hi h1 h2]
    refine ifW_ndec (fun h => (h rfl).elim) fun _ => ?_
    refine ptrW_of (ptrW_of ?_)
    have hb2 := hL.mod.at hb (fun h => h)
    have hs2 := hL.mod.slOf hs fun _ _ _ _ h => h
    refine evV_of s (load_one hb2 (by kernel_rfl)) ?_
    have hlt2 : (i : Int) < (fl.length : Int) := by omega
    have h00 : (0 : Int) ≤ (i : Int) := by omega
    refine hs2.idx (f := cellsF) (sz := 5) (fun _ => rfl) h00 hlt2 fun b4 o4 cs4 m4 r4 f4 at4 _ hv4 => ?_
    refine ⟨fl[i], load_agg at4 (n := 5) (by kernel_rfl) hv4 rfl, ?_⟩
    obtain ⟨d1, d2, d3⟩ := hd i hi
    refine evC_of (s58 (hL.mod.slOf d1 fun _ _ _ _ h => h) d2 d3 fun d N S4 hN hdat e4 => ⟨_, rfl, ?_⟩)
    have hL4 := hL.ext e4
    have hSN : S.next ≤ N := Nat.le_trans hL.mod.next hN
    have hbn : b1 < N := Nat.lt_of_lt_of_le (hL.at 0 rfl).lt hN
    have hL := hL4.re
    (first | refine hL.st 0 _ rfl (by kernel_rfl) rfl (Nat.le_of_ble_eq_true rfl) rfl rfl fun S' hL hn' => ?_ | refine hL.st 1 _ rfl (by kernel_rfl) rfl (Nat.le_of_ble_eq_true rfl) rfl rfl fun S' hL hn' => ?_ | refine hL.st 2 _ rfl (by kernel_rfl) rfl (Nat.le_of_ble_eq_true rfl) rfl rfl fun S' hL hn' => ?_ | refine hL.st 3 _ rfl (by kernel_rfl) rfl (Nat.le_of_ble_eq_true rfl) rfl rfl fun S' hL hn' => ?_ | refine hL.st 4 _ rfl (by kernel_rfl) rfl (Nat.le_of_ble_eq_true rfl) rfl rfl fun S' hL hn' => ?_ | refine hL.st 5 _ rfl (by kernel_rfl) rfl (Nat.le_of_ble_eq_true rfl) rfl rfl fun S' hL hn' => ?_ | refine hL.st 6 _ rfl (by kernel_rfl) rfl (Nat.le_of_ble_eq_true rfl) rfl rfl fun S' hL hn' => ?_ | refine hL.st 7 _ rfl (by kernel_rfl) rfl (Nat.le_of_ble_eq_true rfl) rfl rfl fun S' hL hn' => ?_)
    (first | refine hL.ld 0 rfl (by kernel_rfl) _ rfl ?_ | refine hL.ld 1 rfl (by kernel_rfl) _ rfl ?_ | refine hL.ld 2 rfl (by kernel_rfl) _ rfl ?_ | refine hL.ld 3 rfl (by kernel_rfl) _ rfl ?_ | refine hL.ld 4 rfl (by kernel_rfl) _ rfl ?_ | refine hL.ld 5 rfl (by kernel_rfl) _ rfl ?_ | refine hL.ld 6 rfl (by kernel_rfl) _ rfl ?_ | refine hL.ld 7 rfl (by kernel_rfl) _ rfl ?_ | refine hL.lda 0 rfl (by kernel_rfl) _ rfl ?_ | refine hL.lda 1 rfl (by kernel_rfl) _ rfl ?_ | refine hL.lda 2 rfl (by kernel_rfl) _ rfl ?_ | refine hL.lda 3 rfl (by kernel_rfl) _ rfl ?_ | refine hL.lda 4 rfl (by kernel_rfl) _ rfl ?_ | refine hL.lda 5 rfl (by kernel_rfl) _ rfl ?_ | refine hL.lda 6 rfl (by kernel_rfl) _ rfl ?_ | refine hL.lda 7 rfl (by kernel_rfl) _ rfl ?_)
    refine hyes i hi h1 h2 d N _ hSN (mod_dat hL.mod hdat fun b hb _ hm => ?_) (hL4.back hL.mod)
    simp only [List.map_cons, List.map_nil, List.mem_cons, List.not_mem_nil, or_false] at hm
    omega
  · rw [place_no (fun j hj e => hex ⟨_, List.getElem_mem hj, e⟩)]
    refine ifW_ndec (fun _ => ?_) fun h => by cases h
    (first | refine hL.st 0 _ rfl (by kernel_rfl) rfl (Nat.le_of_ble_eq_true rfl) rfl rfl fun S' hL hn' => ?_ | refine hL.st 1 _ rfl (by kernel_rfl) rfl (Nat.le_of_ble_eq_true rfl) rfl rfl fun S' hL hn' => ?_ | refine hL.st 2 _ rfl (by kernel_rfl) rfl (Nat.le_of_ble_eq_true rfl) rfl rfl fun S' hL hn' => ?_ | refine hL.st 3 _ rfl (by kernel_rfl) rfl (Nat.le_of_ble_eq_true rfl) rfl rfl fun S' hL hn' => ?_ | refine hL.st 4 _ rfl (by kernel_rfl) rfl (Nat.le_of_ble_eq_true rfl) rfl rfl fun S' hL hn' => ?_ | refine hL.st 5 _ rfl (by kernel_rfl) rfl (Nat.le_of_ble_eq_true rfl) rfl rfl fun S' hL hn' => ?_ | refine hL.st 6 _ rfl (by kernel_rfl) rfl (Nat.le_of_ble_eq_true rfl) rfl rfl fun S' hL hn' => ?_ | refine hL.st 7 _ rfl (by kernel_rfl) rfl (Nat.le_of_ble_eq_true rfl) rfl rfl fun S' hL hn' => ?_)
    (first | refine hL.ld 0 rfl (by kernel_rfl) _ rfl ?_ | refine hL.ld 1 rfl (by kernel_rfl) _ rfl ?_ | refine hL.ld 2 rfl (by kernel_rfl) _ rfl ?_ | refine hL.ld 3 rfl (by kernel_rfl) _ rfl ?_ | refine hL.ld 4 rfl (by kernel_rfl) _ rfl ?_ | refine hL.ld 5 rfl (by kernel_rfl) _ rfl ?_ | refine hL.ld 6 rfl (by kernel_rfl) _ rfl ?_ | refine hL.ld 7 rfl (by kernel_rfl) _ rfl ?_ | refine hL.lda 0 rfl (by kernel_rfl) _ rfl ?_ | refine hL.lda 1 rfl (by kernel_rfl) _ rfl ?_ | refine hL.lda 2 rfl (by kernel_rfl) _ rfl ?_ | refine hL.lda 3 rfl (by kernel_rfl) _ rfl ?_ | refine hL.lda 4 rfl (by kernel_rfl) _ rfl ?_ | refine hL.lda 5 rfl (by kernel_rfl) _ rfl ?_ | refine hL.lda 6 rfl (by kernel_rfl) _ rfl ?_ | refine hL.lda 7 rfl (by kernel_rfl) _ rfl ?_)
    exact hno (fun x hx e => hex ⟨x, hx, e⟩) _ hL.mod
end
end Go.Proofs.Ytcookjolkhcjhaa

/- Bags: a packet comes. -/
namespace Go.Proofs.Ytcookjolkhcjhaa
open Go Go.Proofs.Ytcookjolkhcjhaa.D
set_option linter.unusedVariables false
set_option linter.unusedSimpArgs false
noncomputable section

theorem Fls.add {N : Nat} {S : St} {s : Sl} {l : List Flt} (h : Fls N S s l) {b : Nat} {v : Flt} (hat : At S b (.cells (cellsF v) none false none)) (hl : l.length ≤ 256)
    {k : Sl → St → Prop} (hk : ∀ s' S', Fls N S' s' (l ++ [v]) → Mod (fun b => N ≤ b ∧ s.a = some ⟨b, 0, none⟩) S S' → (s'.a = s.a ∨ ∃ b, s'.a = some ⟨b, 0, none⟩ ∧ S.next ≤ b) → k s' S') (hN : N ≤ S.next) :
    evP tS (appendD E0 S 55 55 (.slice s.a s.len s.cap) (.slice (some ⟨b, 0, none⟩) 1 1)) k := by
  have hx : firstD S 5 1 (.slice (some ⟨b, 0, none⟩) 1 1) = some ([v].flatMap cellsF) := by
    simp only [firstD, St.loadN, hat.get]
    rfl
  have hb3 : (l.length + [v].length) * 5 < inex := by
    have : (l.length + [v].length) * 5 ≤ 2000 := by simp; omega
    exact Nat.lt_of_le_of_lt this (by decide)
  exact GrX.append (f := cellsF) (sz := 5) (vs := [v]) (fun _ => rfl) (by omega) h und55 inf67 und55 rfl (by kernel_rfl) zero67 rfl rfl hx (oneF [v]) (by rw [bytes67]; simp; omega) (by simp; omega) (by simp) hb3 hk hN
theorem hld_one {S : St} {b : Nat} {o : DObj} (h : At S b o) : Hld (fun c => c = b) S S [(b, o)] :=
  ⟨Mod.refl _ _, fun p hp => by simp only [List.mem_cons, List.not_mem_nil, or_false] at hp; subst hp; exact ⟨h, .inr rfl⟩, by simp⟩
theorem s52full {N bb : Nat} {S : St} {s : Sl} {fl : List Flt} {last : Int} {c : Cnt} {x : Flt} {k : Value → St → Prop} (hb : At S bb (bagO s last c)) (hs : Fls N S s fl) (hlen : 256 ≤ fl.length)
    (hk : ∀ S', At S' bb (bagO s last (c.1, c.2.1, c.2.2.1, c.2.2.2.1, c.2.2.2.2.1, wrapI .i64 (c.2.2.2.2.2 + 1))) → Mod (fun b => b = bb) S S' → k (.int .i64 0) S') : WC E0 52 [.pointer (some ⟨bb, 0, none⟩), sv G66 x] S k := by
  refine w52 _ x ?_
  unfold c52
  have hL := hld_one hb
  refine hL.new fun b1 S1 hL hb1 hn1 => ?_
  refine ptrW_of (ptrW_of ?_)
  (first | refine hL.ld 0 rfl (by kernel_rfl) _ rfl ?_ | refine hL.ld 1 rfl (by kernel_rfl) _ rfl ?_ | refine hL.ld 2 rfl (by kernel_rfl) _ rfl ?_ | refine hL.ld 3 rfl (by kernel_rfl) _ rfl ?_ | refine hL.ld 4 rfl (by kernel_rfl) _ rfl ?_ | refine hL.ld 5 rfl (by kernel_rfl) _ rfl ?_ | refine hL.ld 6 rfl (by kernel_rfl) _ rfl ?_ | refine hL.ld 7 rfl (by kernel_rfl) _ rfl ?_ | refine hL.lda 0 rfl (by kernel_rfl) _ rfl ?_ | refine hL.lda 1 rfl (by kernel_rfl) _ rfl ?_ | refine hL.lda 2 rfl (by kernel_rfl) _ rfl ?_ | refine hL.lda 3 rfl (by kernel_rfl) _ rfl ?_ | refine hL.lda 4 rfl (by kernel_rfl) _ rfl ?_ | refine hL.lda 5 rfl (by kernel_rfl) _ rfl ?_ | refine hL.lda 6 rfl (by kernel_rfl) _ rfl ?_ | refine hL.lda 7 rfl (by kernel_rfl) _ rfl ?_)
  refine ifW_pos (by rw [hs.len]; omega) ?_
  refine ptrW_of (ptrW_of (ptrW_of ?_))
  (first | refine hL.ld 0 rfl (by kernel_rfl) _ rfl ?_ | refine hL.ld 1 rfl (by kernel_rfl) _ rfl ?_ | refine hL.ld 2 rfl (by kernel_rfl) _ rfl ?_ | refine hL.ld 3 rfl (by kernel_rfl) _ rfl ?_ | refine hL.ld 4 rfl (by kernel_rfl) _ rfl ?_ | refine hL.ld 5 rfl (by kernel_rfl) _ rfl ?_ | refine hL.ld 6 rfl (by kernel_rfl) _ rfl ?_ | refine hL.ld 7 rfl (by kernel_rfl) _ rfl ?_ | refine hL.lda 0 rfl (by kernel_rfl) _ rfl ?_ | refine hL.lda 1 rfl (by kernel_rfl) _ rfl ?_ | refine hL.lda 2 rfl (by kernel_rfl) _ rfl ?_ | refine hL.lda 3 rfl (by kernel_rfl) _ rfl ?_ | refine hL.lda 4 rfl (by kernel_rfl) _ rfl ?_ | refine hL.lda 5 rfl (by kernel_rfl) _ rfl ?_ | refine hL.lda 6 rfl (by kernel_rfl) _ rfl ?_ | refine hL.lda 7 rfl (by kernel_rfl) _ rfl ?_)
  refine ptrW_of (ptrW_of (ptrW_of ?_))
  (first | refine hL.st 0 _ rfl (by kernel_rfl) rfl (Nat.le_of_ble_eq_true rfl) rfl rfl fun S' hL hn' => ?_ | refine hL.st 1 _ rfl (by kernel_rfl) rfl (Nat.le_of_ble_eq_true rfl) rfl rfl fun S' hL hn' => ?_ | refine hL.st 2 _ rfl (by kernel_rfl) rfl (Nat.le_of_ble_eq_true rfl) rfl rfl fun S' hL hn' => ?_ | refine hL.st 3 _ rfl (by kernel_rfl) rfl (Nat.le_of_ble_eq_true rfl) rfl rfl fun S' hL hn' => ?_ | refine hL.st 4 _ rfl (by kernel_rfl) rfl (Nat.le_of_ble_eq_true rfl) rfl rfl fun S' hL hn' => ?_ | refine hL.st 5 _ rfl (by kernel_rfl) rfl (Nat.le_of_ble_eq_true rfl) rfl rfl fun S' hL hn' => ?_ | refine hL.st 6 _ rfl (by kernel_rfl) rfl (Nat.le_of_ble_eq_true rfl) rfl rfl fun S' hL hn' => ?_ | refine hL.st 7 _ rfl (by kernel_rfl) rfl (Nat.le_of_ble_eq_true rfl) rfl rfl fun S' hL hn' => ?_)
  exact hk _ (hL.at 1 rfl) hL.mod
theorem hld_mono {F F' : Nat → Prop} {S0 S : St} {L : List (Nat × DObj)} (h : Hld F S0 S L) (hf : ∀ c, F c → F' c) : Hld F' S0 S L :=
  ⟨h.mod.mono fun c hc _ => hf c hc, fun p hp => ⟨(h.all p hp).1, (h.all p hp).2.imp id (hf _)⟩, h.dis⟩
theorem s52 {N bb : Nat} {S : St} {s : Sl} {fl : List Flt} {last : Int} {c : Cnt} {x : Flt} {l : List Int} {k : Value → St → Prop} (hb : At S bb (bagO s last c)) (hs : Fls N S s fl) (hbN : bb < N) (hN : N ≤ S.next) (hlen : fl.length < 256) (hlast : 0 ≤ last ∧ last < 1000000000)
    (hd : SlOf cellB 1 S x.2.2.2.1 l) (hsp : ∀ a, x.2.2.2.1.a = some a → a.spot = none) (hne : l ≠ [] → ∀ b o, x.2.2.2.1.a = some ⟨b, o, none⟩ → b ≠ bb) (hl : l.length ≤ 1000000)
    (hk : ∀ s' d S', (s'.a = s.a ∨ ∃ b, s'.a = some ⟨b, 0, none⟩ ∧ S.next ≤ b) → At S' bb (bagO s' (last + 1) c) → Fls N S' s' (fl ++ [(last + 1, x.2.1, x.2.2.1, d, x.2.2.2.2)]) → Dat S.next S' d l → Mod (fun b => b = bb ∨ N ≤ b ∧ s.a = some ⟨b, 0, none⟩) S S' → k (.int .i64 (last + 1)) S') : WC E0 52 [.pointer (some ⟨bb, 0, none⟩), sv G66 x] S k := by
  refine w52 _ x ?_
  unfold c52
  have hL := hld_one hb
  refine hL.new fun b1 S1 hL hb1 hn1 => ?_
  refine ptrW_of (ptrW_of ?_)
  (first | refine hL.ld 0 rfl (by kernel_rfl) _ rfl ?_ | refine hL.ld 1 rfl (by kernel_rfl) _ rfl ?_ | refine hL.ld 2 rfl (by kernel_rfl) _ rfl ?_ | refine hL.ld 3 rfl (by kernel_rfl) _ rfl ?_ | refine hL.ld 4 rfl (by kernel_rfl) _ rfl ?_ | refine hL.ld 5 rfl (by kernel_rfl) _ rfl ?_ | refine hL.ld 6 rfl (by kernel_rfl) _ rfl ?_ | refine hL.ld 7 rfl (by kernel_rfl) _ rfl ?_ | refine hL.lda 0 rfl (by kernel_rfl) _ rfl ?_ | refine hL.lda 1 rfl (by kernel_rfl) _ rfl ?_ | refine hL.lda 2 rfl (by kernel_rfl) _ rfl ?_ | refine hL.lda 3 rfl (by kernel_rfl) _ rfl ?_ | refine hL.lda 4 rfl (by kernel_rfl) _ rfl ?_ | refine hL.lda 5 rfl (by kernel_rfl) _ rfl ?_ | refine hL.lda 6 rfl (by kernel_rfl) _ rfl ?_ | refine hL.lda 7 rfl (by kernel_rfl) _ rfl ?_)
  refine ifW_neg (by rw [hs.len]; omega) ?_
  refine ptrW_of (ptrW_of ?_)
  (first | refine hL.ld 0 rfl (by kernel_rfl) _ rfl ?_ | refine hL.ld 1 rfl (by kernel_rfl) _ rfl ?_ | refine hL.ld 2 rfl (by kernel_rfl) _ rfl ?_ | refine hL.ld 3 rfl (by kernel_rfl) _ rfl ?_ | refine hL.ld 4 rfl (by kernel_rfl) _ rfl ?_ | refine hL.ld 5 rfl (by kernel_rfl) _ rfl ?_ | refine hL.ld 6 rfl (by kernel_rfl) _ rfl ?_ | refine hL.ld 7 rfl (by kernel_rfl) _ rfl ?_ | refine hL.lda 0 rfl (by kernel_rfl) _ rfl ?_ | refine hL.lda 1 rfl (by kernel_rfl) _ rfl ?_ | refine hL.lda 2 rfl (by kernel_rfl) _ rfl ?_ | refine hL.lda 3 rfl (by kernel_rfl) _ rfl ?_ | refine hL.lda 4 rfl (by kernel_rfl) _ rfl ?_ | refine hL.lda 5 rfl (by kernel_rfl) _ rfl ?_ | refine hL.lda 6 rfl (by kernel_rfl) _ rfl ?_ | refine hL.lda 7 rfl (by kernel_rfl) _ rfl ?_)
  refine ptrW_of (ptrW_of ?_)
  rw [wrap_i64 (by omega) (by omega)]
  (first | refine hL.st 0 _ rfl (by kernel_rfl) rfl (Nat.le_of_ble_eq_true rfl) rfl rfl fun S' hL hn' => ?_ | refine hL.st 1 _ rfl (by kernel_rfl) rfl (Nat.le_of_ble_eq_true rfl) rfl rfl fun S' hL hn' => ?_ | refine hL.st 2 _ rfl (by kernel_rfl) rfl (Nat.le_of_ble_eq_true rfl) rfl rfl fun S' hL hn' => ?_ | refine hL.st 3 _ rfl (by kernel_rfl) rfl (Nat.le_of_ble_eq_true rfl) rfl rfl fun S' hL hn' => ?_ | refine hL.st 4 _ rfl (by kernel_rfl) rfl (Nat.le_of_ble_eq_true rfl) rfl rfl fun S' hL hn' => ?_ | refine hL.st 5 _ rfl (by kernel_rfl) rfl (Nat.le_of_ble_eq_true rfl) rfl rfl fun S' hL hn' => ?_ | refine hL.st 6 _ rfl (by kernel_rfl) rfl (Nat.le_of_ble_eq_true rfl) rfl rfl fun S' hL hn' => ?_ | refine hL.st 7 _ rfl (by kernel_rfl) rfl (Nat.le_of_ble_eq_true rfl) rfl rfl fun S' hL hn' => ?_)
  (first | refine hL.ld 0 rfl (by kernel_rfl) _ rfl ?_ | refine hL.ld 1 rfl (by kernel_rfl) _ rfl ?_ | refine hL.ld 2 rfl (by kernel_rfl) _ rfl ?_ | refine hL.ld 3 rfl (by kernel_rfl) _ rfl ?_ | refine hL.ld 4 rfl (by kernel_rfl) _ rfl ?_ | refine hL.ld 5 rfl (by kernel_rfl) _ rfl ?_ | refine hL.ld 6 rfl (by kernel_rfl) _ rfl ?_ | refine hL.ld 7 rfl (by kernel_rfl) _ rfl ?_ | refine hL.lda 0 rfl (by kernel_rfl) _ rfl ?_ | refine hL.lda 1 rfl (by kernel_rfl) _ rfl ?_ | refine hL.lda 2 rfl (by kernel_rfl) _ rfl ?_ | refine hL.lda 3 rfl (by kernel_rfl) _ rfl ?_ | refine hL.lda 4 rfl (by kernel_rfl) _ rfl ?_ | refine hL.lda 5 rfl (by kernel_rfl) _ rfl ?_ | refine hL.lda 6 rfl (by kernel_rfl) _ rfl ?_ | refine hL.lda 7 rfl (by kernel_rfl) _ rfl ?_)
  refine evC_of (s58 (hL.mod.slOfN hd fun hl b o he _ h => hne hl b o he h) hsp hl fun d N2 S4 hN2 hdat e4 => ⟨_, rfl, ?_⟩)
  have hL4 := hL.ext e4
  have hSN2 : S.next ≤ N2 := Nat.le_trans hL.mod.next hN2
  have hb1N : b1 < N2 := Nat.lt_of_lt_of_le (hL.at 0 rfl).lt hN2
  have hL := hL4.re
  have hmem : ∀ c, c ∈ [b1, bb] → c = b1 ∨ c = bb := fun c h => by simpa using h
  (first | refine hL.st 0 _ rfl (by kernel_rfl) rfl (Nat.le_of_ble_eq_true rfl) rfl rfl fun S' hL hn' => ?_ | refine hL.st 1 _ rfl (by kernel_rfl) rfl (Nat.le_of_ble_eq_true rfl) rfl rfl fun S' hL hn' => ?_ | refine hL.st 2 _ rfl (by kernel_rfl) rfl (Nat.le_of_ble_eq_true rfl) rfl rfl fun S' hL hn' => ?_ | refine hL.st 3 _ rfl (by kernel_rfl) rfl (Nat.le_of_ble_eq_true rfl) rfl rfl fun S' hL hn' => ?_ | refine hL.st 4 _ rfl (by kernel_rfl) rfl (Nat.le_of_ble_eq_true rfl) rfl rfl fun S' hL hn' => ?_ | refine hL.st 5 _ rfl (by kernel_rfl) rfl (Nat.le_of_ble_eq_true rfl) rfl rfl fun S' hL hn' => ?_ | refine hL.st 6 _ rfl (by kernel_rfl) rfl (Nat.le_of_ble_eq_true rfl) rfl rfl fun S' hL hn' => ?_ | refine hL.st 7 _ rfl (by kernel_rfl) rfl (Nat.le_of_ble_eq_true rfl) rfl rfl fun S' hL hn' => ?_)
  refine ptrW_of (ptrW_of ?_)
  (first | refine hL.ld 0 rfl (by kernel_rfl) _ rfl ?_ | refine hL.ld 1 rfl (by kernel_rfl) _ rfl ?_ | refine hL.ld 2 rfl (by kernel_rfl) _ rfl ?_ | refine hL.ld 3 rfl (by kernel_rfl) _ rfl ?_ | refine hL.ld 4 rfl (by kernel_rfl) _ rfl ?_ | refine hL.ld 5 rfl (by kernel_rfl) _ rfl ?_ | refine hL.ld 6 rfl (by kernel_rfl) _ rfl ?_ | refine hL.ld 7 rfl (by kernel_rfl) _ rfl ?_ | refine hL.lda 0 rfl (by kernel_rfl) _ rfl ?_ | refine hL.lda 1 rfl (by kernel_rfl) _ rfl ?_ | refine hL.lda 2 rfl (by kernel_rfl) _ rfl ?_ | refine hL.lda 3 rfl (by kernel_rfl) _ rfl ?_ | refine hL.lda 4 rfl (by kernel_rfl) _ rfl ?_ | refine hL.lda 5 rfl (by kernel_rfl) _ rfl ?_ | refine hL.lda 6 rfl (by kernel_rfl) _ rfl ?_ | refine hL.lda 7 rfl (by kernel_rfl) _ rfl ?_)
  refine ptrW_of ?_
  (first | refine hL.st 0 _ rfl (by kernel_rfl) rfl (Nat.le_of_ble_eq_true rfl) rfl rfl fun S' hL hn' => ?_ | refine hL.st 1 _ rfl (by kernel_rfl) rfl (Nat.le_of_ble_eq_true rfl) rfl rfl fun S' hL hn' => ?_ | refine hL.st 2 _ rfl (by kernel_rfl) rfl (Nat.le_of_ble_eq_true rfl) rfl rfl fun S' hL hn' => ?_ | refine hL.st 3 _ rfl (by kernel_rfl) rfl (Nat.le_of_ble_eq_true rfl) rfl rfl fun S' hL hn' => ?_ | refine hL.st 4 _ rfl (by kernel_rfl) rfl (Nat.le_of_ble_eq_true rfl) rfl rfl fun S' hL hn' => ?_ | refine hL.st 5 _ rfl (by kernel_rfl) rfl (Nat.le_of_ble_eq_true rfl) rfl rfl fun S' hL hn' => ?_ | refine hL.st 6 _ rfl (by kernel_rfl) rfl (Nat.le_of_ble_eq_true rfl) rfl rfl fun S' hL hn' => ?_ | refine hL.st 7 _ rfl (by kernel_rfl) rfl (Nat.le_of_ble_eq_true rfl) rfl rfl fun S' hL hn' => ?_)
  refine ptrW_of (ptrW_of ?_)
  (first | refine hL.ld 0 rfl (by kernel_rfl) _ rfl ?_ | refine hL.ld 1 rfl (by kernel_rfl) _ rfl ?_ | refine hL.ld 2 rfl (by kernel_rfl) _ rfl ?_ | refine hL.ld 3 rfl (by kernel_rfl) _ rfl ?_ | refine hL.ld 4 rfl (by kernel_rfl) _ rfl ?_ | refine hL.ld 5 rfl (by kernel_rfl) _ rfl ?_ | refine hL.ld 6 rfl (by kernel_rfl) _ rfl ?_ | refine hL.ld 7 rfl (by kernel_rfl) _ rfl ?_ | refine hL.lda 0 rfl (by kernel_rfl) _ rfl ?_ | refine hL.lda 1 rfl (by kernel_rfl) _ rfl ?_ | refine hL.lda 2 rfl (by kernel_rfl) _ rfl ?_ | refine hL.lda 3 rfl (by kernel_rfl) _ rfl ?_ | refine hL.lda 4 rfl (by kernel_rfl) _ rfl ?_ | refine hL.lda 5 rfl (by kernel_rfl) _ rfl ?_ | refine hL.lda 6 rfl (by kernel_rfl) _ rfl ?_ | refine hL.lda 7 rfl (by kernel_rfl) _ rfl ?_)
  (first | refine hL.ld 0 rfl (by kernel_rfl) _ rfl ?_ | refine hL.ld 1 rfl (by kernel_rfl) _ rfl ?_ | refine hL.ld 2 rfl (by kernel_rfl) _ rfl ?_ | refine hL.ld 3 rfl (by kernel_rfl) _ rfl ?_ | refine hL.ld 4 rfl (by kernel_rfl) _ rfl ?_ | refine hL.ld 5 rfl (by kernel_rfl) _ rfl ?_ | refine hL.ld 6 rfl (by kernel_rfl) _ rfl ?_ | refine hL.ld 7 rfl (by kernel_rfl) _ rfl ?_ | refine hL.lda 0 rfl (by kernel_rfl) _ rfl ?_ | refine hL.lda 1 rfl (by kernel_rfl) _ rfl ?_ | refine hL.lda 2 rfl (by kernel_rfl) _ rfl ?_ | refine hL.lda 3 rfl (by kernel_rfl) _ rfl ?_ | refine hL.lda 4 rfl (by kernel_rfl) _ rfl ?_ | refine hL.lda 5 rfl (by kernel_rfl) _ rfl ?_ | refine hL.lda 6 rfl (by kernel_rfl) _ rfl ?_ | refine hL.lda 7 rfl (by kernel_rfl) _ rfl ?_)
  refine newW_of fun b10 S9 hb10 ha9 e8 hn8 => ?_
  have hL := hL.ext e8
  (first | refine hL.ld 0 rfl (by kernel_rfl) _ rfl ?_ | refine hL.ld 1 rfl (by kernel_rfl) _ rfl ?_ | refine hL.ld 2 rfl (by kernel_rfl) _ rfl ?_ | refine hL.ld 3 rfl (by kernel_rfl) _ rfl ?_ | refine hL.ld 4 rfl (by kernel_rfl) _ rfl ?_ | refine hL.ld 5 rfl (by kernel_rfl) _ rfl ?_ | refine hL.ld 6 rfl (by kernel_rfl) _ rfl ?_ | refine hL.ld 7 rfl (by kernel_rfl) _ rfl ?_ | refine hL.lda 0 rfl (by kernel_rfl) _ rfl ?_ | refine hL.lda 1 rfl (by kernel_rfl) _ rfl ?_ | refine hL.lda 2 rfl (by kernel_rfl) _ rfl ?_ | refine hL.lda 3 rfl (by kernel_rfl) _ rfl ?_ | refine hL.lda 4 rfl (by kernel_rfl) _ rfl ?_ | refine hL.lda 5 rfl (by kernel_rfl) _ rfl ?_ | refine hL.lda 6 rfl (by kernel_rfl) _ rfl ?_ | refine hL.lda 7 rfl (by kernel_rfl) _ rfl ?_)
  refine sameV_of ?_
  have hblk : ∀ c, N ≤ c → s.a = some ⟨c, 0, none⟩ → c < S.next := by
    intro c h1 h2
    rcases hs with ⟨_, rfl⟩ | ⟨b, rest, h3, rfl, h4, _⟩
    · cases h2
    · cases h2; exact h4.lt
  have m9 : Mod (fun c => c = bb) S S9 := hL4.back hL.mod
  have hs9 : Fls N S9 s fl := m9.grX hs fun b h1 _ h2 => by omega
  have hd9 : Dat N2 S9 d l := mod_dat hL.mod hdat fun b h1 _ h2 => by rcases hmem _ h2 with rfl | rfl <;> omega
  have hL := hld_mono (F' := fun c => c ∈ [b1, bb] ∨ (N ≤ c ∧ s.a = some ⟨c, 0, none⟩)) hL fun c h => .inl h
  refine hs9.add ha9 (by omega) (fun s2 S10 g10 m10 f10 => ?_) (Nat.le_trans hN m9.next)
  have hd10 : Dat N2 S10 d l := mod_dat m10 hd9 fun b h1 _ h2 => by have := hblk b h2.1 h2.2; omega
  have hL := hL.step m10 fun c hc hlt => ⟨.inr (.inr hc), fun p hp => by
    have hcl := hblk c hc.1 hc.2
    have := hc.1
    simp only [List.set_cons_zero, List.set_cons_succ, List.mem_cons, List.not_mem_nil, or_false] at hp
    rcases hp with rfl | rfl <;> (dsimp only; omega)⟩
  have hL10 := hL
  have hbl := hb.lt
  have hL := hld_one (hL10.at 1 rfl)
  refine ptrW_of (ptrW_of ?_)
  (first | refine hL.st 0 _ rfl (by kernel_rfl) rfl (Nat.le_of_ble_eq_true rfl) rfl rfl fun S' hL hn' => ?_ | refine hL.st 1 _ rfl (by kernel_rfl) rfl (Nat.le_of_ble_eq_true rfl) rfl rfl fun S' hL hn' => ?_ | refine hL.st 2 _ rfl (by kernel_rfl) rfl (Nat.le_of_ble_eq_true rfl) rfl rfl fun S' hL hn' => ?_ | refine hL.st 3 _ rfl (by kernel_rfl) rfl (Nat.le_of_ble_eq_true rfl) rfl rfl fun S' hL hn' => ?_ | refine hL.st 4 _ rfl (by kernel_rfl) rfl (Nat.le_of_ble_eq_true rfl) rfl rfl fun S' hL hn' => ?_ | refine hL.st 5 _ rfl (by kernel_rfl) rfl (Nat.le_of_ble_eq_true rfl) rfl rfl fun S' hL hn' => ?_ | refine hL.st 6 _ rfl (by kernel_rfl) rfl (Nat.le_of_ble_eq_true rfl) rfl rfl fun S' hL hn' => ?_ | refine hL.st 7 _ rfl (by kernel_rfl) rfl (Nat.le_of_ble_eq_true rfl) rfl rfl fun S' hL hn' => ?_)
  have m11 := hL.mod
  refine ptrW_of ?_
  refine evV_of (last + 1) (load_one (m11.at (hL10.at 0 rfl) (by omega)) (by kernel_rfl)) ?_
  refine hk s2 d _ (f10.imp id fun ⟨b, h1, h2⟩ => ⟨b, h1, Nat.le_trans m9.next h2⟩) (hL.at 0 rfl) (m11.grX g10 fun b h1 _ h2 => by omega) ?_ ?_
  · exact (mod_dat m11 hd10 (fun b h1 _ h2 => by omega)).down hSN2
  · refine Mod.trans (hL4.mod.mono fun c hc _ => Or.inl hc) (hL10.mod.trans m11 fun c hc _ => .inl (by simp [hc])) fun c hc hlt => ?_
    rcases hc with hc | hc
    · rcases hmem _ hc with rfl | rfl
      · omega
      · exact .inl rfl
    · exact .inr hc
end
end Go.Proofs.Ytcookjolkhcjhaa

/- Bags: a packet is sent. -/
namespace Go.Proofs.Ytcookjolkhcjhaa
open Go Go.Proofs.Ytcookjolkhcjhaa.D
set_option linter.unusedVariables false
set_option linter.unusedSimpArgs false
noncomputable section

theorem s26 {N bb : Nat} {S : St} {s : Sl} {fl : List Flt} {last : Int} {c : Cnt} {fr to : Int} {da : Sl} {l : List Int} {k : Value → St → Prop} (hb : At S bb (bagO s last c)) (hs : Fls N S s fl) (hbN : bb < N) (hN : N ≤ S.next) (hlen : fl.length ≤ 256) (hlast : 0 ≤ last ∧ last < 1000000000) (hc : 0 ≤ c.1 ∧ c.1 < 1000000000)
    (hd : SlOf cellB 1 S da l) (hsp : ∀ a, da.a = some a → a.spot = none) (hne : l ≠ [] → ∀ b o, da.a = some ⟨b, o, none⟩ → b ≠ bb) (hl : l.length ≤ 1000000)
    (hfull : fl.length = 256 → ∀ S', At S' bb (bagO s last (c.1 + 1, c.2.1, c.2.2.1, c.2.2.2.1, c.2.2.2.2.1, wrapI .i64 (c.2.2.2.2.2 + 1))) → Fls N S' s fl → Mod (fun b => b = bb) S S' → k (.int .i64 0) S')
    (hput : fl.length < 256 → ∀ s' d S', (s'.a = s.a ∨ ∃ b, s'.a = some ⟨b, 0, none⟩ ∧ S.next ≤ b) → At S' bb (bagO s' (last + 1) (c.1 + 1, c.2)) → Fls N S' s' (fl ++ [(last + 1, fr, to, d, false)]) → Dat S.next S' d l → Mod (fun b => b = bb ∨ N ≤ b ∧ s.a = some ⟨b, 0, none⟩) S S' → k (.int .i64 (last + 1)) S') :
    WC E0 26 [.pointer (some ⟨bb, 0, none⟩), .int .i64 fr, .int .i64 to, .slice da.a da.len da.cap] S k := by
  refine w26 _ fr to da ?_
  unfold c26
  refine ⟨false, eqPtr _ _, ?_⟩
  refine ifW_of (fun h => by cases h) fun _ => ?_
  have hL := hld_one hb
  refine ptrW_of (ptrW_of (ptrW_of ?_))
  (first | refine hL.ld 0 rfl (by kernel_rfl) _ rfl ?_ | refine hL.ld 1 rfl (by kernel_rfl) _ rfl ?_ | refine hL.ld 2 rfl (by kernel_rfl) _ rfl ?_ | refine hL.ld 3 rfl (by kernel_rfl) _ rfl ?_ | refine hL.ld 4 rfl (by kernel_rfl) _ rfl ?_ | refine hL.ld 5 rfl (by kernel_rfl) _ rfl ?_ | refine hL.ld 6 rfl (by kernel_rfl) _ rfl ?_ | refine hL.ld 7 rfl (by kernel_rfl) _ rfl ?_ | refine hL.lda 0 rfl (by kernel_rfl) _ rfl ?_ | refine hL.lda 1 rfl (by kernel_rfl) _ rfl ?_ | refine hL.lda 2 rfl (by kernel_rfl) _ rfl ?_ | refine hL.lda 3 rfl (by kernel_rfl) _ rfl ?_ | refine hL.lda 4 rfl (by kernel_rfl) _ rfl ?_ | refine hL.lda 5 rfl (by kernel_rfl) _ rfl ?_ | refine hL.lda 6 rfl (by kernel_rfl) _ rfl ?_ | refine hL.lda 7 rfl (by kernel_rfl) _ rfl ?_)
  refine ptrW_of (ptrW_of (ptrW_of ?_))
  rw [wrap_i64 (by omega) (by omega)]
  (first | refine hL.st 0 _ rfl (by kernel_rfl) rfl (Nat.le_of_ble_eq_true rfl) rfl rfl fun S' hL hn' => ?_ | refine hL.st 1 _ rfl (by kernel_rfl) rfl (Nat.le_of_ble_eq_true rfl) rfl rfl fun S' hL hn' => ?_ | refine hL.st 2 _ rfl (by kernel_rfl) rfl (Nat.le_of_ble_eq_true rfl) rfl rfl fun S' hL hn' => ?_ | refine hL.st 3 _ rfl (by kernel_rfl) rfl (Nat.le_of_ble_eq_true rfl) rfl rfl fun S' hL hn' => ?_ | refine hL.st 4 _ rfl (by kernel_rfl) rfl (Nat.le_of_ble_eq_true rfl) rfl rfl fun S' hL hn' => ?_ | refine hL.st 5 _ rfl (by kernel_rfl) rfl (Nat.le_of_ble_eq_true rfl) rfl rfl fun S' hL hn' => ?_ | refine hL.st 6 _ rfl (by kernel_rfl) rfl (Nat.le_of_ble_eq_true rfl) rfl rfl fun S' hL hn' => ?_ | refine hL.st 7 _ rfl (by kernel_rfl) rfl (Nat.le_of_ble_eq_true rfl) rfl rfl fun S' hL hn' => ?_)
  have hs' := hL.mod.grX hs fun b h1 _ h2 => by omega
  by_cases hf : fl.length = 256
  · refine evC_of (s52full (x := (0, fr, to, da, false)) (c := (c.1 + 1, c.2)) (hL.at 0 rfl) hs' (by omega) fun S2 h2 m2 => ⟨_, rfl, ?_⟩)
    exact hfull hf S2 h2 (m2.grX hs' fun b h1 _ h2 => by omega) (hL.mod.trans m2 fun b h _ => h)
  · refine evC_of (s52 (x := (0, fr, to, da, false)) (c := (c.1 + 1, c.2)) (hL.at 0 rfl) hs' hbN (Nat.le_trans hN hL.mod.next) (by omega) hlast (hL.mod.slOfN hd fun hl b o he _ h => hne hl b o he h) hsp hne hl fun s2 d S2 f2 h2 g2 d2 m2 => ⟨_, rfl, ?_⟩)
    refine hput (by omega) s2 d S2 (f2.imp id fun ⟨b, h1, h2⟩ => ⟨b, h1, Nat.le_trans hL.mod.next h2⟩) h2 g2 ?_ (Mod.trans (hL.mod.mono fun c hc _ => Or.inl hc) m2 fun b h _ => h)
    exact d2.down hL.mod.next
end
end Go.Proofs.Ytcookjolkhcjhaa

/- Bags: one is delivered, or dropped: the counts. -/
namespace Go.Proofs.Ytcookjolkhcjhaa
open Go Go.Proofs.Ytcookjolkhcjhaa.D
set_option linter.unusedVariables false
set_option linter.unusedSimpArgs false
noncomputable section

theorem s54 {bb c0 : Nat} {S : St} {s : Sl} {last : Int} {c : Cnt} {k : Value → St → Prop} (h0 : At S c0 (.cells [.pointer (some ⟨bb, 0, none⟩)] none false none)) (hb : At S bb (bagO s last c)) (hc : 0 ≤ c.2.1 ∧ c.2.1 < 1000000000)
    (hk : ∀ S', At S' bb (bagO s last (c.1, c.2.1 + 1, c.2.2)) → Mod (fun b => b = bb) S S' → k (.tuple #[]) S') : WC E0 54 [.pointer (some ⟨c0, 0, none⟩)] S k := by
  refine w54 c0 ?_
  unfold c54
  refine evV_of (some ⟨bb, 0, none⟩) (load_one h0 (by kernel_rfl)) ?_
  have hL := hld_one hb
  refine ptrW_of (ptrW_of (ptrW_of ?_))
  (first | refine hL.ld 0 rfl (by kernel_rfl) _ rfl ?_ | refine hL.ld 1 rfl (by kernel_rfl) _ rfl ?_ | refine hL.ld 2 rfl (by kernel_rfl) _ rfl ?_ | refine hL.ld 3 rfl (by kernel_rfl) _ rfl ?_ | refine hL.ld 4 rfl (by kernel_rfl) _ rfl ?_ | refine hL.ld 5 rfl (by kernel_rfl) _ rfl ?_ | refine hL.ld 6 rfl (by kernel_rfl) _ rfl ?_ | refine hL.ld 7 rfl (by kernel_rfl) _ rfl ?_ | refine hL.lda 0 rfl (by kernel_rfl) _ rfl ?_ | refine hL.lda 1 rfl (by kernel_rfl) _ rfl ?_ | refine hL.lda 2 rfl (by kernel_rfl) _ rfl ?_ | refine hL.lda 3 rfl (by kernel_rfl) _ rfl ?_ | refine hL.lda 4 rfl (by kernel_rfl) _ rfl ?_ | refine hL.lda 5 rfl (by kernel_rfl) _ rfl ?_ | refine hL.lda 6 rfl (by kernel_rfl) _ rfl ?_ | refine hL.lda 7 rfl (by kernel_rfl) _ rfl ?_)
  refine ptrW_of (ptrW_of (ptrW_of ?_))
  rw [wrap_i64 (by omega) (by omega)]
  (first | refine hL.st 0 _ rfl (by kernel_rfl) rfl (Nat.le_of_ble_eq_true rfl) rfl rfl fun S' hL hn' => ?_ | refine hL.st 1 _ rfl (by kernel_rfl) rfl (Nat.le_of_ble_eq_true rfl) rfl rfl fun S' hL hn' => ?_ | refine hL.st 2 _ rfl (by kernel_rfl) rfl (Nat.le_of_ble_eq_true rfl) rfl rfl fun S' hL hn' => ?_ | refine hL.st 3 _ rfl (by kernel_rfl) rfl (Nat.le_of_ble_eq_true rfl) rfl rfl fun S' hL hn' => ?_ | refine hL.st 4 _ rfl (by kernel_rfl) rfl (Nat.le_of_ble_eq_true rfl) rfl rfl fun S' hL hn' => ?_ | refine hL.st 5 _ rfl (by kernel_rfl) rfl (Nat.le_of_ble_eq_true rfl) rfl rfl fun S' hL hn' => ?_ | refine hL.st 6 _ rfl (by kernel_rfl) rfl (Nat.le_of_ble_eq_true rfl) rfl rfl fun S' hL hn' => ?_ | refine hL.st 7 _ rfl (by kernel_rfl) rfl (Nat.le_of_ble_eq_true rfl) rfl rfl fun S' hL hn' => ?_)
  exact hk _ (hL.at 0 rfl) hL.mod
theorem s55 {bb c0 : Nat} {S : St} {s : Sl} {last : Int} {c : Cnt} {k : Value → St → Prop} (h0 : At S c0 (.cells [.pointer (some ⟨bb, 0, none⟩)] none false none)) (hb : At S bb (bagO s last c)) (hc : 0 ≤ c.2.2.1 ∧ c.2.2.1 < 1000000000)
    (hk : ∀ S', At S' bb (bagO s last (c.1, c.2.1, c.2.2.1 + 1, c.2.2.2)) → Mod (fun b => b = bb) S S' → k (.tuple #[]) S') : WC E0 55 [.pointer (some ⟨c0, 0, none⟩)] S k := by
  refine w55 c0 ?_
  unfold c55
  refine evV_of (some ⟨bb, 0, none⟩) (load_one h0 (by kernel_rfl)) ?_
  have hL := hld_one hb
  refine ptrW_of (ptrW_of (ptrW_of ?_))
  (first | refine hL.ld 0 rfl (by kernel_rfl) _ rfl ?_ | refine hL.ld 1 rfl (by kernel_rfl) _ rfl ?_ | refine hL.ld 2 rfl (by kernel_rfl) _ rfl ?_ | refine hL.ld 3 rfl (by kernel_rfl) _ rfl ?_ | refine hL.ld 4 rfl (by kernel_rfl) _ rfl ?_ | refine hL.ld 5 rfl (by kernel_rfl) _ rfl ?_ | refine hL.ld 6 rfl (by kernel_rfl) _ rfl ?_ | refine hL.ld 7 rfl (by kernel_rfl) _ rfl ?_ | refine hL.lda 0 rfl (by kernel_rfl) _ rfl ?_ | refine hL.lda 1 rfl (by kernel_rfl) _ rfl ?_ | refine hL.lda 2 rfl (by kernel_rfl) _ rfl ?_ | refine hL.lda 3 rfl (by kernel_rfl) _ rfl ?_ | refine hL.lda 4 rfl (by kernel_rfl) _ rfl ?_ | refine hL.lda 5 rfl (by kernel_rfl) _ rfl ?_ | refine hL.lda 6 rfl (by kernel_rfl) _ rfl ?_ | refine hL.lda 7 rfl (by kernel_rfl) _ rfl ?_)
  refine ptrW_of (ptrW_of (ptrW_of ?_))
  rw [wrap_i64 (by omega) (by omega)]
  (first | refine hL.st 0 _ rfl (by kernel_rfl) rfl (Nat.le_of_ble_eq_true rfl) rfl rfl fun S' hL hn' => ?_ | refine hL.st 1 _ rfl (by kernel_rfl) rfl (Nat.le_of_ble_eq_true rfl) rfl rfl fun S' hL hn' => ?_ | refine hL.st 2 _ rfl (by kernel_rfl) rfl (Nat.le_of_ble_eq_true rfl) rfl rfl fun S' hL hn' => ?_ | refine hL.st 3 _ rfl (by kernel_rfl) rfl (Nat.le_of_ble_eq_true rfl) rfl rfl fun S' hL hn' => ?_ | refine hL.st 4 _ rfl (by kernel_rfl) rfl (Nat.le_of_ble_eq_true rfl) rfl rfl fun S' hL hn' => ?_ | refine hL.st 5 _ rfl (by kernel_rfl) rfl (Nat.le_of_ble_eq_true rfl) rfl rfl fun S' hL hn' => ?_ | refine hL.st 6 _ rfl (by kernel_rfl) rfl (Nat.le_of_ble_eq_true rfl) rfl rfl fun S' hL hn' => ?_ | refine hL.st 7 _ rfl (by kernel_rfl) rfl (Nat.le_of_ble_eq_true rfl) rfl rfl fun S' hL hn' => ?_)
  exact hk _ (hL.at 0 rfl) hL.mod
end
end Go.Proofs.Ytcookjolkhcjhaa
