/- Bags: packets, and one that is taken out of a list. -/
import Derived.Test.YtcookjolkhcjhaaC3
import Derived.Test.YtcookjolkhcjhaaD31
namespace Go.Proofs.Ytcookjolkhcjhaa
open Go Go.Proofs.Ytcookjolkhcjhaa.D
set_option linter.unusedVariables false
set_option linter.unusedSimpArgs false
noncomputable section

theorem und55 : E0.und 55 = some (.slice 67) := by kernel_rfl
theorem inf67 : E0.inf 67 = some DEnv.i67 := by kernel_rfl
theorem size67 : E0.size 67 = some 5 := by kernel_rfl
theorem bytes67 : DEnv.i67.bytes = 56 := by kernel_rfl
abbrev zeroF : Value := .agg #[.int .i64 0, .int .i64 0, .int .i64 0, .slice none 0 0, .bool false]
theorem zero67 : DEnv.i67.zero = some zeroF := by kernel_rfl
/-- A packet, as cells: its number, from, to, its bytes' slice, spoilt? -/
abbrev Flt := Int × Int × Int × Sl × Bool
abbrev cellsF (x : Flt) : List Value := [.int .i64 x.1, .int .i64 x.2.1, .int .i64 x.2.2.1, .slice x.2.2.2.1.a x.2.2.2.1.len x.2.2.2.1.cap, .bool x.2.2.2.2]
abbrev Fls (N : Nat) (S : St) (s : Sl) (l : List Flt) : Prop := GrX cellsF 5 N S s l
theorem oneF (l : List Flt) : (l.flatMap cellsF).all St.one = true := by
  induction l with
  | nil => rfl
  | cons x r ih => rw [List.flatMap_cons, List.all_append, ih]; rfl

/-- Delete's append: what stands behind place i comes one place nearer. -/
theorem del_append {S : St} {b i : Nat} {l : List Flt} {rest : List Value} (hat : At S b (.cells (l.flatMap cellsF ++ rest) (some 5) false none)) (hi : i < l.length) (hlen : l.length ≤ 256) :
    ∃ S' rest', appendD E0 S 55 55 (.slice (some ⟨b, 0, none⟩) i inex) (.slice (some ⟨b, 0 + (i + 1) * 5, none⟩) (l.length - (i + 1)) inex) = some (.slice (some ⟨b, 0, none⟩) (l.length - 1) inex, S')
      ∧ At S' b (.cells ((l.eraseIdx i).flatMap cellsF ++ rest') (some 5) false none) ∧ Mod (fun c => c = b) S S' ∧ S'.next = S.next ∧ rest'.length = rest.length + 5 := by
  have hf : ∀ x, (cellsF x).length = 5 := fun _ => rfl
  have hel : (l.eraseIdx i).length = l.length - 1 := List.length_eraseIdx_of_lt hi
  have hcs : (l.flatMap cellsF ++ rest).length = l.length * 5 + rest.length := by rw [List.length_append, flat_len hf]
  have h1 : Nat.beq (cellsOf zeroF).length 5 = true := by rfl
  have e0 : DEnv.i67.size = 5 := by kernel_rfl
  have h2 : Nat.blt 0 5 = true := rfl
  by_cases hn : l.length - (i + 1) = 0
  · have e : l.eraseIdx i = l.take i := by
      rw [List.eraseIdx_eq_take_drop_succ, List.drop_of_length_le (by omega), List.append_nil]
    refine ⟨S, (l.drop i).flatMap cellsF ++ rest, ?_, ?_, Mod.refl _ _, rfl, ?_⟩
    · have e1 : l.length - 1 = i := by omega
      have h3 : Nat.ble (i * DEnv.i67.bytes) 17592186044416 = true := Nat.ble_eq_true_of_le (by rw [bytes67]; omega)
      have h4 : Nat.ble i 17592186044416 = true := Nat.ble_eq_true_of_le (by omega)
      have h5 : Nat.beq ([] : List Value).length (0 * 5) = true := rfl
      simp only [hn, e1, appendD, und55, inf67, apK, cond_true, zero67, Option.bind_some, lenOfD, firstD, e0, Nat.zero_mul, Nat.beq_refl, h1, h2, h3, h4, List.length_nil, Bool.and_true, Nat.sub_zero, Nat.add_zero]
    · rw [e, ← List.append_assoc, ← List.flatMap_append, List.take_append_drop]; exact hat
    · rw [List.length_append, flat_len hf, List.length_drop]; omega
  · have hn' : Nat.beq ((l.length - (i + 1)) * 5) 0 = false := Bool.eq_false_iff.2 fun hh => by have := Nat.eq_of_beq_eq_true hh; omega
    have hn2 : Nat.beq (l.length - (i + 1)) 0 = false := Bool.eq_false_iff.2 fun hh => hn (Nat.eq_of_beq_eq_true hh)
    have hld : (((l.flatMap cellsF ++ rest).drop (0 + (i + 1) * 5)).take ((l.length - (i + 1)) * 5)) = (l.drop (i + 1)).flatMap cellsF := by
      rw [Nat.zero_add, List.drop_append_of_le_length (by rw [flat_len hf]; omega), flat_drop hf, List.take_append_of_le_length (by rw [flat_len hf, List.length_drop]; exact Nat.le_refl _), List.take_of_length_le (by rw [flat_len hf, List.length_drop]; exact Nat.le_refl _)]
    have hdl : ((l.drop (i + 1)).flatMap cellsF).length = (l.length - (i + 1)) * 5 := by rw [flat_len hf, List.length_drop]
    have h3 : Nat.ble ((i + (l.length - (i + 1))) * DEnv.i67.bytes) 17592186044416 = true := Nat.ble_eq_true_of_le (by rw [bytes67]; omega)
    have h4 : Nat.ble (i + (l.length - (i + 1))) 17592186044416 = true := Nat.ble_eq_true_of_le (by omega)
    have h6 : Nat.ble (0 + (i + (l.length - (i + 1))) * 5) (l.flatMap cellsF ++ rest).length = true := Nat.ble_eq_true_of_le (by rw [hcs]; omega)
    have h7 : Nat.ble (0 + i * 5 + (l.length - (i + 1)) * 5) (l.flatMap cellsF ++ rest).length = true := Nat.ble_eq_true_of_le (by rw [hcs]; omega)
    have e1 : i + (l.length - (i + 1)) = l.length - 1 := by omega
    rw [e1] at h3 h4 h6
    refine ⟨S.upd b (.cells ((l.flatMap cellsF ++ rest).take (0 + i * 5) ++ ((l.drop (i + 1)).flatMap cellsF ++ (l.flatMap cellsF ++ rest).drop (0 + i * 5 + (l.length - (i + 1)) * 5))) (some 5) false none), (l.flatMap cellsF ++ rest).drop (0 + i * 5 + (l.length - (i + 1)) * 5), ?_, ?_, upd_mod, rfl, ?_⟩
    · simp only [appendD, und55, inf67, apK, cond_true, zero67, Option.bind_some, lenOfD, firstD, e0, hn', hn2, cond_false, St.loadN, hat.get, hld, hdl, Nat.beq_refl, h1, h2, h3, h4, Bool.and_true, h6, St.storeN, Bool.not_false, h7, oneF, St.fzOk, Option.map_some, Bool.true_and, e1]
    · have e2 : l.eraseIdx i = l.take i ++ l.drop (i + 1) := List.eraseIdx_eq_take_drop_succ ..
      rw [e2, List.flatMap_append, List.append_assoc]
      have e3 : (l.flatMap cellsF ++ rest).take (0 + i * 5) = (l.take i).flatMap cellsF := by
        have : l.flatMap cellsF = (l.take i).flatMap cellsF ++ (l.drop i).flatMap cellsF := by rw [← List.flatMap_append, List.take_append_drop]
        rw [this, List.append_assoc, Nat.zero_add, List.take_left' (by rw [flat_len hf, List.length_take]; omega)]
      rw [← e3]
      exact upd_at hat
    · rw [List.length_drop, hcs]; omega
/-- One is taken out. -/
theorem s68 {N : Nat} {S : St} {s : Sl} {l : List Flt} {i : Nat} {k : Value → St → Prop} (h : Fls N S s l) (hi : i < l.length) (hlen : l.length ≤ 256)
    (hk : ∀ s' S', Fls N S' s' (l.eraseIdx i) → Mod (fun b => N ≤ b ∧ s.a = some ⟨b, 0, none⟩) S S' → s'.a = s.a → S'.next = S.next → k (.slice s'.a s'.len s'.cap) S') :
    WC E0 68 [.slice s.a s.len s.cap, .int .i64 (i : Int), .int .i64 ((i + 1 : Nat) : Int)] S k := by
  refine w68 s _ _ ?_
  unfold c68
  rcases h with ⟨rfl, rfl⟩ | ⟨b, rest, hN, rfl, hat, hlt⟩
  · cases hi
  have hf : ∀ x, (cellsF x).length = 5 := fun _ => rfl
  have hcs : (l.flatMap cellsF ++ rest).length = l.length * 5 + rest.length := by rw [List.length_append, flat_len hf]
  have hr := roomD_at (o := 0) hat (by omega)
  rw [hcs] at hr
  have hroom : Nat.max l.length (roomD S b 0 5) < inex := by
    show max l.length (roomD S b 0 5) < inex
    have : (l.length * 5 + rest.length - 0) / 5 ≤ l.length * 5 + rest.length := by omega
    omega
  have hmx : l.length ≤ Nat.max l.length (roomD S b 0 5) := Nat.le_max_left _ _
  refine evV_of ⟨_, _, _⟩ (sliceD_grow3 (lo := i) (hi := i + 1) (mx := l.length) und55 size67 hat rfl (natOf_int (k := .i64)) (natOf_int (k := .i64)) (natOf_int (k := .i64)) (by omega) (by omega) hmx (by omega)) ?_
  refine ifW_neg (by omega) ?_
  refine evV_of ⟨_, _, _⟩ (sliceD_grow (lo := 0) (hi := i) und55 size67 hat rfl (natOf_int (k := .i64)) (by omega) (Nat.le_trans (by omega : i ≤ l.length) hmx) hroom) ?_
  refine evV_of ⟨_, _, _⟩ (sliceD_grow (lo := i + 1) (hi := l.length) und55 size67 hat (natOf_int (k := .i64)) rfl (by omega) hmx hroom) ?_
  obtain ⟨S1, rest1, happ, hat1, hm1, hn1, hr1⟩ := del_append hat hi hlen
  refine ⟨⟨_, _, _⟩, S1, happ, ?_⟩
  have hel : (l.eraseIdx i).length = l.length - 1 := List.length_eraseIdx_of_lt hi
  have hcs1 : ((l.eraseIdx i).flatMap cellsF ++ rest1).length = (l.length - 1) * 5 + rest1.length := by rw [List.length_append, flat_len hf, hel]
  have hr2 := roomD_at (o := 0) hat1 (by omega)
  rw [hcs1] at hr2
  have hge : l.length ≤ roomD S1 b 0 5 := by rw [hr2]; omega
  have hroom1 : Nat.max (l.length - 1) (roomD S1 b 0 5) < inex := by
    show max (l.length - 1) (roomD S1 b 0 5) < inex
    omega
  refine evV_of ⟨_, _, _⟩ (sliceD_grow (lo := l.length - 1) (hi := l.length) und55 size67 hat1 (natOf_int (k := .i64)) (natOf_int (k := .i64)) (by omega) (Nat.le_trans hge (Nat.le_max_right _ _)) hroom1) ?_
  have e1 : l.length - (l.length - 1) = 1 := by omega
  have hz : zerosD (cellsOf zeroF) 1 = cellsF (0, 0, 0, ⟨none, 0, 0⟩, false) := rfl
  have hone : (cellsF (0, 0, 0, ⟨none, 0, 0⟩, false)).all St.one = true := rfl
  have hle : Nat.ble (0 + (l.length - 1) * 5 + 5) ((l.eraseIdx i).flatMap cellsF ++ rest1).length = true := Nat.ble_eq_true_of_le (by rw [hcs1]; omega)
  have hlen5 : (cellsF (0, 0, 0, ⟨none, 0, 0⟩, false)).length = 5 := rfl
  have hb0 : Nat.beq 1 0 = false := rfl
  have hres : ((l.eraseIdx i).flatMap cellsF ++ rest1).take (0 + (l.length - 1) * 5) ++ (cellsF (0, 0, 0, ⟨none, 0, 0⟩, false) ++ ((l.eraseIdx i).flatMap cellsF ++ rest1).drop (0 + (l.length - 1) * 5 + 5)) = (l.eraseIdx i).flatMap cellsF ++ (cellsF (0, 0, 0, ⟨none, 0, 0⟩, false) ++ rest1.drop 5) := by
    have h5 : ((l.eraseIdx i).flatMap cellsF).length = 0 + (l.length - 1) * 5 := by rw [flat_len hf, hel]; omega
    rw [List.take_left' h5, ← List.drop_drop, List.drop_left' h5]
  refine ⟨S1.upd b (.cells ((l.eraseIdx i).flatMap cellsF ++ (cellsF (0, 0, 0, ⟨none, 0, 0⟩, false) ++ rest1.drop 5)) (some 5) false none), ?_, ?_⟩
  · simp only [clearD, und55, inf67, zero67, Option.bind_some, e1, hb0, cond_false, hz, St.storeN, hat1.get, hlen5, hle, hone, St.fzOk, Bool.not_false, Bool.and_true, cond_true, hres]
  · refine hk ⟨some ⟨b, 0, none⟩, l.length - 1, inex⟩ _ (.inr ⟨b, _, hN, by rw [hel], upd_at hat1, ?_⟩) ?_ rfl hn1
    · rw [hel, List.length_append, List.length_drop, hlen5]; omega
    · exact (hm1.trans upd_mod fun c hc _ => hc).mono fun c hc _ => by subst hc; exact ⟨hN, rfl⟩
end
end Go.Proofs.Ytcookjolkhcjhaa
