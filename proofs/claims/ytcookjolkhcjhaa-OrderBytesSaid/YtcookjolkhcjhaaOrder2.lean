/- Scripts out of bytes: the parts of four. -/
import Derived.Test.YtcookjolkhcjhaaOrder1
namespace Go.Proofs.Ytcookjolkhcjhaa
open Go Go.Proofs.Ytcookjolkhcjhaa.D
set_option linter.unusedVariables false
set_option linter.unusedSimpArgs false
noncomputable section

theorem und42 : E0.und 42 = some (.slice 5) := by kernel_rfl
theorem size5 : E0.size 5 = some 1 := by kernel_rfl
theorem s66 {y : Value} {c1 c2 : Nat} {S : St} {b : Sl} {l : List Int} (hlc : b.len ≤ b.cap) (hci : b.cap < inex) (hlen : l.length ≤ 4000) (I : Nat → St → Prop) {Q : St → Prop}
    (hm : ∀ i S', I i S' → At S' c1 (.cells [.slice b.a b.len b.cap] none false none) ∧ At S' c2 (.cells [.int .i64 4] none false none) ∧ Bs S' b l) (h0 : I 0 S)
    (hstep : ∀ i S' s', 4 * i < l.length → I i S' → (∀ S'', Bs S'' b l → Bs S'' s' ((l.drop (4 * i)).take (min 4 (l.length - 4 * i)))) → evY E0 tB y [.slice s'.a s'.len s'.cap] S' fun t S'' => (t = true → I (i + 1) S'') ∧ (t = false → Q S''))
    (hend : ∀ i S', l.length ≤ 4 * i → I i S' → Q S') : WC E0 66 [y, .pointer (some ⟨c1, 0, none⟩), .pointer (some ⟨c2, 0, none⟩)] S fun _ S' => Q S' := by
  refine w66 y c1 c2 ?_
  unfold c66
  refine loopW_ind (fun q (x : Int) S' => ∃ i : Nat, x = ((4 * i : Nat) : Int) ∧ 4 * i ≤ l.length + 3 ∧ q = l.length + 4 - 4 * i ∧ I i S') (m := l.length + 4) ⟨0, rfl, by omega, rfl, h0⟩ ?_
  rintro P q x S1 ⟨i, rfl, h1, rfl, hi⟩ hP
  obtain ⟨a1, a2, ab⟩ := hm i S1 hi
  have hbl := ab.len
  refine evV_of b (load_one a1 (by kernel_rfl)) ?_
  refine ifW_dec (fun hlt => ?_) fun hlt => ?_
  · have hlt' : 4 * i < l.length := by omega
    obtain ⟨bb, o, cs, more, ro, fz, ea, eat, _⟩ := ab.mem (by rintro rfl; simp at hlt')
    refine evV_of 4 (load_one a2 (by kernel_rfl)) ?_
    refine evV_of b (load_one a1 (by kernel_rfl)) ?_
    refine evV_of ⟨some ⟨bb, cond (Nat.beq b.cap (4 * i)) o (o + 4 * i * 1), none⟩, b.len - 4 * i, b.cap - 4 * i⟩ (sliceD_some (lo := 4 * i) (hi := b.len) (mx := b.cap) und42 size5 ea hci (natOf_int (k := .i64)) rfl rfl (by omega) hlc (Nat.le_refl _)) ?_
    refine evV_of b (load_one a1 (by kernel_rfl)) ?_
    dsimp only
    rw [minmax_min]
    have e : wrapI .i64 (((4 * i : Nat) : Int) + min 4 ((b.len - 4 * i : Nat) : Int)) = ((4 * i + min 4 (l.length - 4 * i) : Nat) : Int) := by
      rw [wrap_i64 (by omega) (by omega)]; omega
    rw [e]
    generalize hmx : 4 * i + min 4 (l.length - 4 * i) = mx
    have hd : min 4 (l.length - 4 * i) = mx - 4 * i := by omega
    refine evV_of ⟨some ⟨bb, cond (Nat.beq mx (4 * i)) o (o + 4 * i * 1), none⟩, mx - 4 * i, mx - 4 * i⟩ (sliceD_some (lo := 4 * i) (hi := mx) (mx := mx) und42 size5 ea hci (natOf_int (k := .i64)) (natOf_int (k := .i64)) (natOf_int (k := .i64)) (by omega) (Nat.le_refl _) (by omega)) ?_
    have hs := fun S'' (ab : Bs S'' b l) => ab.part (sz := 1) (fun _ => rfl) (lo := 4 * i) (hi := mx) (c := mx - 4 * i) (o' := cond (Nat.beq mx (4 * i)) o (o + 4 * i * 1)) ea (by omega) (by omega) (fun hne => by rw [PM.beq_f hne]; rfl)
    rw [← hd] at hs ⊢
    refine WV.mono (hstep i S1 _ hlt' hi hs) ?_
    rintro v S2 ⟨t, rfl, ht1, ht2⟩
    refine ⟨t, rfl, ifW_of (fun h => ht2 (by simpa using h)) fun h => ?_⟩
    have hi2 := ht1 (by simpa using h)
    obtain ⟨a1, a2, ab⟩ := hm (i + 1) S2 hi2
    refine evV_of 4 (load_one a2 (by kernel_rfl)) ?_
    have e : wrapI .i64 (((4 * i : Nat) : Int) + 4) = ((4 * (i + 1) : Nat) : Int) := by rw [wrap_i64 (by omega) (by omega)]; omega
    rw [e]
    exact hP _ _ _ (by omega) ⟨i + 1, rfl, by omega, rfl, hi2⟩
  · exact hend i S1 (by omega) hi
end
end Go.Proofs.Ytcookjolkhcjhaa
