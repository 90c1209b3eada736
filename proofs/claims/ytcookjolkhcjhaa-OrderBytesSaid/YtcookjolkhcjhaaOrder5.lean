/- Scripts out of bytes: the definition's, walked. -/
import Derived.Test.YtcookjolkhcjhaaOrder4
namespace Go.Proofs.Ytcookjolkhcjhaa
open Go Go.Proofs.Ytcookjolkhcjhaa.D
set_option linter.unusedVariables false
set_option linter.unusedSimpArgs false
noncomputable section

theorem four_at {l : List Int} {n : Nat} (hn : 4 * n + 3 < l.length) : fourP ((l.drop (4 * n)).take 4) = ofP l[4 * n] l[4 * n + 1] l[4 * n + 2] l[4 * n + 3] := by
  have h : ∀ i, i < 4 → ((l.drop (4 * n)).take 4).getD i 0 = l.getD (4 * n + i) 0 := by
    intro i hi
    rw [List.getD_eq_getElem?_getD, List.getD_eq_getElem?_getD, List.getElem?_take_of_lt hi, List.getElem?_drop]
  have g : ∀ i (hi : i < l.length), l.getD i 0 = l[i] := fun i hi => by simp [hi]
  unfold fourP
  rw [h 0 (by omega), h 1 (by omega), h 2 (by omega), h 3 (by omega), g _ (by omega), g _ (by omega), g _ (by omega), g _ (by omega)]
  rfl

theorem s22 {b : Sl} {l : List Int} {S : St} {k : Value → St → Prop} (hb : Bs S b l) (hw : ∀ x ∈ l, 0 ≤ x ∧ x < 256) (hlen : l.length ≤ 4000)
    (hk : ∀ s' S', Ext S S' → Ors S.next S' s' (ordP l (l.length / 4)) → k (.slice s'.a s'.len s'.cap) S') : WC E0 22 [.slice b.a b.len b.cap] S k := by
  refine w22 b ?_
  unfold c22
  refine loopW_ind (fun q (x : Sl × Int) S' => ∃ n : Nat, x.2 = ((4 * n : Nat) : Int) ∧ n ≤ l.length / 4 ∧ q = l.length / 4 - n ∧ Ext S S' ∧ Ors S.next S' x.1 (ordP l n)) (m := l.length / 4) ⟨0, rfl, by omega, rfl, Mod.refl _ _, .inl ⟨rfl, rfl⟩⟩ ?_
  rintro P q ⟨out, x⟩ S1 ⟨n, hx, hn, rfl, hE, g⟩ hP
  have hx : x = ((4 * n : Nat) : Int) := hx
  subst hx
  dsimp only
  have e1 : wrapI .i64 (((4 * n : Nat) : Int) + 1) = ((4 * n + 1 : Nat) : Int) := by rw [wrap_i64 (by omega) (by omega)]; omega
  have e2 : wrapI .i64 (((4 * n : Nat) : Int) + 2) = ((4 * n + 2 : Nat) : Int) := by rw [wrap_i64 (by omega) (by omega)]; omega
  have e3 : wrapI .i64 (((4 * n : Nat) : Int) + 3) = ((4 * n + 3 : Nat) : Int) := by rw [wrap_i64 (by omega) (by omega)]; omega
  have e4 : wrapI .i64 (((4 * n : Nat) : Int) + 4) = ((4 * (n + 1) : Nat) : Int) := by rw [wrap_i64 (by omega) (by omega)]; omega
  rw [e1, e2, e3, e4]
  have hbl := hb.len
  refine ifW_dec (fun hlt => ?_) fun hlt => ?_
  rotate_left
  · have : n = l.length / 4 := by omega
    subst this
    exact hk out S1 hE g
  have hlt : 4 * n + 3 < l.length := by omega
  refine ifW_pos (by rw [g.len, ordP_len]; omega) ?_
  have hb1 := hE.slOf hb
  have hsucc : ordP l (n + 1) = ordP l n ++ [refB l[4 * n + 2] l[4 * n + 3] (refA (kindP l[4 * n]) l[4 * n + 1])] := by
    rw [ordP_succ, four_at hlt, ref_eq (hw _ (List.getElem_mem _)) (hw _ (List.getElem_mem _)) (hw _ (List.getElem_mem _)) (hw _ (List.getElem_mem _))]
  refine hb1.get1n (n := 4 * n) (g := u8V) inf5 agg5 (by omega) fun bx ox hld hltx => evV_of _ (hld _ rfl) ⟨rfl, ?_⟩
  have hL := Hld.start noB S1
  refine hL.new fun b3 S2 hL hb3 hn2 => ?_
  (first | refine hL.st 0 _ rfl (by kernel_rfl) rfl (Nat.le_of_ble_eq_true rfl) rfl rfl fun S' hL hn' => ?_ | refine hL.st 1 _ rfl (by kernel_rfl) rfl (Nat.le_of_ble_eq_true rfl) rfl rfl fun S' hL hn' => ?_ | refine hL.st 2 _ rfl (by kernel_rfl) rfl (Nat.le_of_ble_eq_true rfl) rfl rfl fun S' hL hn' => ?_ | refine hL.st 3 _ rfl (by kernel_rfl) rfl (Nat.le_of_ble_eq_true rfl) rfl rfl fun S' hL hn' => ?_ | refine hL.st 4 _ rfl (by kernel_rfl) rfl (Nat.le_of_ble_eq_true rfl) rfl rfl fun S' hL hn' => ?_ | refine hL.st 5 _ rfl (by kernel_rfl) rfl (Nat.le_of_ble_eq_true rfl) rfl rfl fun S' hL hn' => ?_ | refine hL.st 6 _ rfl (by kernel_rfl) rfl (Nat.le_of_ble_eq_true rfl) rfl rfl fun S' hL hn' => ?_ | refine hL.st 7 _ rfl (by kernel_rfl) rfl (Nat.le_of_ble_eq_true rfl) rfl rfl fun S' hL hn' => ?_)
  refine (hL.mod.slOf hb1 fun _ _ _ _ h => h).get1n (n := 4 * n + 2) (g := u8V) inf5 agg5 (by omega) fun bx ox hld hltx => evV_of _ (hld _ rfl) ?_
  refine (hL.mod.slOf hb1 fun _ _ _ _ h => h).get1n (n := 4 * n + 3) (g := u8V) inf5 agg5 (by omega) fun bx ox hld hltx => evV_of _ (hld _ rfl) ?_
  intro kA hA
  have hL : Hld noB S1 S' [(b3, .cells (cellsO (kindP l[4 * n], 0, 0, 0, 0, 0)) none false none)] := hL
  have hkA : ∀ S', Hld noB S1 S' [(b3, .cells (cellsO (refA (kindP l[4 * n]) l[4 * n + 1])) none false none)] → kA PUnit.unit S' := by
    intro S' hL
    refine hA _ _ ?_
    intro k2 hk2
    generalize refA (kindP l[4 * n]) l[4 * n + 1] = y at hL hsucc
    have fin : ∀ S', Hld noB S1 S' [(b3, .cells (cellsO (refB l[4 * n + 2] l[4 * n + 3] y)) none false none)] → k2 PUnit.unit S' := by
      intro S' hL
      refine hk2 _ _ ?_
      generalize refB l[4 * n + 2] l[4 * n + 3] y = z at hL hsucc
      (first | refine hL.ld 0 rfl (by kernel_rfl) _ rfl ?_ | refine hL.ld 1 rfl (by kernel_rfl) _ rfl ?_ | refine hL.ld 2 rfl (by kernel_rfl) _ rfl ?_ | refine hL.ld 3 rfl (by kernel_rfl) _ rfl ?_ | refine hL.ld 4 rfl (by kernel_rfl) _ rfl ?_ | refine hL.ld 5 rfl (by kernel_rfl) _ rfl ?_ | refine hL.ld 6 rfl (by kernel_rfl) _ rfl ?_ | refine hL.ld 7 rfl (by kernel_rfl) _ rfl ?_ | refine hL.lda 0 rfl (by kernel_rfl) _ rfl ?_ | refine hL.lda 1 rfl (by kernel_rfl) _ rfl ?_ | refine hL.lda 2 rfl (by kernel_rfl) _ rfl ?_ | refine hL.lda 3 rfl (by kernel_rfl) _ rfl ?_ | refine hL.lda 4 rfl (by kernel_rfl) _ rfl ?_ | refine hL.lda 5 rfl (by kernel_rfl) _ rfl ?_ | refine hL.lda 6 rfl (by kernel_rfl) _ rfl ?_ | refine hL.lda 7 rfl (by kernel_rfl) _ rfl ?_)
      refine hL.new fun b8 S6 hL hb8 hn8 => ?_
      have hN : S.next ≤ S6.next := Nat.le_trans hE.next hL.mod.next
      refine Ors.add (hL.mod.gr g fun _ _ _ h => h) (v := z) (hL.at 0 rfl) (by rw [ordP_len]; omega) (fun s2 S7 g7 m7 hn7 => ?_) hN
      refine hP _ _ _ (by omega) ⟨n + 1, rfl, by omega, rfl, (hE.tr hL.mod).ext m7 fun c hc => hc.1, ?_⟩
      rw [hsucc]; exact g7
    refine ptrW_of ?_
    (first | refine hL.ld 0 rfl (by kernel_rfl) _ rfl ?_ | refine hL.ld 1 rfl (by kernel_rfl) _ rfl ?_ | refine hL.ld 2 rfl (by kernel_rfl) _ rfl ?_ | refine hL.ld 3 rfl (by kernel_rfl) _ rfl ?_ | refine hL.ld 4 rfl (by kernel_rfl) _ rfl ?_ | refine hL.ld 5 rfl (by kernel_rfl) _ rfl ?_ | refine hL.ld 6 rfl (by kernel_rfl) _ rfl ?_ | refine hL.ld 7 rfl (by kernel_rfl) _ rfl ?_ | refine hL.lda 0 rfl (by kernel_rfl) _ rfl ?_ | refine hL.lda 1 rfl (by kernel_rfl) _ rfl ?_ | refine hL.lda 2 rfl (by kernel_rfl) _ rfl ?_ | refine hL.lda 3 rfl (by kernel_rfl) _ rfl ?_ | refine hL.lda 4 rfl (by kernel_rfl) _ rfl ?_ | refine hL.lda 5 rfl (by kernel_rfl) _ rfl ?_ | refine hL.lda 6 rfl (by kernel_rfl) _ rfl ?_ | refine hL.lda 7 rfl (by kernel_rfl) _ rfl ?_)
    refine ifW_dec (fun h1 => ?_) fun h1 => ?_
    · repeat (first | refine ptrW_of ?_ | refine hL.new fun bk S' hL hbk hnk => ?_ | (first | refine hL.ld 0 rfl (by kernel_rfl) _ rfl ?_ | refine hL.ld 1 rfl (by kernel_rfl) _ rfl ?_ | refine hL.ld 2 rfl (by kernel_rfl) _ rfl ?_ | refine hL.ld 3 rfl (by kernel_rfl) _ rfl ?_ | refine hL.ld 4 rfl (by kernel_rfl) _ rfl ?_ | refine hL.ld 5 rfl (by kernel_rfl) _ rfl ?_ | refine hL.ld 6 rfl (by kernel_rfl) _ rfl ?_ | refine hL.ld 7 rfl (by kernel_rfl) _ rfl ?_ | refine hL.lda 0 rfl (by kernel_rfl) _ rfl ?_ | refine hL.lda 1 rfl (by kernel_rfl) _ rfl ?_ | refine hL.lda 2 rfl (by kernel_rfl) _ rfl ?_ | refine hL.lda 3 rfl (by kernel_rfl) _ rfl ?_ | refine hL.lda 4 rfl (by kernel_rfl) _ rfl ?_ | refine hL.lda 5 rfl (by kernel_rfl) _ rfl ?_ | refine hL.lda 6 rfl (by kernel_rfl) _ rfl ?_ | refine hL.lda 7 rfl (by kernel_rfl) _ rfl ?_) | (first | refine hL.st 0 _ rfl (by kernel_rfl) rfl (Nat.le_of_ble_eq_true rfl) rfl rfl fun S' hL hn' => ?_ | refine hL.st 1 _ rfl (by kernel_rfl) rfl (Nat.le_of_ble_eq_true rfl) rfl rfl fun S' hL hn' => ?_ | refine hL.st 2 _ rfl (by kernel_rfl) rfl (Nat.le_of_ble_eq_true rfl) rfl rfl fun S' hL hn' => ?_ | refine hL.st 3 _ rfl (by kernel_rfl) rfl (Nat.le_of_ble_eq_true rfl) rfl rfl fun S' hL hn' => ?_ | refine hL.st 4 _ rfl (by kernel_rfl) rfl (Nat.le_of_ble_eq_true rfl) rfl rfl fun S' hL hn' => ?_ | refine hL.st 5 _ rfl (by kernel_rfl) rfl (Nat.le_of_ble_eq_true rfl) rfl rfl fun S' hL hn' => ?_ | refine hL.st 6 _ rfl (by kernel_rfl) rfl (Nat.le_of_ble_eq_true rfl) rfl rfl fun S' hL hn' => ?_ | refine hL.st 7 _ rfl (by kernel_rfl) rfl (Nat.le_of_ble_eq_true rfl) rfl rfl fun S' hL hn' => ?_) | (first | refine hL.has 0 rfl ?_ | refine hL.has 1 rfl ?_ | refine hL.has 2 rfl ?_ | refine hL.has 3 rfl ?_ | refine hL.has 4 rfl ?_ | refine hL.has 5 rfl ?_ | refine hL.has 6 rfl ?_ | refine hL.has 7 rfl ?_) | (first | refine hL.upd 0 rfl fun S' hL hn' => ?_ | refine hL.upd 1 rfl fun S' hL hn' => ?_ | refine hL.upd 2 rfl fun S' hL hn' => ?_ | refine hL.upd 3 rfl fun S' hL hn' => ?_ | refine hL.upd 4 rfl fun S' hL hn' => ?_ | refine hL.upd 5 rfl fun S' hL hn' => ?_ | refine hL.upd 6 rfl fun S' hL hn' => ?_ | refine hL.upd 7 rfl fun S' hL hn' => ?_))
      exact fin _ (by rw [refB, if_pos h1]; exact hL)
    refine ifW_dec (fun h2 => ?_) fun h2 => ?_
    · refine ptrW_of ?_
      (first | refine hL.st 0 _ rfl (by kernel_rfl) rfl (Nat.le_of_ble_eq_true rfl) rfl rfl fun S' hL hn' => ?_ | refine hL.st 1 _ rfl (by kernel_rfl) rfl (Nat.le_of_ble_eq_true rfl) rfl rfl fun S' hL hn' => ?_ | refine hL.st 2 _ rfl (by kernel_rfl) rfl (Nat.le_of_ble_eq_true rfl) rfl rfl fun S' hL hn' => ?_ | refine hL.st 3 _ rfl (by kernel_rfl) rfl (Nat.le_of_ble_eq_true rfl) rfl rfl fun S' hL hn' => ?_ | refine hL.st 4 _ rfl (by kernel_rfl) rfl (Nat.le_of_ble_eq_true rfl) rfl rfl fun S' hL hn' => ?_ | refine hL.st 5 _ rfl (by kernel_rfl) rfl (Nat.le_of_ble_eq_true rfl) rfl rfl fun S' hL hn' => ?_ | refine hL.st 6 _ rfl (by kernel_rfl) rfl (Nat.le_of_ble_eq_true rfl) rfl rfl fun S' hL hn' => ?_ | refine hL.st 7 _ rfl (by kernel_rfl) rfl (Nat.le_of_ble_eq_true rfl) rfl rfl fun S' hL hn' => ?_)
      refine (hL.mod.slOf hb1 fun _ _ _ _ h => h).get1n (n := 4 * n + 3) (g := u8V) inf5 agg5 (by omega) fun bx ox hld hltx => evV_of _ (hld _ rfl) ?_
      refine ptrW_of ?_
      (first | refine hL.st 0 _ rfl (by kernel_rfl) rfl (Nat.le_of_ble_eq_true rfl) rfl rfl fun S' hL hn' => ?_ | refine hL.st 1 _ rfl (by kernel_rfl) rfl (Nat.le_of_ble_eq_true rfl) rfl rfl fun S' hL hn' => ?_ | refine hL.st 2 _ rfl (by kernel_rfl) rfl (Nat.le_of_ble_eq_true rfl) rfl rfl fun S' hL hn' => ?_ | refine hL.st 3 _ rfl (by kernel_rfl) rfl (Nat.le_of_ble_eq_true rfl) rfl rfl fun S' hL hn' => ?_ | refine hL.st 4 _ rfl (by kernel_rfl) rfl (Nat.le_of_ble_eq_true rfl) rfl rfl fun S' hL hn' => ?_ | refine hL.st 5 _ rfl (by kernel_rfl) rfl (Nat.le_of_ble_eq_true rfl) rfl rfl fun S' hL hn' => ?_ | refine hL.st 6 _ rfl (by kernel_rfl) rfl (Nat.le_of_ble_eq_true rfl) rfl rfl fun S' hL hn' => ?_ | refine hL.st 7 _ rfl (by kernel_rfl) rfl (Nat.le_of_ble_eq_true rfl) rfl rfl fun S' hL hn' => ?_)
      refine ptrW_of ?_
      (first | refine hL.ld 0 rfl (by kernel_rfl) _ rfl ?_ | refine hL.ld 1 rfl (by kernel_rfl) _ rfl ?_ | refine hL.ld 2 rfl (by kernel_rfl) _ rfl ?_ | refine hL.ld 3 rfl (by kernel_rfl) _ rfl ?_ | refine hL.ld 4 rfl (by kernel_rfl) _ rfl ?_ | refine hL.ld 5 rfl (by kernel_rfl) _ rfl ?_ | refine hL.ld 6 rfl (by kernel_rfl) _ rfl ?_ | refine hL.ld 7 rfl (by kernel_rfl) _ rfl ?_ | refine hL.lda 0 rfl (by kernel_rfl) _ rfl ?_ | refine hL.lda 1 rfl (by kernel_rfl) _ rfl ?_ | refine hL.lda 2 rfl (by kernel_rfl) _ rfl ?_ | refine hL.lda 3 rfl (by kernel_rfl) _ rfl ?_ | refine hL.lda 4 rfl (by kernel_rfl) _ rfl ?_ | refine hL.lda 5 rfl (by kernel_rfl) _ rfl ?_ | refine hL.lda 6 rfl (by kernel_rfl) _ rfl ?_ | refine hL.lda 7 rfl (by kernel_rfl) _ rfl ?_)
      refine ifW_dec (fun h3 => ?_) fun h3 => ?_
      · refine ptrW_of ?_
        (first | refine hL.st 0 _ rfl (by kernel_rfl) rfl (Nat.le_of_ble_eq_true rfl) rfl rfl fun S' hL hn' => ?_ | refine hL.st 1 _ rfl (by kernel_rfl) rfl (Nat.le_of_ble_eq_true rfl) rfl rfl fun S' hL hn' => ?_ | refine hL.st 2 _ rfl (by kernel_rfl) rfl (Nat.le_of_ble_eq_true rfl) rfl rfl fun S' hL hn' => ?_ | refine hL.st 3 _ rfl (by kernel_rfl) rfl (Nat.le_of_ble_eq_true rfl) rfl rfl fun S' hL hn' => ?_ | refine hL.st 4 _ rfl (by kernel_rfl) rfl (Nat.le_of_ble_eq_true rfl) rfl rfl fun S' hL hn' => ?_ | refine hL.st 5 _ rfl (by kernel_rfl) rfl (Nat.le_of_ble_eq_true rfl) rfl rfl fun S' hL hn' => ?_ | refine hL.st 6 _ rfl (by kernel_rfl) rfl (Nat.le_of_ble_eq_true rfl) rfl rfl fun S' hL hn' => ?_ | refine hL.st 7 _ rfl (by kernel_rfl) rfl (Nat.le_of_ble_eq_true rfl) rfl rfl fun S' hL hn' => ?_)
        exact fin _ (by rw [refB, if_neg h1, if_pos h2, if_pos h3]; exact hL)
      · exact fin _ (by rw [refB, if_neg h1, if_pos h2, if_neg h3]; exact hL)
    refine ifW_dec (fun h3 => ?_) fun h3 => ?_
    · refine ⟨rfl, ptrW_of ?_⟩
      (first | refine hL.st 0 _ rfl (by kernel_rfl) rfl (Nat.le_of_ble_eq_true rfl) rfl rfl fun S' hL hn' => ?_ | refine hL.st 1 _ rfl (by kernel_rfl) rfl (Nat.le_of_ble_eq_true rfl) rfl rfl fun S' hL hn' => ?_ | refine hL.st 2 _ rfl (by kernel_rfl) rfl (Nat.le_of_ble_eq_true rfl) rfl rfl fun S' hL hn' => ?_ | refine hL.st 3 _ rfl (by kernel_rfl) rfl (Nat.le_of_ble_eq_true rfl) rfl rfl fun S' hL hn' => ?_ | refine hL.st 4 _ rfl (by kernel_rfl) rfl (Nat.le_of_ble_eq_true rfl) rfl rfl fun S' hL hn' => ?_ | refine hL.st 5 _ rfl (by kernel_rfl) rfl (Nat.le_of_ble_eq_true rfl) rfl rfl fun S' hL hn' => ?_ | refine hL.st 6 _ rfl (by kernel_rfl) rfl (Nat.le_of_ble_eq_true rfl) rfl rfl fun S' hL hn' => ?_ | refine hL.st 7 _ rfl (by kernel_rfl) rfl (Nat.le_of_ble_eq_true rfl) rfl rfl fun S' hL hn' => ?_)
      exact fin _ (by rw [refB, if_neg h1, if_neg h2, if_pos h3]; exact hL)
    refine ifW_dec (fun h4 => ?_) fun h4 => ?_
    · refine ⟨rfl, ptrW_of ?_⟩
      (first | refine hL.st 0 _ rfl (by kernel_rfl) rfl (Nat.le_of_ble_eq_true rfl) rfl rfl fun S' hL hn' => ?_ | refine hL.st 1 _ rfl (by kernel_rfl) rfl (Nat.le_of_ble_eq_true rfl) rfl rfl fun S' hL hn' => ?_ | refine hL.st 2 _ rfl (by kernel_rfl) rfl (Nat.le_of_ble_eq_true rfl) rfl rfl fun S' hL hn' => ?_ | refine hL.st 3 _ rfl (by kernel_rfl) rfl (Nat.le_of_ble_eq_true rfl) rfl rfl fun S' hL hn' => ?_ | refine hL.st 4 _ rfl (by kernel_rfl) rfl (Nat.le_of_ble_eq_true rfl) rfl rfl fun S' hL hn' => ?_ | refine hL.st 5 _ rfl (by kernel_rfl) rfl (Nat.le_of_ble_eq_true rfl) rfl rfl fun S' hL hn' => ?_ | refine hL.st 6 _ rfl (by kernel_rfl) rfl (Nat.le_of_ble_eq_true rfl) rfl rfl fun S' hL hn' => ?_ | refine hL.st 7 _ rfl (by kernel_rfl) rfl (Nat.le_of_ble_eq_true rfl) rfl rfl fun S' hL hn' => ?_)
      exact fin _ (by rw [refB, if_neg h1, if_neg h2, if_neg h3, if_pos h4]; exact hL)
    refine ifW_dec (fun h5 => ?_) fun h5 => ?_
    · refine ⟨rfl, ptrW_of ?_⟩
      (first | refine hL.st 0 _ rfl (by kernel_rfl) rfl (Nat.le_of_ble_eq_true rfl) rfl rfl fun S' hL hn' => ?_ | refine hL.st 1 _ rfl (by kernel_rfl) rfl (Nat.le_of_ble_eq_true rfl) rfl rfl fun S' hL hn' => ?_ | refine hL.st 2 _ rfl (by kernel_rfl) rfl (Nat.le_of_ble_eq_true rfl) rfl rfl fun S' hL hn' => ?_ | refine hL.st 3 _ rfl (by kernel_rfl) rfl (Nat.le_of_ble_eq_true rfl) rfl rfl fun S' hL hn' => ?_ | refine hL.st 4 _ rfl (by kernel_rfl) rfl (Nat.le_of_ble_eq_true rfl) rfl rfl fun S' hL hn' => ?_ | refine hL.st 5 _ rfl (by kernel_rfl) rfl (Nat.le_of_ble_eq_true rfl) rfl rfl fun S' hL hn' => ?_ | refine hL.st 6 _ rfl (by kernel_rfl) rfl (Nat.le_of_ble_eq_true rfl) rfl rfl fun S' hL hn' => ?_ | refine hL.st 7 _ rfl (by kernel_rfl) rfl (Nat.le_of_ble_eq_true rfl) rfl rfl fun S' hL hn' => ?_)
      exact fin _ (by rw [refB, if_neg h1, if_neg h2, if_neg h3, if_neg h4, if_pos h5]; exact hL)
    · exact fin _ (by rw [refB, if_neg h1, if_neg h2, if_neg h3, if_neg h4, if_neg h5]; exact hL)
  intro kB hB
  have hkB : ∀ t : Bool, (t = true ↔ kindP l[4 * n] = 1 ∨ 6 ≤ kindP l[4 * n]) → kB t S' := by
    intro t ht
    refine hB _ _ (ifW_of (fun h => ?_) fun h => ?_)
    · refine (hL.mod.slOf hb1 fun _ _ _ _ h => h).get1n (n := 4 * n + 1) (g := u8V) inf5 agg5 (by omega) fun bx ox hld hltx => evV_of _ (hld _ rfl) ⟨rfl, ptrW_of ?_⟩
      (first | refine hL.st 0 _ rfl (by kernel_rfl) rfl (Nat.le_of_ble_eq_true rfl) rfl rfl fun S' hL hn' => ?_ | refine hL.st 1 _ rfl (by kernel_rfl) rfl (Nat.le_of_ble_eq_true rfl) rfl rfl fun S' hL hn' => ?_ | refine hL.st 2 _ rfl (by kernel_rfl) rfl (Nat.le_of_ble_eq_true rfl) rfl rfl fun S' hL hn' => ?_ | refine hL.st 3 _ rfl (by kernel_rfl) rfl (Nat.le_of_ble_eq_true rfl) rfl rfl fun S' hL hn' => ?_ | refine hL.st 4 _ rfl (by kernel_rfl) rfl (Nat.le_of_ble_eq_true rfl) rfl rfl fun S' hL hn' => ?_ | refine hL.st 5 _ rfl (by kernel_rfl) rfl (Nat.le_of_ble_eq_true rfl) rfl rfl fun S' hL hn' => ?_ | refine hL.st 6 _ rfl (by kernel_rfl) rfl (Nat.le_of_ble_eq_true rfl) rfl rfl fun S' hL hn' => ?_ | refine hL.st 7 _ rfl (by kernel_rfl) rfl (Nat.le_of_ble_eq_true rfl) rfl rfl fun S' hL hn' => ?_)
      exact hkA _ (by rw [refA, if_pos (ht.1 h)]; exact hL)
    · refine (hL.mod.slOf hb1 fun _ _ _ _ h => h).get1n (n := 4 * n + 1) (g := u8V) inf5 agg5 (by omega) fun bx ox hld hltx => evV_of _ (hld _ rfl) (ptrW_of ?_)
      (first | refine hL.st 0 _ rfl (by kernel_rfl) rfl (Nat.le_of_ble_eq_true rfl) rfl rfl fun S' hL hn' => ?_ | refine hL.st 1 _ rfl (by kernel_rfl) rfl (Nat.le_of_ble_eq_true rfl) rfl rfl fun S' hL hn' => ?_ | refine hL.st 2 _ rfl (by kernel_rfl) rfl (Nat.le_of_ble_eq_true rfl) rfl rfl fun S' hL hn' => ?_ | refine hL.st 3 _ rfl (by kernel_rfl) rfl (Nat.le_of_ble_eq_true rfl) rfl rfl fun S' hL hn' => ?_ | refine hL.st 4 _ rfl (by kernel_rfl) rfl (Nat.le_of_ble_eq_true rfl) rfl rfl fun S' hL hn' => ?_ | refine hL.st 5 _ rfl (by kernel_rfl) rfl (Nat.le_of_ble_eq_true rfl) rfl rfl fun S' hL hn' => ?_ | refine hL.st 6 _ rfl (by kernel_rfl) rfl (Nat.le_of_ble_eq_true rfl) rfl rfl fun S' hL hn' => ?_ | refine hL.st 7 _ rfl (by kernel_rfl) rfl (Nat.le_of_ble_eq_true rfl) rfl rfl fun S' hL hn' => ?_)
      exact hkA _ (by rw [refA, if_neg (fun hh => by rw [ht.2 hh] at h; cases h)]; exact hL)
  refine ptrW_of ?_
  (first | refine hL.ld 0 rfl (by kernel_rfl) _ rfl ?_ | refine hL.ld 1 rfl (by kernel_rfl) _ rfl ?_ | refine hL.ld 2 rfl (by kernel_rfl) _ rfl ?_ | refine hL.ld 3 rfl (by kernel_rfl) _ rfl ?_ | refine hL.ld 4 rfl (by kernel_rfl) _ rfl ?_ | refine hL.ld 5 rfl (by kernel_rfl) _ rfl ?_ | refine hL.ld 6 rfl (by kernel_rfl) _ rfl ?_ | refine hL.ld 7 rfl (by kernel_rfl) _ rfl ?_ | refine hL.lda 0 rfl (by kernel_rfl) _ rfl ?_ | refine hL.lda 1 rfl (by kernel_rfl) _ rfl ?_ | refine hL.lda 2 rfl (by kernel_rfl) _ rfl ?_ | refine hL.lda 3 rfl (by kernel_rfl) _ rfl ?_ | refine hL.lda 4 rfl (by kernel_rfl) _ rfl ?_ | refine hL.lda 5 rfl (by kernel_rfl) _ rfl ?_ | refine hL.lda 6 rfl (by kernel_rfl) _ rfl ?_ | refine hL.lda 7 rfl (by kernel_rfl) _ rfl ?_)
  refine ifW_dec (fun h => hkB true (by simp only [true_iff]; exact .inl h)) fun h => ptrW_of ?_
  (first | refine hL.ld 0 rfl (by kernel_rfl) _ rfl ?_ | refine hL.ld 1 rfl (by kernel_rfl) _ rfl ?_ | refine hL.ld 2 rfl (by kernel_rfl) _ rfl ?_ | refine hL.ld 3 rfl (by kernel_rfl) _ rfl ?_ | refine hL.ld 4 rfl (by kernel_rfl) _ rfl ?_ | refine hL.ld 5 rfl (by kernel_rfl) _ rfl ?_ | refine hL.ld 6 rfl (by kernel_rfl) _ rfl ?_ | refine hL.ld 7 rfl (by kernel_rfl) _ rfl ?_ | refine hL.lda 0 rfl (by kernel_rfl) _ rfl ?_ | refine hL.lda 1 rfl (by kernel_rfl) _ rfl ?_ | refine hL.lda 2 rfl (by kernel_rfl) _ rfl ?_ | refine hL.lda 3 rfl (by kernel_rfl) _ rfl ?_ | refine hL.lda 4 rfl (by kernel_rfl) _ rfl ?_ | refine hL.lda 5 rfl (by kernel_rfl) _ rfl ?_ | refine hL.lda 6 rfl (by kernel_rfl) _ rfl ?_ | refine hL.lda 7 rfl (by kernel_rfl) _ rfl ?_)
  exact hkB _ (by rw [leI_eq, decide_eq_true_iff]; exact ⟨.inr, fun hh => hh.resolve_left h⟩)

theorem eqO (S : St) (w u : Ord) : eqD E0 S 6 105 (sv G104 w) (sv G104 u) = cond (decide (w.1 = u.1)) (cond (decide (w.2.1 = u.2.1)) (cond (decide (w.2.2.1 = u.2.2.1)) (cond (decide (w.2.2.2.1 = u.2.2.2.1)) (cond (decide (w.2.2.2.2.1 = u.2.2.2.2.1)) (cond (decide (w.2.2.2.2.2 = u.2.2.2.2.2)) (some true) (some false)) (some false)) (some false)) (some false)) (some false)) (some false) := by kernel_rfl
theorem s21 {a b : Sl} {l : List Ord} {S : St} {k : Value → St → Prop} (ha : SlOf cellsO 6 S a l) (hb : SlOf cellsO 6 S b l) (hlen : l.length ≤ 10000) (hk : k (.bool true) S) : WC E0 21 [.slice a.a a.len a.cap, .slice b.a b.len b.cap] S k := by
  refine w21 a b ?_
  unfold c21
  refine ifW_ndec (fun h => (h (by rw [ha.len, hb.len])).elim) fun _ => ?_
  refine loopW_ind (fun q (x : Int) S' => ∃ n : Nat, x = n ∧ n ≤ l.length ∧ q = l.length - n ∧ S' = S) (m := l.length) ⟨0, rfl, by omega, rfl, rfl⟩ ?_
  rintro P q x S1 ⟨n, rfl, hn, rfl, rfl⟩ hP
  have hal := ha.len
  refine ifW_dec (fun hlt => ?_) fun hlt => hk
  have hlt2 : (n : Int) < (l.length : Int) := by omega
  have hlt3 : n < l.length := by omega
  have h00 : (0 : Int) ≤ (n : Int) := by omega
  refine ha.idx (f := cellsO) (sz := 6) (fun _ => rfl) h00 hlt2 fun b1 o1 cs1 m1 r1 f1 at1 _ h1 => ?_
  refine ⟨l[n]'hlt3, load_agg at1 (n := 6) (by kernel_rfl) h1 rfl, ?_⟩
  refine hb.idx (f := cellsO) (sz := 6) (fun _ => rfl) h00 hlt2 fun b2 o2 cs2 m2 r2 f2 at2 _ h2 => ?_
  refine ⟨l[n]'hlt3, load_agg at2 (n := 6) (by kernel_rfl) h2 rfl, ?_⟩
  refine ⟨true, by rw [eqO]; simp, ?_⟩
  refine ifW_of (fun h => by cases h) fun _ => ?_
  rw [wrap_succ (by omega)]
  exact hP _ _ _ (by omega) ⟨n + 1, rfl, by omega, rfl, rfl⟩

theorem s6 {b : Sl} {l : List Int} {S : St} (hb : Bs S b l) (hw : ∀ x ∈ l, 0 ≤ x ∧ x < 256) (hlc : b.len ≤ b.cap) (hci : b.cap < inex) : WC E0 6 [.slice b.a b.len b.cap] S fun v _ => v = .bool true := by
  refine w6 b ?_
  unfold c6
  refine ifW_dec (fun _ => rfl) fun hlt => ?_
  have hbl := hb.len
  refine evC_of (s20 hb hlc hci (by omega) fun s1 S1 N hN e1 g1 => ⟨_, rfl, ?_⟩)
  refine evC_of (s22 (e1.slOf hb) hw (by omega) fun s2 S2 e2 g2 => ⟨_, rfl, ?_⟩)
  refine evC_of (s21 ((e2.gr g1).of fun _ => rfl) (g2.of fun _ => rfl) (by rw [ordP_len]; omega) ⟨_, rfl, rfl⟩)
end
end Go.Proofs.Ytcookjolkhcjhaa
