/- Parts of the proof, put together. -/
import Derived.Test.YtcookjolkhcjhaaCF
/- The chapter's first examples; a circle is the same from each of its robots. -/
namespace Go.Proofs.Ytcookjolkhcjhaa
open Go Go.Proofs.Ytcookjolkhcjhaa.D
set_option linter.unusedVariables false
set_option linter.unusedSimpArgs false
noncomputable section

theorem meet1 : meetP 2 3 (true, 4, 1) (6, 9, 0, 0, 5, 64, 1, 1, nilSl) = (1, (6, 4, 0, 0, 3, 63, 1, 2, nilSl), 0) := by
  have h : meetP 2 3 (true, 4, 1) (6, 9, 0, 0, 5, 64, 1, 1, nilSl) = (1, (6, 4, 0, 0, 3, wrapI .i64 (64 - 1), 1, 2, nilSl), 0) := rfl
  rw [h, wrapI_eq]
  rfl
theorem s13 {S : St} {k : Value → St → Prop} (hk : ∀ S', Ext S S' → k (.bool true) S') : WC E0 13 [] S k := by
  refine w13 ?_
  unfold c13
  have hL := Hld.start noB S
  refine evC_of (s40 (w := (true, 9, 2)) fun S1 e => ⟨beginP 1 5 (true, 9, 2), rfl, ?_⟩)
  have hL := hL.ext e
  rw [show beginP 1 5 (true, 9, 2) = ((6, 9, 0, 0, 5, 64, 1, 1, nilSl), 0) by rfl]
  repeat (first | refine ptrW_of ?_ | refine sameV_of ?_ | refine hL.new fun bk S' hL hbk hnk => ?_ | (first | refine hL.ld 0 rfl (by kernel_rfl) _ rfl ?_ | refine hL.ld 1 rfl (by kernel_rfl) _ rfl ?_ | refine hL.ld 2 rfl (by kernel_rfl) _ rfl ?_ | refine hL.ld 3 rfl (by kernel_rfl) _ rfl ?_ | refine hL.ld 4 rfl (by kernel_rfl) _ rfl ?_ | refine hL.ld 5 rfl (by kernel_rfl) _ rfl ?_ | refine hL.ld 6 rfl (by kernel_rfl) _ rfl ?_ | refine hL.ld 7 rfl (by kernel_rfl) _ rfl ?_ | refine hL.lda 0 rfl (by kernel_rfl) _ rfl ?_ | refine hL.lda 1 rfl (by kernel_rfl) _ rfl ?_ | refine hL.lda 2 rfl (by kernel_rfl) _ rfl ?_ | refine hL.lda 3 rfl (by kernel_rfl) _ rfl ?_ | refine hL.lda 4 rfl (by kernel_rfl) _ rfl ?_ | refine hL.lda 5 rfl (by kernel_rfl) _ rfl ?_ | refine hL.lda 6 rfl (by kernel_rfl) _ rfl ?_ | refine hL.lda 7 rfl (by kernel_rfl) _ rfl ?_) | (first | refine hL.st 0 _ rfl (by kernel_rfl) rfl (Nat.le_of_ble_eq_true rfl) rfl rfl fun S' hL hn' => ?_ | refine hL.st 1 _ rfl (by kernel_rfl) rfl (Nat.le_of_ble_eq_true rfl) rfl rfl fun S' hL hn' => ?_ | refine hL.st 2 _ rfl (by kernel_rfl) rfl (Nat.le_of_ble_eq_true rfl) rfl rfl fun S' hL hn' => ?_ | refine hL.st 3 _ rfl (by kernel_rfl) rfl (Nat.le_of_ble_eq_true rfl) rfl rfl fun S' hL hn' => ?_ | refine hL.st 4 _ rfl (by kernel_rfl) rfl (Nat.le_of_ble_eq_true rfl) rfl rfl fun S' hL hn' => ?_ | refine hL.st 5 _ rfl (by kernel_rfl) rfl (Nat.le_of_ble_eq_true rfl) rfl rfl fun S' hL hn' => ?_ | refine hL.st 6 _ rfl (by kernel_rfl) rfl (Nat.le_of_ble_eq_true rfl) rfl rfl fun S' hL hn' => ?_ | refine hL.st 7 _ rfl (by kernel_rfl) rfl (Nat.le_of_ble_eq_true rfl) rfl rfl fun S' hL hn' => ?_) | (first | refine hL.has 0 rfl ?_ | refine hL.has 1 rfl ?_ | refine hL.has 2 rfl ?_ | refine hL.has 3 rfl ?_ | refine hL.has 4 rfl ?_ | refine hL.has 5 rfl ?_ | refine hL.has 6 rfl ?_ | refine hL.has 7 rfl ?_) | (first | refine hL.upd 0 rfl fun S' hL hn' => ?_ | refine hL.upd 1 rfl fun S' hL hn' => ?_ | refine hL.upd 2 rfl fun S' hL hn' => ?_ | refine hL.upd 3 rfl fun S' hL hn' => ?_ | refine hL.upd 4 rfl fun S' hL hn' => ?_ | refine hL.upd 5 rfl fun S' hL hn' => ?_ | refine hL.upd 6 rfl fun S' hL hn' => ?_ | refine hL.upd 7 rfl fun S' hL hn' => ?_))
  refine evC_of (s14 (w := (true, 4, 1)) fun S1 e => ⟨meetP 2 3 (true, 4, 1) (6, 9, 0, 0, 5, 64, 1, 1, nilSl), rfl, ?_⟩)
  have hL := hL.ext e
  rw [meet1]
  repeat (first | refine ptrW_of ?_ | refine sameV_of ?_ | refine hL.new fun bk S' hL hbk hnk => ?_ | (first | refine hL.ld 0 rfl (by kernel_rfl) _ rfl ?_ | refine hL.ld 1 rfl (by kernel_rfl) _ rfl ?_ | refine hL.ld 2 rfl (by kernel_rfl) _ rfl ?_ | refine hL.ld 3 rfl (by kernel_rfl) _ rfl ?_ | refine hL.ld 4 rfl (by kernel_rfl) _ rfl ?_ | refine hL.ld 5 rfl (by kernel_rfl) _ rfl ?_ | refine hL.ld 6 rfl (by kernel_rfl) _ rfl ?_ | refine hL.ld 7 rfl (by kernel_rfl) _ rfl ?_ | refine hL.lda 0 rfl (by kernel_rfl) _ rfl ?_ | refine hL.lda 1 rfl (by kernel_rfl) _ rfl ?_ | refine hL.lda 2 rfl (by kernel_rfl) _ rfl ?_ | refine hL.lda 3 rfl (by kernel_rfl) _ rfl ?_ | refine hL.lda 4 rfl (by kernel_rfl) _ rfl ?_ | refine hL.lda 5 rfl (by kernel_rfl) _ rfl ?_ | refine hL.lda 6 rfl (by kernel_rfl) _ rfl ?_ | refine hL.lda 7 rfl (by kernel_rfl) _ rfl ?_) | (first | refine hL.st 0 _ rfl (by kernel_rfl) rfl (Nat.le_of_ble_eq_true rfl) rfl rfl fun S' hL hn' => ?_ | refine hL.st 1 _ rfl (by kernel_rfl) rfl (Nat.le_of_ble_eq_true rfl) rfl rfl fun S' hL hn' => ?_ | refine hL.st 2 _ rfl (by kernel_rfl) rfl (Nat.le_of_ble_eq_true rfl) rfl rfl fun S' hL hn' => ?_ | refine hL.st 3 _ rfl (by kernel_rfl) rfl (Nat.le_of_ble_eq_true rfl) rfl rfl fun S' hL hn' => ?_ | refine hL.st 4 _ rfl (by kernel_rfl) rfl (Nat.le_of_ble_eq_true rfl) rfl rfl fun S' hL hn' => ?_ | refine hL.st 5 _ rfl (by kernel_rfl) rfl (Nat.le_of_ble_eq_true rfl) rfl rfl fun S' hL hn' => ?_ | refine hL.st 6 _ rfl (by kernel_rfl) rfl (Nat.le_of_ble_eq_true rfl) rfl rfl fun S' hL hn' => ?_ | refine hL.st 7 _ rfl (by kernel_rfl) rfl (Nat.le_of_ble_eq_true rfl) rfl rfl fun S' hL hn' => ?_) | (first | refine hL.has 0 rfl ?_ | refine hL.has 1 rfl ?_ | refine hL.has 2 rfl ?_ | refine hL.has 3 rfl ?_ | refine hL.has 4 rfl ?_ | refine hL.has 5 rfl ?_ | refine hL.has 6 rfl ?_ | refine hL.has 7 rfl ?_) | (first | refine hL.upd 0 rfl fun S' hL hn' => ?_ | refine hL.upd 1 rfl fun S' hL hn' => ?_ | refine hL.upd 2 rfl fun S' hL hn' => ?_ | refine hL.upd 3 rfl fun S' hL hn' => ?_ | refine hL.upd 4 rfl fun S' hL hn' => ?_ | refine hL.upd 5 rfl fun S' hL hn' => ?_ | refine hL.upd 6 rfl fun S' hL hn' => ?_ | refine hL.upd 7 rfl fun S' hL hn' => ?_))
  refine evC_of (s14 (w := (true, 9, 2)) fun S1 e => ⟨meetP 1 5 (true, 9, 2) (6, 4, 0, 0, 3, 63, 1, 2, nilSl), rfl, ?_⟩)
  have hL := hL.ext e
  rw [show meetP 1 5 (true, 9, 2) (6, 4, 0, 0, 3, 63, 1, 2, nilSl) = (2, (7, 0, 0, 0, 0, 0, 1, 2, nilSl), 0) by rfl]
  repeat (first | refine ptrW_of ?_ | refine sameV_of ?_ | refine hL.new fun bk S' hL hbk hnk => ?_ | (first | refine hL.ld 0 rfl (by kernel_rfl) _ rfl ?_ | refine hL.ld 1 rfl (by kernel_rfl) _ rfl ?_ | refine hL.ld 2 rfl (by kernel_rfl) _ rfl ?_ | refine hL.ld 3 rfl (by kernel_rfl) _ rfl ?_ | refine hL.ld 4 rfl (by kernel_rfl) _ rfl ?_ | refine hL.ld 5 rfl (by kernel_rfl) _ rfl ?_ | refine hL.ld 6 rfl (by kernel_rfl) _ rfl ?_ | refine hL.ld 7 rfl (by kernel_rfl) _ rfl ?_ | refine hL.lda 0 rfl (by kernel_rfl) _ rfl ?_ | refine hL.lda 1 rfl (by kernel_rfl) _ rfl ?_ | refine hL.lda 2 rfl (by kernel_rfl) _ rfl ?_ | refine hL.lda 3 rfl (by kernel_rfl) _ rfl ?_ | refine hL.lda 4 rfl (by kernel_rfl) _ rfl ?_ | refine hL.lda 5 rfl (by kernel_rfl) _ rfl ?_ | refine hL.lda 6 rfl (by kernel_rfl) _ rfl ?_ | refine hL.lda 7 rfl (by kernel_rfl) _ rfl ?_) | (first | refine hL.st 0 _ rfl (by kernel_rfl) rfl (Nat.le_of_ble_eq_true rfl) rfl rfl fun S' hL hn' => ?_ | refine hL.st 1 _ rfl (by kernel_rfl) rfl (Nat.le_of_ble_eq_true rfl) rfl rfl fun S' hL hn' => ?_ | refine hL.st 2 _ rfl (by kernel_rfl) rfl (Nat.le_of_ble_eq_true rfl) rfl rfl fun S' hL hn' => ?_ | refine hL.st 3 _ rfl (by kernel_rfl) rfl (Nat.le_of_ble_eq_true rfl) rfl rfl fun S' hL hn' => ?_ | refine hL.st 4 _ rfl (by kernel_rfl) rfl (Nat.le_of_ble_eq_true rfl) rfl rfl fun S' hL hn' => ?_ | refine hL.st 5 _ rfl (by kernel_rfl) rfl (Nat.le_of_ble_eq_true rfl) rfl rfl fun S' hL hn' => ?_ | refine hL.st 6 _ rfl (by kernel_rfl) rfl (Nat.le_of_ble_eq_true rfl) rfl rfl fun S' hL hn' => ?_ | refine hL.st 7 _ rfl (by kernel_rfl) rfl (Nat.le_of_ble_eq_true rfl) rfl rfl fun S' hL hn' => ?_) | (first | refine hL.has 0 rfl ?_ | refine hL.has 1 rfl ?_ | refine hL.has 2 rfl ?_ | refine hL.has 3 rfl ?_ | refine hL.has 4 rfl ?_ | refine hL.has 5 rfl ?_ | refine hL.has 6 rfl ?_ | refine hL.has 7 rfl ?_) | (first | refine hL.upd 0 rfl fun S' hL hn' => ?_ | refine hL.upd 1 rfl fun S' hL hn' => ?_ | refine hL.upd 2 rfl fun S' hL hn' => ?_ | refine hL.upd 3 rfl fun S' hL hn' => ?_ | refine hL.upd 4 rfl fun S' hL hn' => ?_ | refine hL.upd 5 rfl fun S' hL hn' => ?_ | refine hL.upd 6 rfl fun S' hL hn' => ?_ | refine hL.upd 7 rfl fun S' hL hn' => ?_))
  refine ifW_pos rfl ?_
  repeat (first | refine ptrW_of ?_ | refine sameV_of ?_ | refine hL.new fun bk S' hL hbk hnk => ?_ | (first | refine hL.ld 0 rfl (by kernel_rfl) _ rfl ?_ | refine hL.ld 1 rfl (by kernel_rfl) _ rfl ?_ | refine hL.ld 2 rfl (by kernel_rfl) _ rfl ?_ | refine hL.ld 3 rfl (by kernel_rfl) _ rfl ?_ | refine hL.ld 4 rfl (by kernel_rfl) _ rfl ?_ | refine hL.ld 5 rfl (by kernel_rfl) _ rfl ?_ | refine hL.ld 6 rfl (by kernel_rfl) _ rfl ?_ | refine hL.ld 7 rfl (by kernel_rfl) _ rfl ?_ | refine hL.lda 0 rfl (by kernel_rfl) _ rfl ?_ | refine hL.lda 1 rfl (by kernel_rfl) _ rfl ?_ | refine hL.lda 2 rfl (by kernel_rfl) _ rfl ?_ | refine hL.lda 3 rfl (by kernel_rfl) _ rfl ?_ | refine hL.lda 4 rfl (by kernel_rfl) _ rfl ?_ | refine hL.lda 5 rfl (by kernel_rfl) _ rfl ?_ | refine hL.lda 6 rfl (by kernel_rfl) _ rfl ?_ | refine hL.lda 7 rfl (by kernel_rfl) _ rfl ?_) | (first | refine hL.st 0 _ rfl (by kernel_rfl) rfl (Nat.le_of_ble_eq_true rfl) rfl rfl fun S' hL hn' => ?_ | refine hL.st 1 _ rfl (by kernel_rfl) rfl (Nat.le_of_ble_eq_true rfl) rfl rfl fun S' hL hn' => ?_ | refine hL.st 2 _ rfl (by kernel_rfl) rfl (Nat.le_of_ble_eq_true rfl) rfl rfl fun S' hL hn' => ?_ | refine hL.st 3 _ rfl (by kernel_rfl) rfl (Nat.le_of_ble_eq_true rfl) rfl rfl fun S' hL hn' => ?_ | refine hL.st 4 _ rfl (by kernel_rfl) rfl (Nat.le_of_ble_eq_true rfl) rfl rfl fun S' hL hn' => ?_ | refine hL.st 5 _ rfl (by kernel_rfl) rfl (Nat.le_of_ble_eq_true rfl) rfl rfl fun S' hL hn' => ?_ | refine hL.st 6 _ rfl (by kernel_rfl) rfl (Nat.le_of_ble_eq_true rfl) rfl rfl fun S' hL hn' => ?_ | refine hL.st 7 _ rfl (by kernel_rfl) rfl (Nat.le_of_ble_eq_true rfl) rfl rfl fun S' hL hn' => ?_) | (first | refine hL.has 0 rfl ?_ | refine hL.has 1 rfl ?_ | refine hL.has 2 rfl ?_ | refine hL.has 3 rfl ?_ | refine hL.has 4 rfl ?_ | refine hL.has 5 rfl ?_ | refine hL.has 6 rfl ?_ | refine hL.has 7 rfl ?_) | (first | refine hL.upd 0 rfl fun S' hL hn' => ?_ | refine hL.upd 1 rfl fun S' hL hn' => ?_ | refine hL.upd 2 rfl fun S' hL hn' => ?_ | refine hL.upd 3 rfl fun S' hL hn' => ?_ | refine hL.upd 4 rfl fun S' hL hn' => ?_ | refine hL.upd 5 rfl fun S' hL hn' => ?_ | refine hL.upd 6 rfl fun S' hL hn' => ?_ | refine hL.upd 7 rfl fun S' hL hn' => ?_))
  refine evC_of (s41 (b := (6, 9, 0, 0, 5, 64, 1, 1, nilSl)) ⟨rfl, rfl, rfl, rfl, rfl, rfl, rfl, rfl, rfl, rfl⟩ fun S1 e => ⟨true, rfl, ?_⟩)
  have hL := hL.ext e
  refine ifW_of (fun _ => ifW_pos rfl (ifW_pos rfl ?_)) fun h => by cases h
  repeat (first | refine ptrW_of ?_ | refine sameV_of ?_ | refine hL.new fun bk S' hL hbk hnk => ?_ | (first | refine hL.ld 0 rfl (by kernel_rfl) _ rfl ?_ | refine hL.ld 1 rfl (by kernel_rfl) _ rfl ?_ | refine hL.ld 2 rfl (by kernel_rfl) _ rfl ?_ | refine hL.ld 3 rfl (by kernel_rfl) _ rfl ?_ | refine hL.ld 4 rfl (by kernel_rfl) _ rfl ?_ | refine hL.ld 5 rfl (by kernel_rfl) _ rfl ?_ | refine hL.ld 6 rfl (by kernel_rfl) _ rfl ?_ | refine hL.ld 7 rfl (by kernel_rfl) _ rfl ?_ | refine hL.lda 0 rfl (by kernel_rfl) _ rfl ?_ | refine hL.lda 1 rfl (by kernel_rfl) _ rfl ?_ | refine hL.lda 2 rfl (by kernel_rfl) _ rfl ?_ | refine hL.lda 3 rfl (by kernel_rfl) _ rfl ?_ | refine hL.lda 4 rfl (by kernel_rfl) _ rfl ?_ | refine hL.lda 5 rfl (by kernel_rfl) _ rfl ?_ | refine hL.lda 6 rfl (by kernel_rfl) _ rfl ?_ | refine hL.lda 7 rfl (by kernel_rfl) _ rfl ?_) | (first | refine hL.st 0 _ rfl (by kernel_rfl) rfl (Nat.le_of_ble_eq_true rfl) rfl rfl fun S' hL hn' => ?_ | refine hL.st 1 _ rfl (by kernel_rfl) rfl (Nat.le_of_ble_eq_true rfl) rfl rfl fun S' hL hn' => ?_ | refine hL.st 2 _ rfl (by kernel_rfl) rfl (Nat.le_of_ble_eq_true rfl) rfl rfl fun S' hL hn' => ?_ | refine hL.st 3 _ rfl (by kernel_rfl) rfl (Nat.le_of_ble_eq_true rfl) rfl rfl fun S' hL hn' => ?_ | refine hL.st 4 _ rfl (by kernel_rfl) rfl (Nat.le_of_ble_eq_true rfl) rfl rfl fun S' hL hn' => ?_ | refine hL.st 5 _ rfl (by kernel_rfl) rfl (Nat.le_of_ble_eq_true rfl) rfl rfl fun S' hL hn' => ?_ | refine hL.st 6 _ rfl (by kernel_rfl) rfl (Nat.le_of_ble_eq_true rfl) rfl rfl fun S' hL hn' => ?_ | refine hL.st 7 _ rfl (by kernel_rfl) rfl (Nat.le_of_ble_eq_true rfl) rfl rfl fun S' hL hn' => ?_) | (first | refine hL.has 0 rfl ?_ | refine hL.has 1 rfl ?_ | refine hL.has 2 rfl ?_ | refine hL.has 3 rfl ?_ | refine hL.has 4 rfl ?_ | refine hL.has 5 rfl ?_ | refine hL.has 6 rfl ?_ | refine hL.has 7 rfl ?_) | (first | refine hL.upd 0 rfl fun S' hL hn' => ?_ | refine hL.upd 1 rfl fun S' hL hn' => ?_ | refine hL.upd 2 rfl fun S' hL hn' => ?_ | refine hL.upd 3 rfl fun S' hL hn' => ?_ | refine hL.upd 4 rfl fun S' hL hn' => ?_ | refine hL.upd 5 rfl fun S' hL hn' => ?_ | refine hL.upd 6 rfl fun S' hL hn' => ?_ | refine hL.upd 7 rfl fun S' hL hn' => ?_))
  refine evC_of (s41 (b := (6, 4, 0, 0, 3, 63, 1, 2, nilSl)) ⟨rfl, rfl, rfl, rfl, rfl, rfl, rfl, rfl, rfl, rfl⟩ fun S1 e => ⟨true, rfl, ?_⟩)
  have hL := hL.ext e
  refine ifW_of (fun _ => ifW_pos rfl (ifW_pos rfl ?_)) fun h => by cases h
  repeat (first | refine ptrW_of ?_ | refine sameV_of ?_ | refine hL.new fun bk S' hL hbk hnk => ?_ | (first | refine hL.ld 0 rfl (by kernel_rfl) _ rfl ?_ | refine hL.ld 1 rfl (by kernel_rfl) _ rfl ?_ | refine hL.ld 2 rfl (by kernel_rfl) _ rfl ?_ | refine hL.ld 3 rfl (by kernel_rfl) _ rfl ?_ | refine hL.ld 4 rfl (by kernel_rfl) _ rfl ?_ | refine hL.ld 5 rfl (by kernel_rfl) _ rfl ?_ | refine hL.ld 6 rfl (by kernel_rfl) _ rfl ?_ | refine hL.ld 7 rfl (by kernel_rfl) _ rfl ?_ | refine hL.lda 0 rfl (by kernel_rfl) _ rfl ?_ | refine hL.lda 1 rfl (by kernel_rfl) _ rfl ?_ | refine hL.lda 2 rfl (by kernel_rfl) _ rfl ?_ | refine hL.lda 3 rfl (by kernel_rfl) _ rfl ?_ | refine hL.lda 4 rfl (by kernel_rfl) _ rfl ?_ | refine hL.lda 5 rfl (by kernel_rfl) _ rfl ?_ | refine hL.lda 6 rfl (by kernel_rfl) _ rfl ?_ | refine hL.lda 7 rfl (by kernel_rfl) _ rfl ?_) | (first | refine hL.st 0 _ rfl (by kernel_rfl) rfl (Nat.le_of_ble_eq_true rfl) rfl rfl fun S' hL hn' => ?_ | refine hL.st 1 _ rfl (by kernel_rfl) rfl (Nat.le_of_ble_eq_true rfl) rfl rfl fun S' hL hn' => ?_ | refine hL.st 2 _ rfl (by kernel_rfl) rfl (Nat.le_of_ble_eq_true rfl) rfl rfl fun S' hL hn' => ?_ | refine hL.st 3 _ rfl (by kernel_rfl) rfl (Nat.le_of_ble_eq_true rfl) rfl rfl fun S' hL hn' => ?_ | refine hL.st 4 _ rfl (by kernel_rfl) rfl (Nat.le_of_ble_eq_true rfl) rfl rfl fun S' hL hn' => ?_ | refine hL.st 5 _ rfl (by kernel_rfl) rfl (Nat.le_of_ble_eq_true rfl) rfl rfl fun S' hL hn' => ?_ | refine hL.st 6 _ rfl (by kernel_rfl) rfl (Nat.le_of_ble_eq_true rfl) rfl rfl fun S' hL hn' => ?_ | refine hL.st 7 _ rfl (by kernel_rfl) rfl (Nat.le_of_ble_eq_true rfl) rfl rfl fun S' hL hn' => ?_) | (first | refine hL.has 0 rfl ?_ | refine hL.has 1 rfl ?_ | refine hL.has 2 rfl ?_ | refine hL.has 3 rfl ?_ | refine hL.has 4 rfl ?_ | refine hL.has 5 rfl ?_ | refine hL.has 6 rfl ?_ | refine hL.has 7 rfl ?_) | (first | refine hL.upd 0 rfl fun S' hL hn' => ?_ | refine hL.upd 1 rfl fun S' hL hn' => ?_ | refine hL.upd 2 rfl fun S' hL hn' => ?_ | refine hL.upd 3 rfl fun S' hL hn' => ?_ | refine hL.upd 4 rfl fun S' hL hn' => ?_ | refine hL.upd 5 rfl fun S' hL hn' => ?_ | refine hL.upd 6 rfl fun S' hL hn' => ?_ | refine hL.upd 7 rfl fun S' hL hn' => ?_))
  refine evC_of (s41 (b := (7, 0, 0, 0, 0, 0, 1, 2, nilSl)) ⟨rfl, rfl, rfl, rfl, rfl, rfl, rfl, rfl, rfl, rfl⟩ fun S1 e => ⟨true, rfl, ?_⟩)
  exact hk _ (hL.ext e).mod

end
end Go.Proofs.Ytcookjolkhcjhaa

/- A circle is the same from each of its robots: the plain law, and the law's walk. -/
namespace Go.Proofs.Ytcookjolkhcjhaa
open Go Go.Proofs.Ytcookjolkhcjhaa.D
set_option linter.unusedVariables false
set_option linter.unusedSimpArgs false
noncomputable section

structure IsC (l : List Int) (f : Int) (n : Nat) : Prop where
  pos : 1 ≤ n
  le : n ≤ l.length
  range : ∀ i, i < n → 0 ≤ atW l f i ∧ atW l f i < (l.length : Int)
  back : atW l f n = f
  first : ∀ i, 0 < i → i < n → atW l f i ≠ f
theorem circ_spec {l : List Int} {f : Int} : ∀ (m i : Nat) (out : List Int), m + i = l.length → out = (List.range i).map (atW l f) → (∀ j, j < i → 0 ≤ atW l f j ∧ atW l f j < (l.length : Int)) → (∀ j, 0 < j → j ≤ i → atW l f j ≠ f) →
    (∃ n, IsC l f n ∧ circ l f m (atW l f i) out = (List.range n).map (atW l f)) ∨ (circ l f m (atW l f i) out = [] ∧ ∀ n, ¬ IsC l f n) := by
  intro m
  induction m with
  | zero =>
    intro i out hm ho hr hf
    refine .inr ⟨rfl, fun n h => ?_⟩
    have := h.le
    exact hf n (by have := h.pos; omega) (by omega) h.back
  | succ m ih =>
    intro i out hm ho hr hf
    unfold circ
    split
    · rename_i hx
      refine .inr ⟨rfl, fun n h => ?_⟩
      by_cases hn : n ≤ i
      · exact hf n (by have := h.pos; omega) hn h.back
      · have := h.range i (by omega)
        omega
    · rename_i hx
      have hin : 0 ≤ atW l f i ∧ atW l f i < (l.length : Int) := by omega
      have ho' : out ++ [atW l f i] = (List.range (i + 1)).map (atW l f) := by rw [List.range_succ, List.map_append, ho]; rfl
      have hr' : ∀ j, j < i + 1 → 0 ≤ atW l f j ∧ atW l f j < (l.length : Int) := by
        intro j hj
        by_cases e : j = i
        · subst e; exact hin
        · exact hr j (by omega)
      split
      · rename_i hb
        exact .inl ⟨i + 1, ⟨by omega, by omega, hr', hb, fun j h1 h2 => hf j h1 (by omega)⟩, ho'⟩
      · rename_i hb
        refine ih (i + 1) _ (by omega) ho' hr' fun j h1 h2 => ?_
        by_cases e : j = i + 1
        · subst e; exact hb
        · exact hf j h1 (by omega)
theorem circle_spec (l : List Int) (f : Int) : (∃ n, IsC l f n ∧ circle l f = (List.range n).map (atW l f)) ∨ (circle l f = [] ∧ ∀ n, ¬ IsC l f n) :=
  circ_spec l.length 0 [] (by omega) rfl (fun j h => by omega) (fun j h1 h2 => by omega)
theorem atW_add (l : List Int) (f : Int) (i k : Nat) : atW l (atW l f i) k = atW l f (i + k) := by
  induction k with
  | zero => rfl
  | succ k ih => show nxt l (atW l (atW l f i) k) = nxt l (atW l f (i + k)); rw [ih]
theorem IsC.period {l : List Int} {f : Int} {n : Nat} (h : IsC l f n) (k : Nat) : atW l f (n + k) = atW l f k := by rw [← atW_add, h.back]
theorem IsC.mod {l : List Int} {f : Int} {n : Nat} (h : IsC l f n) (k : Nat) : atW l f k = atW l f (k % n) := by
  have hp := h.pos
  induction k using Nat.strongRecOn with
  | ind k ih =>
    by_cases hk : k < n
    · rw [Nat.mod_eq_of_lt hk]
    · have e : k = n + (k - n) := by omega
      rw [e, h.period, ih (k - n) (by omega), Nat.add_mod_left]
theorem IsC.turn {l : List Int} {f : Int} {n : Nat} (h : IsC l f n) {i : Nat} (hi : i < n) : IsC l (atW l f i) n where
  pos := h.pos
  le := h.le
  range := fun k hk => by
    rw [atW_add, h.mod]
    exact h.range _ (Nat.mod_lt _ h.pos)
  back := by rw [atW_add, Nat.add_comm, h.period]
  first := fun k h1 h2 e => by
    rw [atW_add] at e
    refine h.first k h1 h2 ?_
    have e2 : atW l (atW l f (i + k)) (n - i) = atW l (atW l f i) (n - i) := by rw [e]
    rw [atW_add, atW_add, show i + k + (n - i) = n + k by omega, show i + (n - i) = n by omega, h.period, h.back] at e2
    exact e2
theorem IsC.unique {l : List Int} {f : Int} {n m : Nat} (h : IsC l f n) (k : IsC l f m) : n = m := by
  rcases Nat.lt_trichotomy n m with hlt | he | hlt
  · exact (k.first n h.pos hlt h.back).elim
  · exact he
  · exact (h.first m k.pos hlt k.back).elim
theorem IsC.circle {l : List Int} {f : Int} {n : Nat} (h : IsC l f n) : circle l f = (List.range n).map (atW l f) := by
  rcases circle_spec l f with ⟨m, h1, h2⟩ | ⟨_, h2⟩
  · rw [h.unique h1]; exact h2
  · exact (h2 n h).elim

theorem tmod_nat (a b : Nat) : Int.tmod (a : Int) (b : Int) = ((a % b : Nat) : Int) := (Int.ofNat_tmod a b).symm

end
end Go.Proofs.Ytcookjolkhcjhaa

/- A probe along waits: what it meets. -/
namespace Go.Proofs.Ytcookjolkhcjhaa
open Go Go.Proofs.Ytcookjolkhcjhaa.D
set_option linter.unusedVariables false
set_option linter.unusedSimpArgs false
set_option linter.unusedSectionVars false
noncomputable section

structure Gd (l p : List Int) : Prop where
  len : p.length = l.length
  le : l.length ≤ 64
  w : ∀ r, 0 ≤ r → r < (l.length : Int) → nxt l r = -1 ∨ (0 ≤ nxt l r ∧ nxt l r < (l.length : Int) ∧ nxt l r ≠ r)
  p : ∀ r, 0 ≤ r → r < (l.length : Int) → 0 ≤ nxt p r ∧ nxt p r ≤ 15
def waitP (l : List Int) (r : Int) : Wait := if 0 ≤ nxt l r ∧ nxt l r < (l.length : Int) ∧ nxt l r ≠ r then (true, r, nxt l r) else (false, 0, 0)
theorem robotP_of {n : Int} (h0 : 0 ≤ n) (h1 : n < 64) : robotP n = true := by simp [robotP, h0, h1]
theorem mayP_of {n p : Int} (h0 : 0 ≤ n) (h1 : n < 64) (h2 : 0 ≤ p) (h3 : p ≤ 15) : mayP n p = true := by simp [mayP, robotP_of h0 h1, h2, h3]
section
variable {l p : List Int} (g : Gd l p) {r : Int} (h0 : 0 ≤ r) (h1 : r < (l.length : Int))
include g h0 h1
theorem Gd.may : mayP r (nxt p r) = true := by
  have := g.le
  exact mayP_of h0 (by omega) (g.p r h0 h1).1 (g.p r h0 h1).2
theorem Gd.no (h : nxt l r < 0) : waitP l r = (false, 0, 0) := by rw [waitP, if_neg (by omega)]
theorem Gd.yes (h : 0 ≤ nxt l r) : waitP l r = (true, r, nxt l r) := by
  have := g.w r h0 h1
  rw [waitP, if_pos (by omega)]
theorem Gd.waits (h : 0 ≤ nxt l r) : waitsP r (true, r, nxt l r) = true := by
  have := g.w r h0 h1
  have := g.le
  have h2 : ¬ nxt l r = r := by omega
  have h3 : r < 1024 := by omega
  have h4 : nxt l r < 64 := by omega
  simp [waitsP, robotP, h, h2, h3, h4, h0]
theorem Gd.good : badP r (nxt p r) (waitP l r) = false := by
  rw [badP, g.may h0 h1]
  by_cases h : 0 ≤ nxt l r
  · rw [g.yes h0 h1 h, g.waits h0 h1 h]; simp
  · rw [g.no h0 h1 (by omega)]; rfl
theorem Gd.begin (h : 0 ≤ nxt l r) : beginP r (nxt p r) (waitP l r) = ((6, r, 0, 0, nxt p r, 64, r, r, nilSl), 0) := by
  rw [beginP, g.yes h0 h1 h, if_pos ⟨g.may h0 h1, g.waits h0 h1 h⟩]
theorem Gd.begin0 (h : nxt l r < 0) : beginP r (nxt p r) (waitP l r) = (noMsg, 2) := by
  rw [beginP, g.no h0 h1 h, if_neg fun h => by cases h.2]
theorem Gd.prio : prio p r = nxt p r := by rw [prio_in h0 (by rw [g.len]; exact h1), nxt_in h0 (by rw [g.len]; exact h1)]
end
/-- The least one of the first i. -/
def lst (l p : List Int) (f : Int) (i : Nat) : Int := least p ((List.range i).map (atW l f))
theorem lst_succ {l p : List Int} {f : Int} {i : Nat} (hi : 0 < i) : lst l p f (i + 1) = if less p (atW l f i) (lst l p f i) then atW l f i else lst l p f i := by
  unfold lst
  rw [List.range_succ, List.map_append, List.map_singleton, least_snoc]
  intro h
  have := congrArg List.length h
  simp at this
  omega
theorem lst_one {l p : List Int} {f : Int} : lst l p f 1 = f := rfl
theorem lst_at {l p : List Int} {f : Int} : ∀ {i : Nat}, 0 < i → ∃ j, j < i ∧ lst l p f i = atW l f j
  | 1, _ => ⟨0, by omega, rfl⟩
  | i + 2, _ => by
    obtain ⟨j, h1, h2⟩ := lst_at (l := l) (p := p) (f := f) (i := i + 1) (by omega)
    rw [lst_succ (by omega)]
    split
    · exact ⟨i + 1, by omega, rfl⟩
    · exact ⟨j, by omega, h2⟩
/-- The message behind i hops. -/
def msgAt (l p : List Int) (f cell : Int) (i : Nat) : Msg := (6, cell, 0, 0, nxt p (lst l p f i), 65 - (i : Int), f, lst l p f i, nilSl)
theorem Gd.meet {l p : List Int} (g : Gd l p) {f cell : Int} {i : Nat} (hi : 1 ≤ i) (h64 : i ≤ 64) (hr : ∀ j, j ≤ i → 0 ≤ atW l f j ∧ atW l f j < (l.length : Int)) (hc : 0 ≤ cell ∧ cell < 64) :
    meetP (atW l f i) (nxt p (atW l f i)) (waitP l (atW l f i)) (msgAt l p f cell i) =
      if f = atW l f i then (2, (7, 0, 0, 0, 0, 0, atW l f i, lst l p f i, nilSl), 0) else if nxt l (atW l f i) < 0 ∨ i = 64 then (0, noMsg, 0) else (1, msgAt l p f (atW l f i) (i + 1), 0) := by
  have hle := g.le
  obtain ⟨r0, r1⟩ := hr i (Nat.le_refl _)
  obtain ⟨f0, f1⟩ := hr 0 (by omega)
  have f0 : 0 ≤ f := f0
  have f1 : f < (l.length : Int) := f1
  obtain ⟨j, hj, ej⟩ := lst_at (l := l) (p := p) (f := f) (i := i) (by omega)
  obtain ⟨o0, o1⟩ := hr j (by omega)
  rw [← ej] at o0 o1
  rw [meetP, if_neg (by rw [g.good r0 r1]; simp)]
  have hp : probeP (msgAt l p f cell i) = true := by
    unfold probeP msgAt
    have a1 := g.may o0 o1
    have a2 := robotP_of f0 (by omega)
    have a3 : 1 ≤ 65 - (i : Int) := by omega
    have a4 : 65 - (i : Int) ≤ 64 := by omega
    have a5 : cell < 1024 := by omega
    simp [a1, a2, a3, a4, a5, hc.1, nilSl]
  rw [if_neg (by rw [hp]; simp)]
  show (if f = atW l f i then _ else _) = _
  by_cases h1 : f = atW l f i
  · rw [if_pos h1, if_pos h1]; rfl
  · rw [if_neg h1, if_neg h1]
    by_cases h2 : nxt l (atW l f i) < 0 ∨ i = 64
    · rw [if_pos h2, if_pos]
      rcases h2 with h2 | h2
      · left; rw [g.no r0 r1 h2]
      · right; show 65 - (i : Int) = 1; omega
    · have hn : 0 ≤ nxt l (atW l f i) := by omega
      rw [if_neg h2, if_neg]
      · rw [g.yes r0 r1 hn]
        refine congrArg (fun m => ((1 : Int), m, (0 : Int))) ?_
        show nextP _ _ _ _ = _
        unfold nextP
        have hw : wrapI .i64 (65 - (i : Int) - 1) = 65 - ((i + 1 : Nat) : Int) := by rw [wrap_i64 (by omega) (by omega)]; omega
        have hl := lst_succ (l := l) (p := p) (f := f) (i := i) (by omega)
        have hlss : less p (atW l f i) (lst l p f i) ↔ (nxt p (atW l f i) < nxt p (lst l p f i) ∨ nxt p (atW l f i) = nxt p (lst l p f i) ∧ atW l f i < lst l p f i) := by
          unfold less
          rw [g.prio r0 r1, g.prio o0 o1]
        by_cases h3 : less p (atW l f i) (lst l p f i)
        · rw [if_pos h3] at hl
          rw [if_pos (by exact hlss.1 h3)]
          unfold msgAt
          rw [hl, ← hw]
        · rw [if_neg h3] at hl
          rw [if_neg (by exact fun h => h3 (hlss.2 h))]
          unfold msgAt
          rw [hl, ← hw]
      · rintro (h | h)
        · rw [g.yes r0 r1 hn] at h; cases h
        · have h : 65 - (i : Int) = 1 := h
          omega

theorem Ints.ld {S : St} {s : Sl} {l : List Int} {r : Int} (h : Ints S s l) (h0 : 0 ≤ r) (h1 : r < (l.length : Int)) {k : Nat → Nat → Prop}
    (hk : ∀ b o, (∀ S', Ext S S' → loadV E0 S' 3 (.pointer (some ⟨b, o + Int.toNat r * 1, none⟩)) = some (intV (nxt l r))) → k b o) : idxW s.a s.len r k :=
  SlOf.idx (sz := 1) (f := fun n => [intV n]) (fun _ => rfl) h h0 h1 fun b o cs more ro fz e _ e2 => hk b o fun S' eS => by
    rw [nxt_in h0 h1]
    exact loadV_one (eS.at e).get inf3 agg3 (at_of_take e2)
theorem s51 {r : Int} {c : Nat} {S : St} {ws : Sl} {l : List Int} {k : Value → St → Prop} (h : At S c (.cells [.slice ws.a ws.len ws.cap] none false none)) (hw : Ints S ws l) (h0 : 0 ≤ r) (h1 : r < (l.length : Int))
    (hk : ∀ S', Ext S S' → k (sv G22 (waitP l r)) S') : WC E0 51 [intV r, .pointer (some ⟨c, 0, none⟩)] S k := by
  refine w51 r c ?_
  unfold c51
  have hlen := hw.len
  have hL := Hld.start noB S
  refine hL.new fun b1 S1 hL hb hn => ?_
  have e1 : Ext S S1 := hL.mod
  have a1 := e1.at h
  have w1 := e1.slOf hw
  have no : ¬ (0 ≤ nxt l r ∧ nxt l r < (l.length : Int) ∧ nxt l r ≠ r) → waitP l r = (false, 0, 0) := fun h => by rw [waitP, if_neg h]
  refine ifW_neg (by omega) ?_
  refine evV_of ws (loadV_one a1.get inf37 agg37 rfl) (ifW_neg (by omega) ?_)
  refine evV_of ws (loadV_one a1.get inf37 agg37 rfl) ?_
  refine Ints.ld w1 h0 h1 fun b o ld => evV_of (nxt l r) (ld S1 (Mod.refl _ _)) ?_
  refine ifW_dec (fun g => ?_) fun g => ?_
  · rw [no (by omega)] at hk
    repeat (first | refine ptrW_of ?_ | refine sameV_of ?_ | refine hL.new fun bk S' hL hbk hnk => ?_ | (first | refine hL.ld 0 rfl (by kernel_rfl) _ rfl ?_ | refine hL.ld 1 rfl (by kernel_rfl) _ rfl ?_ | refine hL.ld 2 rfl (by kernel_rfl) _ rfl ?_ | refine hL.ld 3 rfl (by kernel_rfl) _ rfl ?_ | refine hL.ld 4 rfl (by kernel_rfl) _ rfl ?_ | refine hL.ld 5 rfl (by kernel_rfl) _ rfl ?_ | refine hL.ld 6 rfl (by kernel_rfl) _ rfl ?_ | refine hL.ld 7 rfl (by kernel_rfl) _ rfl ?_ | refine hL.lda 0 rfl (by kernel_rfl) _ rfl ?_ | refine hL.lda 1 rfl (by kernel_rfl) _ rfl ?_ | refine hL.lda 2 rfl (by kernel_rfl) _ rfl ?_ | refine hL.lda 3 rfl (by kernel_rfl) _ rfl ?_ | refine hL.lda 4 rfl (by kernel_rfl) _ rfl ?_ | refine hL.lda 5 rfl (by kernel_rfl) _ rfl ?_ | refine hL.lda 6 rfl (by kernel_rfl) _ rfl ?_ | refine hL.lda 7 rfl (by kernel_rfl) _ rfl ?_) | (first | refine hL.st 0 _ rfl (by kernel_rfl) rfl (Nat.le_of_ble_eq_true rfl) rfl rfl fun S' hL hn' => ?_ | refine hL.st 1 _ rfl (by kernel_rfl) rfl (Nat.le_of_ble_eq_true rfl) rfl rfl fun S' hL hn' => ?_ | refine hL.st 2 _ rfl (by kernel_rfl) rfl (Nat.le_of_ble_eq_true rfl) rfl rfl fun S' hL hn' => ?_ | refine hL.st 3 _ rfl (by kernel_rfl) rfl (Nat.le_of_ble_eq_true rfl) rfl rfl fun S' hL hn' => ?_ | refine hL.st 4 _ rfl (by kernel_rfl) rfl (Nat.le_of_ble_eq_true rfl) rfl rfl fun S' hL hn' => ?_ | refine hL.st 5 _ rfl (by kernel_rfl) rfl (Nat.le_of_ble_eq_true rfl) rfl rfl fun S' hL hn' => ?_ | refine hL.st 6 _ rfl (by kernel_rfl) rfl (Nat.le_of_ble_eq_true rfl) rfl rfl fun S' hL hn' => ?_ | refine hL.st 7 _ rfl (by kernel_rfl) rfl (Nat.le_of_ble_eq_true rfl) rfl rfl fun S' hL hn' => ?_) | (first | refine hL.has 0 rfl ?_ | refine hL.has 1 rfl ?_ | refine hL.has 2 rfl ?_ | refine hL.has 3 rfl ?_ | refine hL.has 4 rfl ?_ | refine hL.has 5 rfl ?_ | refine hL.has 6 rfl ?_ | refine hL.has 7 rfl ?_) | (first | refine hL.upd 0 rfl fun S' hL hn' => ?_ | refine hL.upd 1 rfl fun S' hL hn' => ?_ | refine hL.upd 2 rfl fun S' hL hn' => ?_ | refine hL.upd 3 rfl fun S' hL hn' => ?_ | refine hL.upd 4 rfl fun S' hL hn' => ?_ | refine hL.upd 5 rfl fun S' hL hn' => ?_ | refine hL.upd 6 rfl fun S' hL hn' => ?_ | refine hL.upd 7 rfl fun S' hL hn' => ?_))
    exact hk _ hL.mod
  refine evV_of ws (loadV_one a1.get inf37 agg37 rfl) ?_
  refine Ints.ld w1 h0 h1 fun b o ld => evV_of (nxt l r) (ld S1 (Mod.refl _ _)) ?_
  refine evV_of ws (loadV_one a1.get inf37 agg37 rfl) (ifW_dec (fun g => ?_) fun g => ?_)
  · rw [no (by omega)] at hk
    repeat (first | refine ptrW_of ?_ | refine sameV_of ?_ | refine hL.new fun bk S' hL hbk hnk => ?_ | (first | refine hL.ld 0 rfl (by kernel_rfl) _ rfl ?_ | refine hL.ld 1 rfl (by kernel_rfl) _ rfl ?_ | refine hL.ld 2 rfl (by kernel_rfl) _ rfl ?_ | refine hL.ld 3 rfl (by kernel_rfl) _ rfl ?_ | refine hL.ld 4 rfl (by kernel_rfl) _ rfl ?_ | refine hL.ld 5 rfl (by kernel_rfl) _ rfl ?_ | refine hL.ld 6 rfl (by kernel_rfl) _ rfl ?_ | refine hL.ld 7 rfl (by kernel_rfl) _ rfl ?_ | refine hL.lda 0 rfl (by kernel_rfl) _ rfl ?_ | refine hL.lda 1 rfl (by kernel_rfl) _ rfl ?_ | refine hL.lda 2 rfl (by kernel_rfl) _ rfl ?_ | refine hL.lda 3 rfl (by kernel_rfl) _ rfl ?_ | refine hL.lda 4 rfl (by kernel_rfl) _ rfl ?_ | refine hL.lda 5 rfl (by kernel_rfl) _ rfl ?_ | refine hL.lda 6 rfl (by kernel_rfl) _ rfl ?_ | refine hL.lda 7 rfl (by kernel_rfl) _ rfl ?_) | (first | refine hL.st 0 _ rfl (by kernel_rfl) rfl (Nat.le_of_ble_eq_true rfl) rfl rfl fun S' hL hn' => ?_ | refine hL.st 1 _ rfl (by kernel_rfl) rfl (Nat.le_of_ble_eq_true rfl) rfl rfl fun S' hL hn' => ?_ | refine hL.st 2 _ rfl (by kernel_rfl) rfl (Nat.le_of_ble_eq_true rfl) rfl rfl fun S' hL hn' => ?_ | refine hL.st 3 _ rfl (by kernel_rfl) rfl (Nat.le_of_ble_eq_true rfl) rfl rfl fun S' hL hn' => ?_ | refine hL.st 4 _ rfl (by kernel_rfl) rfl (Nat.le_of_ble_eq_true rfl) rfl rfl fun S' hL hn' => ?_ | refine hL.st 5 _ rfl (by kernel_rfl) rfl (Nat.le_of_ble_eq_true rfl) rfl rfl fun S' hL hn' => ?_ | refine hL.st 6 _ rfl (by kernel_rfl) rfl (Nat.le_of_ble_eq_true rfl) rfl rfl fun S' hL hn' => ?_ | refine hL.st 7 _ rfl (by kernel_rfl) rfl (Nat.le_of_ble_eq_true rfl) rfl rfl fun S' hL hn' => ?_) | (first | refine hL.has 0 rfl ?_ | refine hL.has 1 rfl ?_ | refine hL.has 2 rfl ?_ | refine hL.has 3 rfl ?_ | refine hL.has 4 rfl ?_ | refine hL.has 5 rfl ?_ | refine hL.has 6 rfl ?_ | refine hL.has 7 rfl ?_) | (first | refine hL.upd 0 rfl fun S' hL hn' => ?_ | refine hL.upd 1 rfl fun S' hL hn' => ?_ | refine hL.upd 2 rfl fun S' hL hn' => ?_ | refine hL.upd 3 rfl fun S' hL hn' => ?_ | refine hL.upd 4 rfl fun S' hL hn' => ?_ | refine hL.upd 5 rfl fun S' hL hn' => ?_ | refine hL.upd 6 rfl fun S' hL hn' => ?_ | refine hL.upd 7 rfl fun S' hL hn' => ?_))
    exact hk _ hL.mod
  refine evV_of ws (loadV_one a1.get inf37 agg37 rfl) ?_
  refine Ints.ld w1 h0 h1 fun b o ld => evV_of (nxt l r) (ld S1 (Mod.refl _ _)) ?_
  refine ifW_dec (fun g => ?_) fun g => ?_
  · rw [no (by omega)] at hk
    repeat (first | refine ptrW_of ?_ | refine sameV_of ?_ | refine hL.new fun bk S' hL hbk hnk => ?_ | (first | refine hL.ld 0 rfl (by kernel_rfl) _ rfl ?_ | refine hL.ld 1 rfl (by kernel_rfl) _ rfl ?_ | refine hL.ld 2 rfl (by kernel_rfl) _ rfl ?_ | refine hL.ld 3 rfl (by kernel_rfl) _ rfl ?_ | refine hL.ld 4 rfl (by kernel_rfl) _ rfl ?_ | refine hL.ld 5 rfl (by kernel_rfl) _ rfl ?_ | refine hL.ld 6 rfl (by kernel_rfl) _ rfl ?_ | refine hL.ld 7 rfl (by kernel_rfl) _ rfl ?_ | refine hL.lda 0 rfl (by kernel_rfl) _ rfl ?_ | refine hL.lda 1 rfl (by kernel_rfl) _ rfl ?_ | refine hL.lda 2 rfl (by kernel_rfl) _ rfl ?_ | refine hL.lda 3 rfl (by kernel_rfl) _ rfl ?_ | refine hL.lda 4 rfl (by kernel_rfl) _ rfl ?_ | refine hL.lda 5 rfl (by kernel_rfl) _ rfl ?_ | refine hL.lda 6 rfl (by kernel_rfl) _ rfl ?_ | refine hL.lda 7 rfl (by kernel_rfl) _ rfl ?_) | (first | refine hL.st 0 _ rfl (by kernel_rfl) rfl (Nat.le_of_ble_eq_true rfl) rfl rfl fun S' hL hn' => ?_ | refine hL.st 1 _ rfl (by kernel_rfl) rfl (Nat.le_of_ble_eq_true rfl) rfl rfl fun S' hL hn' => ?_ | refine hL.st 2 _ rfl (by kernel_rfl) rfl (Nat.le_of_ble_eq_true rfl) rfl rfl fun S' hL hn' => ?_ | refine hL.st 3 _ rfl (by kernel_rfl) rfl (Nat.le_of_ble_eq_true rfl) rfl rfl fun S' hL hn' => ?_ | refine hL.st 4 _ rfl (by kernel_rfl) rfl (Nat.le_of_ble_eq_true rfl) rfl rfl fun S' hL hn' => ?_ | refine hL.st 5 _ rfl (by kernel_rfl) rfl (Nat.le_of_ble_eq_true rfl) rfl rfl fun S' hL hn' => ?_ | refine hL.st 6 _ rfl (by kernel_rfl) rfl (Nat.le_of_ble_eq_true rfl) rfl rfl fun S' hL hn' => ?_ | refine hL.st 7 _ rfl (by kernel_rfl) rfl (Nat.le_of_ble_eq_true rfl) rfl rfl fun S' hL hn' => ?_) | (first | refine hL.has 0 rfl ?_ | refine hL.has 1 rfl ?_ | refine hL.has 2 rfl ?_ | refine hL.has 3 rfl ?_ | refine hL.has 4 rfl ?_ | refine hL.has 5 rfl ?_ | refine hL.has 6 rfl ?_ | refine hL.has 7 rfl ?_) | (first | refine hL.upd 0 rfl fun S' hL hn' => ?_ | refine hL.upd 1 rfl fun S' hL hn' => ?_ | refine hL.upd 2 rfl fun S' hL hn' => ?_ | refine hL.upd 3 rfl fun S' hL hn' => ?_ | refine hL.upd 4 rfl fun S' hL hn' => ?_ | refine hL.upd 5 rfl fun S' hL hn' => ?_ | refine hL.upd 6 rfl fun S' hL hn' => ?_ | refine hL.upd 7 rfl fun S' hL hn' => ?_))
    exact hk _ hL.mod
  refine evV_of ws (loadV_one a1.get inf37 agg37 rfl) ?_
  refine Ints.ld w1 h0 h1 fun b o ld => evV_of (nxt l r) (ld S1 (Mod.refl _ _)) ?_
  rw [show waitP l r = (true, r, nxt l r) by rw [waitP, if_pos (by omega)]] at hk
  repeat (first | refine ptrW_of ?_ | refine sameV_of ?_ | refine hL.new fun bk S' hL hbk hnk => ?_ | (first | refine hL.ld 0 rfl (by kernel_rfl) _ rfl ?_ | refine hL.ld 1 rfl (by kernel_rfl) _ rfl ?_ | refine hL.ld 2 rfl (by kernel_rfl) _ rfl ?_ | refine hL.ld 3 rfl (by kernel_rfl) _ rfl ?_ | refine hL.ld 4 rfl (by kernel_rfl) _ rfl ?_ | refine hL.ld 5 rfl (by kernel_rfl) _ rfl ?_ | refine hL.ld 6 rfl (by kernel_rfl) _ rfl ?_ | refine hL.ld 7 rfl (by kernel_rfl) _ rfl ?_ | refine hL.lda 0 rfl (by kernel_rfl) _ rfl ?_ | refine hL.lda 1 rfl (by kernel_rfl) _ rfl ?_ | refine hL.lda 2 rfl (by kernel_rfl) _ rfl ?_ | refine hL.lda 3 rfl (by kernel_rfl) _ rfl ?_ | refine hL.lda 4 rfl (by kernel_rfl) _ rfl ?_ | refine hL.lda 5 rfl (by kernel_rfl) _ rfl ?_ | refine hL.lda 6 rfl (by kernel_rfl) _ rfl ?_ | refine hL.lda 7 rfl (by kernel_rfl) _ rfl ?_) | (first | refine hL.st 0 _ rfl (by kernel_rfl) rfl (Nat.le_of_ble_eq_true rfl) rfl rfl fun S' hL hn' => ?_ | refine hL.st 1 _ rfl (by kernel_rfl) rfl (Nat.le_of_ble_eq_true rfl) rfl rfl fun S' hL hn' => ?_ | refine hL.st 2 _ rfl (by kernel_rfl) rfl (Nat.le_of_ble_eq_true rfl) rfl rfl fun S' hL hn' => ?_ | refine hL.st 3 _ rfl (by kernel_rfl) rfl (Nat.le_of_ble_eq_true rfl) rfl rfl fun S' hL hn' => ?_ | refine hL.st 4 _ rfl (by kernel_rfl) rfl (Nat.le_of_ble_eq_true rfl) rfl rfl fun S' hL hn' => ?_ | refine hL.st 5 _ rfl (by kernel_rfl) rfl (Nat.le_of_ble_eq_true rfl) rfl rfl fun S' hL hn' => ?_ | refine hL.st 6 _ rfl (by kernel_rfl) rfl (Nat.le_of_ble_eq_true rfl) rfl rfl fun S' hL hn' => ?_ | refine hL.st 7 _ rfl (by kernel_rfl) rfl (Nat.le_of_ble_eq_true rfl) rfl rfl fun S' hL hn' => ?_) | (first | refine hL.has 0 rfl ?_ | refine hL.has 1 rfl ?_ | refine hL.has 2 rfl ?_ | refine hL.has 3 rfl ?_ | refine hL.has 4 rfl ?_ | refine hL.has 5 rfl ?_ | refine hL.has 6 rfl ?_ | refine hL.has 7 rfl ?_) | (first | refine hL.upd 0 rfl fun S' hL hn' => ?_ | refine hL.upd 1 rfl fun S' hL hn' => ?_ | refine hL.upd 2 rfl fun S' hL hn' => ?_ | refine hL.upd 3 rfl fun S' hL hn' => ?_ | refine hL.upd 4 rfl fun S' hL hn' => ?_ | refine hL.upd 5 rfl fun S' hL hn' => ?_ | refine hL.upd 6 rfl fun S' hL hn' => ?_ | refine hL.upd 7 rfl fun S' hL hn' => ?_))
  exact hk _ hL.mod
end
end Go.Proofs.Ytcookjolkhcjhaa

/- A probe along waits: how it ends. -/
namespace Go.Proofs.Ytcookjolkhcjhaa
open Go Go.Proofs.Ytcookjolkhcjhaa.D
set_option linter.unusedVariables false
set_option linter.unusedSimpArgs false
noncomputable section

inductive Ans (l p : List Int) (f what who hops : Int) : Prop where
  | none (h : nxt l f < 0) (h1 : what = 0) (h2 : hops = 0)
  | found (n : Nat) (h : IsC l f n) (h1 : what = 2) (h2 : who = lst l p f n) (h3 : hops = (n : Int))
  | drop (n : Nat) (h : ∀ n, ¬ IsC l f n) (h1 : what = 0) (h2 : hops = (n : Int)) (h3 : 1 ≤ n) (h4 : n ≤ 64)
/-- A message's cells. -/
abbrev mc (m : Msg) : List Value :=
  [.int .i64 m.1, .int .i64 m.2.1, .int .u32 m.2.2.1, .int .u64 m.2.2.2.1, .int .i64 m.2.2.2.2.1, .int .i64 m.2.2.2.2.2.1, .int .i64 m.2.2.2.2.2.2.1, .int .i64 m.2.2.2.2.2.2.2.1, .slice m.2.2.2.2.2.2.2.2.a m.2.2.2.2.2.2.2.2.len m.2.2.2.2.2.2.2.2.cap]

theorem hld_tl {F : Nat → Prop} {S0 S : St} {L : List (Nat × DObj)} (h : Hld F S0 S L) (n : Nat) : Hld F S0 S (L.drop n) :=
  ⟨h.mod, fun q hq => h.all q (List.mem_of_mem_drop hq), by rw [List.map_drop]; exact h.dis.sublist (List.drop_sublist _ _)⟩
theorem pigeon : ∀ (m n : Nat) (g : Nat → Nat), (∀ i, i < n → g i < m) → (∀ i j, i < j → j < n → g i ≠ g j) → n ≤ m
  | 0, n, g, h1, h2 => by
    by_cases h : n = 0
    · omega
    · have := h1 0 (by omega); omega
  | m + 1, n, g, h1, h2 => by
    by_cases h : ∃ i, i < n ∧ g i = m
    · obtain ⟨i0, hi, e⟩ := h
      have := pigeon m (n - 1) (fun i => if i < i0 then g i else g (i + 1)) (fun i hn => ?_) (fun i j hij hj => ?_)
      · omega
      · split
        · have a := h1 i (by omega)
          have b := h2 i i0 (by assumption) hi
          omega
        · have a := h1 (i + 1) (by omega)
          have b := h2 i0 (i + 1) (by omega) (by omega)
          omega
      · split <;> split
        · exact h2 i j hij (by omega)
        · exact h2 i (j + 1) (by omega) (by omega)
        · omega
        · exact h2 (i + 1) (j + 1) (by omega) (by omega)
    · exact Nat.le_succ_of_le (pigeon m n g (fun i hi => by
        have := h1 i hi
        have : g i ≠ m := fun e => h ⟨i, hi, e⟩
        omega) h2)
theorem short {l : List Int} {f : Int} {n : Nat} (hr : ∀ j, j < n → 0 ≤ atW l f j ∧ atW l f j < (l.length : Int)) (hb : atW l f n = f) (hf : ∀ j, 0 < j → j < n → atW l f j ≠ f) : n ≤ l.length := by
  refine pigeon l.length n (fun j => (atW l f j).toNat) (fun j hj => ?_) fun a b hab hb' e => ?_
  · have := hr j hj; show (atW l f j).toNat < _; omega
  · have e1 := hr a (by omega)
    have e2 := hr b hb'
    have e : (atW l f a).toNat = (atW l f b).toNat := e
    have e3 : atW l f a = atW l f b := by omega
    have e4 : atW l (atW l f a) (n - b) = atW l (atW l f b) (n - b) := by rw [e3]
    rw [atW_add, atW_add, show b + (n - b) = n by omega, hb] at e4
    exact hf (a + (n - b)) (by omega) (by omega) e4

theorem s23 {ws ps : Sl} {f : Int} {S : St} {l p : List Int} {k : Value → St → Prop} (hw : Ints S ws l) (hp : Ints S ps p) (g : Gd l p) (f0 : 0 ≤ f) (f1 : f < (l.length : Int))
    (hk : ∀ what who hops S', Ext S S' → Ans l p f what who hops → k (.tuple #[.int .i64 what, .int .i64 who, .int .i64 hops]) S') : WC E0 23 [.slice ws.a ws.len ws.cap, .slice ps.a ps.len ps.cap, .int .i64 f] S k := by
  refine w23 ws ps f ?_
  unfold c23
  have hlen := g.len
  have hle := g.le
  have hL := Hld.start noB S
  refine hL.new fun b1 S1 hL hb1 hn1 => ?_
  refine hL.new fun b2 S2 hL hb2 hn2 => ?_
  have e2 : Ext S S2 := hL.mod
  refine Ints.ld (e2.slOf hp) f0 (by omega) fun b3 b4 ld => ?_
  refine evV_of (nxt p f) (ld S2 (Mod.refl _ _)) ?_
  refine evY_func (evC_of (s51 (hL.at 1 rfl) (e2.slOf hw) f0 f1 fun S3 e3 => ⟨waitP l f, rfl, ?_⟩))
  refine evV_of (nxt p f) (ld S3 e3) (sameV_of ?_)
  have hL := hL.ext e3
  refine evC_of (s40 fun S4 e4 => ⟨beginP f (nxt p f) (waitP l f), rfl, ?_⟩)
  have hL := hL.ext e4
  by_cases hn : nxt l f < 0
  · rw [g.begin0 f0 f1 hn]
    (first | refine hL.st 0 _ rfl (by kernel_rfl) rfl (Nat.le_of_ble_eq_true rfl) rfl rfl fun S5 hL hn5 => ?_ | refine hL.st 1 _ rfl (by kernel_rfl) rfl (Nat.le_of_ble_eq_true rfl) rfl rfl fun S5 hL hn5 => ?_ | refine hL.st 2 _ rfl (by kernel_rfl) rfl (Nat.le_of_ble_eq_true rfl) rfl rfl fun S5 hL hn5 => ?_ | refine hL.st 3 _ rfl (by kernel_rfl) rfl (Nat.le_of_ble_eq_true rfl) rfl rfl fun S5 hL hn5 => ?_ | refine hL.st 4 _ rfl (by kernel_rfl) rfl (Nat.le_of_ble_eq_true rfl) rfl rfl fun S5 hL hn5 => ?_ | refine hL.st 5 _ rfl (by kernel_rfl) rfl (Nat.le_of_ble_eq_true rfl) rfl rfl fun S5 hL hn5 => ?_ | refine hL.st 6 _ rfl (by kernel_rfl) rfl (Nat.le_of_ble_eq_true rfl) rfl rfl fun S5 hL hn5 => ?_ | refine hL.st 7 _ rfl (by kernel_rfl) rfl (Nat.le_of_ble_eq_true rfl) rfl rfl fun S5 hL hn5 => ?_)
    refine ifW_pos (show ¬ ((noMsg, (2 : Int)).2 = 0) by decide) ?_
    exact hk _ _ _ _ hL.mod (.none hn rfl rfl)
  rw [g.begin f0 f1 (by omega)]
  (first | refine hL.st 0 _ rfl (by kernel_rfl) rfl (Nat.le_of_ble_eq_true rfl) rfl rfl fun S5 hL hn5 => ?_ | refine hL.st 1 _ rfl (by kernel_rfl) rfl (Nat.le_of_ble_eq_true rfl) rfl rfl fun S5 hL hn5 => ?_ | refine hL.st 2 _ rfl (by kernel_rfl) rfl (Nat.le_of_ble_eq_true rfl) rfl rfl fun S5 hL hn5 => ?_ | refine hL.st 3 _ rfl (by kernel_rfl) rfl (Nat.le_of_ble_eq_true rfl) rfl rfl fun S5 hL hn5 => ?_ | refine hL.st 4 _ rfl (by kernel_rfl) rfl (Nat.le_of_ble_eq_true rfl) rfl rfl fun S5 hL hn5 => ?_ | refine hL.st 5 _ rfl (by kernel_rfl) rfl (Nat.le_of_ble_eq_true rfl) rfl rfl fun S5 hL hn5 => ?_ | refine hL.st 6 _ rfl (by kernel_rfl) rfl (Nat.le_of_ble_eq_true rfl) rfl rfl fun S5 hL hn5 => ?_ | refine hL.st 7 _ rfl (by kernel_rfl) rfl (Nat.le_of_ble_eq_true rfl) rfl rfl fun S5 hL hn5 => ?_)
  refine ifW_neg (show ¬ ¬ ((0 : Int) = 0) by decide) ?_
  (first | refine hL.ld 0 rfl (by kernel_rfl) _ rfl ?_ | refine hL.ld 1 rfl (by kernel_rfl) _ rfl ?_ | refine hL.ld 2 rfl (by kernel_rfl) _ rfl ?_ | refine hL.ld 3 rfl (by kernel_rfl) _ rfl ?_ | refine hL.ld 4 rfl (by kernel_rfl) _ rfl ?_ | refine hL.ld 5 rfl (by kernel_rfl) _ rfl ?_ | refine hL.ld 6 rfl (by kernel_rfl) _ rfl ?_ | refine hL.ld 7 rfl (by kernel_rfl) _ rfl ?_ | refine hL.lda 0 rfl (by kernel_rfl) _ rfl ?_ | refine hL.lda 1 rfl (by kernel_rfl) _ rfl ?_ | refine hL.lda 2 rfl (by kernel_rfl) _ rfl ?_ | refine hL.lda 3 rfl (by kernel_rfl) _ rfl ?_ | refine hL.lda 4 rfl (by kernel_rfl) _ rfl ?_ | refine hL.lda 5 rfl (by kernel_rfl) _ rfl ?_ | refine hL.lda 6 rfl (by kernel_rfl) _ rfl ?_ | refine hL.lda 7 rfl (by kernel_rfl) _ rfl ?_)
  have e5 : Ext S S5 := hL.mod
  refine Ints.ld (e5.slOf hw) f0 f1 fun b5 b6 ld => evV_of (nxt l f) (ld S5 (Mod.refl _ _)) ?_
  have hw1 := g.w f f0 f1
  have hL : Hld noB S S5 [(b2, .cells (mc (msgAt l p f f 1)) none false none), (b1, .cells [.slice ws.a ws.len ws.cap] none false none)] := hL
  refine loopW_ind (fun q x S' => ∃ i : Nat, x = (atW l f i, (i : Int)) ∧ 1 ≤ i ∧ i ≤ 64 ∧ q = 64 - i ∧ (∀ j, j ≤ i → 0 ≤ atW l f j ∧ atW l f j < (l.length : Int)) ∧ (∀ j, 0 < j → j < i → atW l f j ≠ f) ∧
    ∃ cell, (0 ≤ cell ∧ cell < 64) ∧ ∃ S0, S0 = S' ∧ Hld noB S S0 [(b2, .cells (mc (msgAt l p f cell i)) none false none), (b1, .cells [.slice ws.a ws.len ws.cap] none false none)]) (m := 63)
    ⟨1, rfl, by omega, by omega, rfl, fun j hj => ?_, fun j h1 h2 => by omega, f, ⟨f0, by omega⟩, S5, rfl, hL⟩ ?_
  · have : j = 0 ∨ j = 1 := by omega
    rcases this with rfl | rfl
    · exact ⟨f0, f1⟩
    · show 0 ≤ nxt l f ∧ nxt l f < _
      omega
  clear hL e5 ld
  rintro P q x S6 ⟨i, rfl, i1, i64, rfl, hr, hf, cell, hc, S6', rfl, hL⟩ hP
  dsimp only
  obtain ⟨r0, r1⟩ := hr i (Nat.le_refl _)
  refine ifW_pos (by omega) ?_
  refine hL.new fun b7 S7 hL hb7 hn7 => ?_
  have e7 : Ext S S7 := hL.mod
  refine Ints.ld (e7.slOf hp) r0 (by omega) fun b8 b9 ld => ?_
  refine evV_of (nxt p (atW l f i)) (ld S7 (Mod.refl _ _)) ?_
  refine evY_func (evC_of (s51 (hL.at 2 rfl) (e7.slOf hw) r0 r1 fun S8 e8 => ⟨waitP l (atW l f i), rfl, ?_⟩))
  refine evV_of _ (ld S8 e8) (sameV_of ?_)
  have hLo := hL
  have hL := hL.ext e8
  refine hL.lda 1 rfl (by kernel_rfl) (msgAt l p f cell i) rfl ?_
  refine hLo.lda 1 rfl (by kernel_rfl) (msgAt l p f cell i) rfl (sameV_of ?_)
  refine evC_of (s14 fun S9 e9 => ⟨meetP (atW l f i) (nxt p (atW l f i)) (waitP l (atW l f i)) (msgAt l p f cell i), rfl, ?_⟩)
  have hL := hL.ext e9
  rw [g.meet i1 i64 hr hc]
  by_cases h1 : f = atW l f i
  · rw [if_pos h1]
    (first | refine hL.st 0 _ rfl (by kernel_rfl) rfl (Nat.le_of_ble_eq_true rfl) rfl rfl fun S10 hL hn10 => ?_ | refine hL.st 1 _ rfl (by kernel_rfl) rfl (Nat.le_of_ble_eq_true rfl) rfl rfl fun S10 hL hn10 => ?_ | refine hL.st 2 _ rfl (by kernel_rfl) rfl (Nat.le_of_ble_eq_true rfl) rfl rfl fun S10 hL hn10 => ?_ | refine hL.st 3 _ rfl (by kernel_rfl) rfl (Nat.le_of_ble_eq_true rfl) rfl rfl fun S10 hL hn10 => ?_ | refine hL.st 4 _ rfl (by kernel_rfl) rfl (Nat.le_of_ble_eq_true rfl) rfl rfl fun S10 hL hn10 => ?_ | refine hL.st 5 _ rfl (by kernel_rfl) rfl (Nat.le_of_ble_eq_true rfl) rfl rfl fun S10 hL hn10 => ?_ | refine hL.st 6 _ rfl (by kernel_rfl) rfl (Nat.le_of_ble_eq_true rfl) rfl rfl fun S10 hL hn10 => ?_ | refine hL.st 7 _ rfl (by kernel_rfl) rfl (Nat.le_of_ble_eq_true rfl) rfl rfl fun S10 hL hn10 => ?_)
    refine ifW_neg (show ¬ ¬ ((0 : Int) = 0) by decide) ?_
    refine ifW_pos (show ¬ ((2 : Int) = 1) by decide) ?_
    refine ptrW_of ?_
    (first | refine hL.ld 0 rfl (by kernel_rfl) _ rfl ?_ | refine hL.ld 1 rfl (by kernel_rfl) _ rfl ?_ | refine hL.ld 2 rfl (by kernel_rfl) _ rfl ?_ | refine hL.ld 3 rfl (by kernel_rfl) _ rfl ?_ | refine hL.ld 4 rfl (by kernel_rfl) _ rfl ?_ | refine hL.ld 5 rfl (by kernel_rfl) _ rfl ?_ | refine hL.ld 6 rfl (by kernel_rfl) _ rfl ?_ | refine hL.ld 7 rfl (by kernel_rfl) _ rfl ?_ | refine hL.lda 0 rfl (by kernel_rfl) _ rfl ?_ | refine hL.lda 1 rfl (by kernel_rfl) _ rfl ?_ | refine hL.lda 2 rfl (by kernel_rfl) _ rfl ?_ | refine hL.lda 3 rfl (by kernel_rfl) _ rfl ?_ | refine hL.lda 4 rfl (by kernel_rfl) _ rfl ?_ | refine hL.lda 5 rfl (by kernel_rfl) _ rfl ?_ | refine hL.lda 6 rfl (by kernel_rfl) _ rfl ?_ | refine hL.lda 7 rfl (by kernel_rfl) _ rfl ?_)
    refine hk _ _ _ _ hL.mod (.found i ⟨i1, ?_, fun j hj => hr j (by omega), h1.symm, hf⟩ rfl rfl rfl)
    exact short (fun j hj => hr j (by omega)) h1.symm hf
  rw [if_neg h1]
  by_cases h2 : nxt l (atW l f i) < 0 ∨ i = 64
  · rw [if_pos h2]
    (first | refine hL.st 0 _ rfl (by kernel_rfl) rfl (Nat.le_of_ble_eq_true rfl) rfl rfl fun S10 hL hn10 => ?_ | refine hL.st 1 _ rfl (by kernel_rfl) rfl (Nat.le_of_ble_eq_true rfl) rfl rfl fun S10 hL hn10 => ?_ | refine hL.st 2 _ rfl (by kernel_rfl) rfl (Nat.le_of_ble_eq_true rfl) rfl rfl fun S10 hL hn10 => ?_ | refine hL.st 3 _ rfl (by kernel_rfl) rfl (Nat.le_of_ble_eq_true rfl) rfl rfl fun S10 hL hn10 => ?_ | refine hL.st 4 _ rfl (by kernel_rfl) rfl (Nat.le_of_ble_eq_true rfl) rfl rfl fun S10 hL hn10 => ?_ | refine hL.st 5 _ rfl (by kernel_rfl) rfl (Nat.le_of_ble_eq_true rfl) rfl rfl fun S10 hL hn10 => ?_ | refine hL.st 6 _ rfl (by kernel_rfl) rfl (Nat.le_of_ble_eq_true rfl) rfl rfl fun S10 hL hn10 => ?_ | refine hL.st 7 _ rfl (by kernel_rfl) rfl (Nat.le_of_ble_eq_true rfl) rfl rfl fun S10 hL hn10 => ?_)
    refine ifW_neg (show ¬ ¬ ((0 : Int) = 0) by decide) ?_
    refine ifW_pos (show ¬ ((0 : Int) = 1) by decide) ?_
    refine ptrW_of ?_
    (first | refine hL.ld 0 rfl (by kernel_rfl) _ rfl ?_ | refine hL.ld 1 rfl (by kernel_rfl) _ rfl ?_ | refine hL.ld 2 rfl (by kernel_rfl) _ rfl ?_ | refine hL.ld 3 rfl (by kernel_rfl) _ rfl ?_ | refine hL.ld 4 rfl (by kernel_rfl) _ rfl ?_ | refine hL.ld 5 rfl (by kernel_rfl) _ rfl ?_ | refine hL.ld 6 rfl (by kernel_rfl) _ rfl ?_ | refine hL.ld 7 rfl (by kernel_rfl) _ rfl ?_ | refine hL.lda 0 rfl (by kernel_rfl) _ rfl ?_ | refine hL.lda 1 rfl (by kernel_rfl) _ rfl ?_ | refine hL.lda 2 rfl (by kernel_rfl) _ rfl ?_ | refine hL.lda 3 rfl (by kernel_rfl) _ rfl ?_ | refine hL.lda 4 rfl (by kernel_rfl) _ rfl ?_ | refine hL.lda 5 rfl (by kernel_rfl) _ rfl ?_ | refine hL.lda 6 rfl (by kernel_rfl) _ rfl ?_ | refine hL.lda 7 rfl (by kernel_rfl) _ rfl ?_)
    refine hk _ _ _ _ hL.mod (.drop i (fun n hn => ?_) rfl rfl i1 i64)
    have n1 := hn.pos
    have n2 := hn.le
    have n3 : i < n := Classical.byContradiction fun hh => by
      by_cases e : n = i
      · subst e; exact h1 hn.back.symm
      · exact hf n (by omega) (by omega) hn.back
    rcases h2 with h2 | h2
    · by_cases e : n = i + 1
      · have := hn.back
        rw [e] at this
        have e3 : nxt l (atW l f i) = f := this
        omega
      · have := (hn.range (i + 1) (by omega)).1
        have e3 : atW l f (i + 1) = nxt l (atW l f i) := rfl
        omega
    · omega
  rw [if_neg h2]
  (first | refine hL.st 0 _ rfl (by kernel_rfl) rfl (Nat.le_of_ble_eq_true rfl) rfl rfl fun S10 hL hn10 => ?_ | refine hL.st 1 _ rfl (by kernel_rfl) rfl (Nat.le_of_ble_eq_true rfl) rfl rfl fun S10 hL hn10 => ?_ | refine hL.st 2 _ rfl (by kernel_rfl) rfl (Nat.le_of_ble_eq_true rfl) rfl rfl fun S10 hL hn10 => ?_ | refine hL.st 3 _ rfl (by kernel_rfl) rfl (Nat.le_of_ble_eq_true rfl) rfl rfl fun S10 hL hn10 => ?_ | refine hL.st 4 _ rfl (by kernel_rfl) rfl (Nat.le_of_ble_eq_true rfl) rfl rfl fun S10 hL hn10 => ?_ | refine hL.st 5 _ rfl (by kernel_rfl) rfl (Nat.le_of_ble_eq_true rfl) rfl rfl fun S10 hL hn10 => ?_ | refine hL.st 6 _ rfl (by kernel_rfl) rfl (Nat.le_of_ble_eq_true rfl) rfl rfl fun S10 hL hn10 => ?_ | refine hL.st 7 _ rfl (by kernel_rfl) rfl (Nat.le_of_ble_eq_true rfl) rfl rfl fun S10 hL hn10 => ?_)
  refine ifW_neg (show ¬ ¬ ((0 : Int) = 0) by decide) ?_
  refine ifW_neg (show ¬ ¬ ((1 : Int) = 1) by decide) ?_
  refine hL.lda 0 rfl (by kernel_rfl) (msgAt l p f (atW l f i) (i + 1)) rfl ?_
  (first | refine hL.st 0 _ rfl (by kernel_rfl) rfl (Nat.le_of_ble_eq_true rfl) rfl rfl fun S11 hL hn11 => ?_ | refine hL.st 1 _ rfl (by kernel_rfl) rfl (Nat.le_of_ble_eq_true rfl) rfl rfl fun S11 hL hn11 => ?_ | refine hL.st 2 _ rfl (by kernel_rfl) rfl (Nat.le_of_ble_eq_true rfl) rfl rfl fun S11 hL hn11 => ?_ | refine hL.st 3 _ rfl (by kernel_rfl) rfl (Nat.le_of_ble_eq_true rfl) rfl rfl fun S11 hL hn11 => ?_ | refine hL.st 4 _ rfl (by kernel_rfl) rfl (Nat.le_of_ble_eq_true rfl) rfl rfl fun S11 hL hn11 => ?_ | refine hL.st 5 _ rfl (by kernel_rfl) rfl (Nat.le_of_ble_eq_true rfl) rfl rfl fun S11 hL hn11 => ?_ | refine hL.st 6 _ rfl (by kernel_rfl) rfl (Nat.le_of_ble_eq_true rfl) rfl rfl fun S11 hL hn11 => ?_ | refine hL.st 7 _ rfl (by kernel_rfl) rfl (Nat.le_of_ble_eq_true rfl) rfl rfl fun S11 hL hn11 => ?_)
  (first | refine hL.ld 0 rfl (by kernel_rfl) _ rfl ?_ | refine hL.ld 1 rfl (by kernel_rfl) _ rfl ?_ | refine hL.ld 2 rfl (by kernel_rfl) _ rfl ?_ | refine hL.ld 3 rfl (by kernel_rfl) _ rfl ?_ | refine hL.ld 4 rfl (by kernel_rfl) _ rfl ?_ | refine hL.ld 5 rfl (by kernel_rfl) _ rfl ?_ | refine hL.ld 6 rfl (by kernel_rfl) _ rfl ?_ | refine hL.ld 7 rfl (by kernel_rfl) _ rfl ?_ | refine hL.lda 0 rfl (by kernel_rfl) _ rfl ?_ | refine hL.lda 1 rfl (by kernel_rfl) _ rfl ?_ | refine hL.lda 2 rfl (by kernel_rfl) _ rfl ?_ | refine hL.lda 3 rfl (by kernel_rfl) _ rfl ?_ | refine hL.lda 4 rfl (by kernel_rfl) _ rfl ?_ | refine hL.lda 5 rfl (by kernel_rfl) _ rfl ?_ | refine hL.lda 6 rfl (by kernel_rfl) _ rfl ?_ | refine hL.lda 7 rfl (by kernel_rfl) _ rfl ?_)
  have e11 : Ext S S11 := hL.mod
  refine Ints.ld (e11.slOf hw) r0 r1 fun b5 b6 ld => evV_of (nxt l (atW l f i)) (ld S11 (Mod.refl _ _)) ?_
  rw [wrap_succ (by omega)]
  have hw2 := g.w _ r0 r1
  refine hP (64 - (i + 1)) _ _ (by omega) ⟨i + 1, rfl, by omega, by omega, rfl, fun j hj => ?_, fun j h3 h4 => ?_, atW l f i, ⟨r0, by omega⟩, S11, rfl, ?_⟩
  · by_cases e : j = i + 1
    · subst e
      show 0 ≤ nxt l (atW l f i) ∧ nxt l (atW l f i) < _
      omega
    · exact hr j (by omega)
  · by_cases e : j = i
    · subst e; exact fun h => h1 h.symm
    · exact hf j h3 (by omega)
  · exact hld_tl hL 1
end
end Go.Proofs.Ytcookjolkhcjhaa

/- THE STAGE'S THEOREM of the chapter: the walk. -/
namespace Go.Proofs.Ytcookjolkhcjhaa
open Go Go.Proofs.Ytcookjolkhcjhaa.D
set_option linter.unusedVariables false
set_option linter.unusedSimpArgs false
noncomputable section

abbrev GI (N : Nat) (S : St) (s : Sl) (l : List Int) : Prop := GrX (fun n => [intV n]) 1 N S s l
/-- Two lists that grow. -/
structure Two (N : Nat) (S : St) (s1 : Sl) (l1 : List Int) (s2 : Sl) (l2 : List Int) : Prop where
  g1 : GI N S s1 l1
  g2 : GI N S s2 l2
  dj : ∀ b, s1.a = some ⟨b, 0, none⟩ → s2.a ≠ some ⟨b, 0, none⟩
theorem GI.lt {N : Nat} {S : St} {s : Sl} {l : List Int} (g : GI N S s l) {b : Nat} (h : s.a = some ⟨b, 0, none⟩) : b < S.next := by
  rcases g with ⟨_, rfl⟩ | ⟨c, rest, _, rfl, ha, _⟩
  · cases h
  · cases h; exact ha.lt
theorem GI.keep {N : Nat} {S S' : St} {s : Sl} {l : List Int} {F : Nat → Prop} (g : GI N S s l) (m : D.Mod F S S') (h : ∀ b, s.a = some ⟨b, 0, none⟩ → ¬ F b) : GI N S' s l := by
  rcases g with g | ⟨b, rest, h1, rfl, ha, h4⟩
  · exact .inl g
  · exact .inr ⟨b, rest, h1, rfl, m.at ha (h b rfl), h4⟩
theorem Two.ext {N : Nat} {S S' : St} {s1 s2 : Sl} {l1 l2 : List Int} (h : Two N S s1 l1 s2 l2) (e : Ext S S') : Two N S' s1 l1 s2 l2 := ⟨h.g1.keep e fun _ _ h => h, h.g2.keep e fun _ _ h => h, h.dj⟩
theorem Two.swap {N : Nat} {S : St} {s1 s2 : Sl} {l1 l2 : List Int} (h : Two N S s1 l1 s2 l2) : Two N S s2 l2 s1 l1 := ⟨h.g2, h.g1, fun b h1 h2 => h.dj b h2 h1⟩
theorem Two.ap {N : Nat} {S : St} {s1 s2 : Sl} {l1 l2 : List Int} (h : Two N S s1 l1 s2 l2) {b : Nat} {v : Int} (hat : At S b (.cells [intV v] none false none)) (hb : l1.length ≤ 1000000)
    {k : Sl → St → Prop} (hk : ∀ s' S', Two N S' s' (l1 ++ [v]) s2 l2 → D.Mod (fun b => N ≤ b) S S' → k s' S') (hN : N ≤ S.next) :
    evP tS (appendD E0 S 37 37 (.slice s1.a s1.len s1.cap) (.slice (some ⟨b, 0, none⟩) 1 1)) k := by
  have hv : SlOf (fun n => [intV n]) 1 S ⟨some ⟨b, 0, none⟩, 1, 1⟩ [v] := ⟨rfl, fun _ => ⟨b, 0, _, _, _, _, rfl, hat, rfl⟩⟩
  refine GrX.appendS (f := fun n => [intV n]) (sz := 1) (x := ⟨some ⟨b, 0, none⟩, 1, 1⟩) (vs := [v]) (fun _ => rfl) (by omega) h.g1 hv (fun a ha => by cases ha; rfl) und37 inf3 und37 rfl (by kernel_rfl) (by kernel_rfl : DEnv.i3.zero = some (.int .i64 0)) rfl rfl
    (by rw [bytes3, List.length_singleton]; omega) (by rw [List.length_singleton]; omega) (by rw [List.length_singleton, show inex = 18446744073709551616 by rfl]; omega) (fun s' S' g m ha => hk s' S' ⟨g, ?_, ?_⟩ (m.mono fun b h _ => h.1)) hN
  · exact h.g2.keep m fun c hc hh => h.dj c hh.2 hc
  · intro c hc hc2
    rcases ha with ha | ⟨d, hd, hd2⟩
    · exact h.dj c (ha ▸ hc) hc2
    · rw [hd] at hc
      cases hc
      exact absurd (h.g2.lt hc2) (by omega)
abbrev cellP (x : Int × Int) : List Value := [.int .i8 x.1, .int .i8 x.2]
theorem inf48 : E0.inf 48 = some DEnv.i48 := by kernel_rfl
theorem agg48 : aggD DEnv.i48.und = false := by kernel_rfl
theorem eqB (S : St) (a b : Bool) : eqD E0 S 6 4 (.bool a) (.bool b) = some (a == b) := by kernel_rfl
theorem and15 (n : Int) : 0 ≤ wrapI .i64 (andI .i8 n 15) ∧ wrapI .i64 (andI .i8 n 15) ≤ 15 := by
  have h : 0 ≤ andI .i8 n 15 ∧ andI .i8 n 15 ≤ 15 := by
    unfold andI
    have h1 : (BitVec.ofInt IntKind.i8.bits n &&& BitVec.ofInt IntKind.i8.bits 15).toNat ≤ 15 := by
      rw [BitVec.toNat_and]
      exact Nat.le_trans Nat.and_le_right (by decide)
    generalize (BitVec.ofInt IntKind.i8.bits n &&& BitVec.ofInt IntKind.i8.bits 15).toNat = m at h1
    have : ∀ m : Nat, m ≤ 15 → 0 ≤ IntKind.i8.wrap m ∧ IntKind.i8.wrap m ≤ 15 := by
      intro m hm
      have : m = 0 ∨ m = 1 ∨ m = 2 ∨ m = 3 ∨ m = 4 ∨ m = 5 ∨ m = 6 ∨ m = 7 ∨ m = 8 ∨ m = 9 ∨ m = 10 ∨ m = 11 ∨ m = 12 ∨ m = 13 ∨ m = 14 ∨ m = 15 := by omega
      rcases this with rfl | rfl | rfl | rfl | rfl | rfl | rfl | rfl | rfl | rfl | rfl | rfl | rfl | rfl | rfl | rfl <;> decide
    exact this m h1
  rw [wrap_i64 (by omega) (by omega)]
  exact h
theorem ldP {S : St} {s : Sl} {xs : List (Int × Int)} {i : Nat} (h : SlOf cellP 2 S s xs) (hi : i < xs.length) {k : Nat → Nat → Prop}
    (hk : ∀ b o, (∀ S', Ext S S' → loadV E0 S' 48 (.pointer (some ⟨b, o + Int.toNat (i : Int) * 2 + Int.toNat 0 * 1, none⟩)) = some (.int .i8 xs[i].1)) →
      (∀ S', Ext S S' → loadV E0 S' 48 (.pointer (some ⟨b, o + Int.toNat (i : Int) * 2 + Int.toNat 1 * 1, none⟩)) = some (.int .i8 xs[i].2)) → k b o) : idxW s.a s.len (i : Int) k :=
  SlOf.idx (sz := 2) (f := cellP) (fun _ => rfl) h (by omega) (by omega) fun b o cs more ro fz e _ e2 => by
    have e2 : (cs.drop (o + (i : Int).toNat * 2)).take 2 = cellP xs[i] := e2
    refine hk b o (fun S' eS => ?_) fun S' eS => ?_
    · exact loadV_one (eS.at e).get inf48 agg48 (at_take e2 (j := 0) (by omega))
    · exact loadV_one (eS.at e).get inf48 agg48 (at_take e2 (j := 1) (by omega))
theorem s7 {S : St} {s : Sl} {xs : List (Int × Int)} {from1 : Int} (h : SlOf cellP 2 S s xs) (f0 : 0 ≤ from1) (f1 : from1 < 256) : WC E0 7 [.slice s.a s.len s.cap, .int .u8 from1] S fun v _ => v = .bool true := by
  refine w7 s from1 ?_
  unfold c7
  refine evC_of (s13 fun S1 e1 => ⟨true, rfl, ?_⟩)
  have hl := h.len
  refine ifW_dec (fun _ => rfl) fun g1 => ifW_dec (fun _ => rfl) fun g2 => ifW_of (fun h => by cases h) fun _ => ?_
  have hS1 := e1.next
  refine loopW_ind (fun q x S' => ∃ (i : Nat) (ls ps : List Int), x.2.2 = (i : Int) ∧ i ≤ xs.length ∧ q = xs.length - i ∧ ls.length = i ∧ ps.length = i ∧
      (∀ j (hj : j < ls.length), ls[j] = -1 ∨ (0 ≤ ls[j] ∧ ls[j] < (xs.length : Int) ∧ ls[j] ≠ (j : Int))) ∧ (∀ v ∈ ps, 0 ≤ v ∧ v ≤ 15) ∧ Ext S1 S' ∧ Two S1.next S' x.1 ls x.2.1 ps) (m := xs.length)
    ⟨0, [], [], rfl, by omega, rfl, rfl, rfl, fun j hj => by simp at hj, fun v hv => by simp at hv, Mod.refl _ _, .inl ⟨rfl, rfl⟩, .inl ⟨rfl, rfl⟩, fun b h => by cases h⟩ ?_
  rintro P q ⟨sw, sp, xi⟩ S2 ⟨i, ls, ps, hi, i1, rfl, hls, hps, hw, hp, e2, tw⟩ hP
  dsimp only at hi tw ⊢
  subst hi
  have e02 := e1.tr e2
  have n2 := e2.next
  refine ifW_dec (fun hlt => ?_) fun hlt => ?_
  · have hi : i < xs.length := by omega
    refine ldP (e02.slOf h) hi fun b1 b2 ld1 ld2 => ?_
    refine ⟨b1, _, rfl, by omega, by omega, ?_⟩
    refine evV_of _ (ld1 S2 (Mod.refl _ _)) ?_
    intro k2 hk2
    have key : ∀ v : Int, (v = -1 ∨ (0 ≤ v ∧ v < (xs.length : Int) ∧ v ≠ (i : Int))) → k2 v S2 := by
      intro v hv
      refine hk2 _ _ ?_
      refine newW_of fun b5 S4 hb5 ha5 e4 hn4 => ?_
      refine Two.ap (tw.ext e4) ha5 (by omega) (fun s1 S5 tw e5 => ?_) (by omega)
      have e15 : Ext S1 S5 := (e2.tr e4).ext e5 fun b hb => hb
      have e05 := e1.tr e15
      refine ldP (e05.slOf h) hi fun b6 b7 ld1 ld2 => ?_
      refine ⟨b6, _, rfl, by omega, by omega, ?_⟩
      refine evV_of _ (ld2 S5 (Mod.refl _ _)) ?_
      refine newW_of fun b10 S6 hb10 ha10 e6 hn6 => ?_
      have e16 := e15.tr e6
      have n6 := e16.next
      refine Two.ap (tw.ext e6).swap ha10 (by omega) (fun s2 S7 tw e7 => ?_) (by omega)
      have e17 : Ext S1 S7 := e16.ext e7 fun b hb => hb
      have tw := tw.swap
      rw [wrap_succ (by omega)]
      refine hP (xs.length - (i + 1)) _ _ (by omega) ⟨i + 1, _, _, rfl, by omega, rfl, by simp [hls], by simp [hps], fun j hj => ?_, fun v hv => ?_, e17, tw⟩
      · rw [List.length_append, List.length_singleton] at hj
        by_cases e : j < ls.length
        · rw [List.getElem_append_left e]; exact hw j e
        · have e : j = ls.length := by omega
          subst e
          rw [List.getElem_append_right (by omega)]
          simpa [hls] using hv
      · rcases List.mem_append.1 hv with hv | hv
        · exact hp v hv
        · rw [List.mem_singleton.1 hv]; exact and15 _
    refine ifW_dec (fun h1 => key _ (.inl rfl)) fun h1 => ifW_dec (fun h2 => key _ (.inl rfl)) fun h2 => ifW_dec (fun h3 => key _ (.inl rfl)) fun h3 => key _ (.inr ⟨by omega, by omega, h3⟩)
  · have hi : i = xs.length := by omega
    subst hi
    refine ⟨by rw [decide_eq_false (by omega)]; rfl, ?_⟩
    have hF : ∃ F, Int.tmod (wrapI .i64 from1) (s.len : Int) = F ∧ 0 ≤ F ∧ F < (ls.length : Int) := by
      rw [wrap_i64 (by omega) (by omega), hl, hls]
      exact ⟨_, rfl, Int.tmod_nonneg _ f0, Int.tmod_lt_of_pos _ (by omega)⟩
    obtain ⟨F, eF, F0, F1⟩ := hF
    rw [eF]
    have gd : Gd ls ps := by
      refine ⟨by omega, by omega, fun r r0 r1 => ?_, fun r r0 r1 => ?_⟩
      · have := hw r.toNat (by omega)
        rw [nxt_in r0 r1]
        omega
      · rw [nxt_in r0 (by omega)]
        exact hp _ (List.getElem_mem _)
    have hW : Ints S2 sw ls := GrX.of (fun _ => rfl) tw.g1
    have hPr : Ints S2 sp ps := GrX.of (fun _ => rfl) tw.g2
    refine evC_of (s23 hW hPr gd F0 F1 fun what who hops S8 e8 ans => ⟨(what, who, hops), rfl, ?_⟩)
    refine evC_of (s16 (e8.slOf hW) (by omega) fun s3 S9 hc e9 => ⟨s3, rfl, ?_⟩)
    have e29 := e8.tr e9
    have hC : Ints S9 s3 (circle ls F) := hc.of fun _ => rfl
    have hcl := hC.len
    have hcs := circle_len ls F
    rcases ans with ⟨hn, rfl, rfl⟩ | ⟨n, hc, rfl, rfl, rfl⟩ | ⟨n, hc, rfl, rfl, m1, m2⟩
    · refine ifW_pos rfl (ifW_of (fun _ => ?_) fun h => by cases h)
      refine Ints.ld (e29.slOf hW) F0 F1 fun b o ld => evV_of _ (ld S9 (Mod.refl _ _)) (ifW_pos hn ?_)
      have : circle ls F = [] := by
        rcases circle_spec ls F with ⟨n, h1, h2⟩ | ⟨h2, _⟩
        · exfalso
          have p1 := h1.pos
          by_cases e : n = 1
          · have := h1.back
            rw [e] at this
            have : nxt ls F = F := this
            omega
          · have := (h1.range 1 (by omega)).1
            have : 0 ≤ nxt ls F := this
            omega
        · exact h2
      rw [this] at hcl
      rw [hcl, eqI_eq]
      rfl
    · have p1 := hc.pos
      have p2 := hc.le
      have hcc := hc.circle
      have hcn : (circle ls F).length = n := by rw [hcc, List.length_map, List.length_range]
      refine ifW_neg (show ¬ ((n : Int) = 0) by omega) (ifW_neg (show ¬ ((64 : Int) < (n : Int)) by omega) ⟨_, eqB _ _ _, ?_⟩)
      rw [show (eqI 2 2 == ltI 0 (s3.len : Int)) = true by rw [eqI_eq, ltI_eq, decide_eq_true (by omega : (0 : Int) < (s3.len : Int))]; rfl]
      refine ifW_of (fun h => by cases h) fun _ => ifW_of (fun _ => ?_) fun h => by cases h
      refine ifW_neg (show ¬ ¬ ((2 : Int) = 2) by decide) ?_
      refine evC_of (s18 (e29.slOf hPr) hC (by omega) fun S11 e11 => ⟨least ps (circle ls F), rfl, ?_⟩)
      refine ifW_pos ?_ ?_
      · show lst ls ps F n = _
        rw [hcc]; rfl
      · show Value.bool (eqI (n : Int) (s3.len : Int)) = _
        rw [hcl, hcn, eqI_eq, decide_eq_true rfl]
    · have hce : circle ls F = [] := by
        rcases circle_spec ls F with ⟨n, h1, h2⟩ | ⟨h2, _⟩
        · exact (hc n h1).elim
        · exact h2
      rw [hce] at hcl
      have hcl : s3.len = 0 := hcl
      refine ifW_neg (show ¬ ((n : Int) = 0) by omega) (ifW_neg (show ¬ ((64 : Int) < (n : Int)) by omega) ⟨_, eqB _ _ _, ?_⟩)
      rw [show (eqI 0 2 == ltI 0 (s3.len : Int)) = true by rw [eqI_eq, ltI_eq, hcl]; rfl]
      refine ifW_of (fun h => by cases h) fun _ => ifW_of (fun _ => ?_) fun h => by cases h
      exact ifW_pos (show ¬ ((0 : Int) = 2) by decide) (ifW_pos rfl rfl)
end
end Go.Proofs.Ytcookjolkhcjhaa
