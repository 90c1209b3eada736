/- Bags: one is delivered, or dropped: the counts. -/
import Derived.Test.YtcookjolkhcjhaaBag7
namespace Go.Proofs.Ytcookjolkhcjhaa
open Go Go.Proofs.Ytcookjolkhcjhaa.D
set_option linter.unusedVariables false
set_option linter.unusedSimpArgs false
noncomputable section

theorem s54 {bb c0 : Nat} {S : St} {s : Sl} {last : Int} {c : Cnt} {k : Value → St → Prop} (h0 : At S c0 (.cells [.pointer (some ⟨bb, 0, none⟩)] none false none)) (hb : At S bb (bagO s last c)) (hc : 0 ≤ c.2.1 ∧ c.2.1 < 1000000000)
    (hk : ∀ S', At S' bb (bagO s last (c.1, c.2.1 + 1, c.2.2)) → Mod (fun b => b = bb) S S' → k (.tuple #[]) S') : WC E0 54 [.pointer (some ⟨c0, 0, none⟩)] S k := by
  refine w54 c0 ?_
  unfold c54
  refine evV_of (some ⟨bb, 0, none⟩) (load_one h0 (by kernel_rfl)) ?_
  have hL := hld_one hb
  refine ptrW_of (ptrW_of (ptrW_of ?_))
  (first | refine hL.ld 0 rfl (by kernel_rfl) _ rfl ?_ | refine hL.ld 1 rfl (by kernel_rfl) _ rfl ?_ | refine hL.ld 2 rfl (by kernel_rfl) _ rfl ?_ | refine hL.ld 3 rfl (by kernel_rfl) _ rfl ?_ | refine hL.ld 4 rfl (by kernel_rfl) _ rfl ?_ | refine hL.ld 5 rfl (by kernel_rfl) _ rfl ?_ | refine hL.ld 6 rfl (by kernel_rfl) _ rfl ?_ | refine hL.ld 7 rfl (by kernel_rfl) _ rfl ?_ | refine hL.lda 0 rfl (by kernel_rfl) _ rfl ?_ | refine hL.lda 1 rfl (by kernel_rfl) _ rfl ?_ | refine hL.lda 2 rfl (by kernel_rfl) _ rfl ?_ | refine hL.lda 3 rfl (by kernel_rfl) _ rfl ?_ | refine hL.lda 4 rfl (by kernel_rfl) _ rfl ?_ | refine hL.lda 5 rfl (by kernel_rfl) _ rfl ?_ | refine hL.lda 6 rfl (by kernel_rfl) _ rfl ?_ | refine hL.lda 7 rfl (by kernel_rfl) _ rfl ?_)
  refine ptrW_of (ptrW_of (ptrW_of ?_))
  rw [wrap_i64 (by omega) (by omega)]
  (first | refine hL.st 0 _ rfl (by kernel_rfl) rfl (Nat.le_of_ble_eq_true rfl) rfl rfl fun S' hL hn' => ?_ | refine hL.st 1 _ rfl (by kernel_rfl) rfl (Nat.le_of_ble_eq_true rfl) rfl rfl fun S' hL hn' => ?_ | refine hL.st 2 _ rfl (by kernel_rfl) rfl (Nat.le_of_ble_eq_true rfl) rfl rfl fun S' hL hn' => ?_ | refine hL.st 3 _ rfl (by kernel_rfl) rfl (Nat.le_of_ble_eq_true rfl) rfl rfl fun S' hL hn' => ?_ | refine hL.st 4 _ rfl (by kernel_rfl) rfl (Nat.le_of_ble_eq_true rfl) rfl rfl fun S' hL hn' => ?_ | refine hL.st 5 _ rfl (by kernel_rfl) rfl (Nat.le_of_ble_eq_true rfl) rfl rfl fun S' hL hn' => ?_ | refine hL.st 6 _ rfl (by kernel_rfl) rfl (Nat.le_of_ble_eq_true rfl) rfl rfl fun S' hL hn' => ?_ | refine hL.st 7 _ rfl (by kernel_rfl) rfl (Nat.le_of_ble_eq_true rfl) rfl rfl fun S' hL hn' => ?_)
  exact hk _ (hL.at 0 rfl) hL.mod
theorem s55 {bb c0 : Nat} {S : St} {s : Sl} {last : Int} {c : Cnt} {k : Value → St → Prop} (h0 : At S c0 (.cells [.pointer (some ⟨bb, 0, none⟩)] none false none)) (hb : At S bb (bagO s last c)) (hc : 0 ≤ c.2.2.1 ∧ c.2.2.1 < 1000000000)
    (hk : ∀ S', At S' bb (bagO s last (c.1, c.2.1, c.2.2.1 + 1, c.2.2.2)) → Mod (fun b => b = bb) S S' → k (.tuple #[]) S') : WC E0 55 [.pointer (some ⟨c0, 0, none⟩)] S k := by
  refine w55 c0 ?_
  unfold c55
  refine evV_of (some ⟨bb, 0, none⟩) (load_one h0 (by kernel_rfl)) ?_
  have hL := hld_one hb
  refine ptrW_of (ptrW_of (ptrW_of ?_))
  (first | refine hL.ld 0 rfl (by kernel_rfl) _ rfl ?_ | refine hL.ld 1 rfl (by kernel_rfl) _ rfl ?_ | refine hL.ld 2 rfl (by kernel_rfl) _ rfl ?_ | refine hL.ld 3 rfl (by kernel_rfl) _ rfl ?_ | refine hL.ld 4 rfl (by kernel_rfl) _ rfl ?_ | refine hL.ld 5 rfl (by kernel_rfl) _ rfl ?_ | refine hL.ld 6 rfl (by kernel_rfl) _ rfl ?_ | refine hL.ld 7 rfl (by kernel_rfl) _ rfl ?_ | refine hL.lda 0 rfl (by kernel_rfl) _ rfl ?_ | refine hL.lda 1 rfl (by kernel_rfl) _ rfl ?_ | refine hL.lda 2 rfl (by kernel_rfl) _ rfl ?_ | refine hL.lda 3 rfl (by kernel_rfl) _ rfl ?_ | refine hL.lda 4 rfl (by kernel_rfl) _ rfl ?_ | refine hL.lda 5 rfl (by kernel_rfl) _ rfl ?_ | refine hL.lda 6 rfl (by kernel_rfl) _ rfl ?_ | refine hL.lda 7 rfl (by kernel_rfl) _ rfl ?_)
  refine ptrW_of (ptrW_of (ptrW_of ?_))
  rw [wrap_i64 (by omega) (by omega)]
  (first | refine hL.st 0 _ rfl (by kernel_rfl) rfl (Nat.le_of_ble_eq_true rfl) rfl rfl fun S' hL hn' => ?_ | refine hL.st 1 _ rfl (by kernel_rfl) rfl (Nat.le_of_ble_eq_true rfl) rfl rfl fun S' hL hn' => ?_ | refine hL.st 2 _ rfl (by kernel_rfl) rfl (Nat.le_of_ble_eq_true rfl) rfl rfl fun S' hL hn' => ?_ | refine hL.st 3 _ rfl (by kernel_rfl) rfl (Nat.le_of_ble_eq_true rfl) rfl rfl fun S' hL hn' => ?_ | refine hL.st 4 _ rfl (by kernel_rfl) rfl (Nat.le_of_ble_eq_true rfl) rfl rfl fun S' hL hn' => ?_ | refine hL.st 5 _ rfl (by kernel_rfl) rfl (Nat.le_of_ble_eq_true rfl) rfl rfl fun S' hL hn' => ?_ | refine hL.st 6 _ rfl (by kernel_rfl) rfl (Nat.le_of_ble_eq_true rfl) rfl rfl fun S' hL hn' => ?_ | refine hL.st 7 _ rfl (by kernel_rfl) rfl (Nat.le_of_ble_eq_true rfl) rfl rfl fun S' hL hn' => ?_)
  exact hk _ (hL.at 0 rfl) hL.mod
end
end Go.Proofs.Ytcookjolkhcjhaa
