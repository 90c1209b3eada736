/- Scripts out of bytes: one order by its definition. -/
import Derived.Test.YtcookjolkhcjhaaOrder3
namespace Go.Proofs.Ytcookjolkhcjhaa
open Go Go.Proofs.Ytcookjolkhcjhaa.D
set_option linter.unusedVariables false
set_option linter.unusedSimpArgs false
noncomputable section

def refA (K x1 : Int) : Ord := if K = 1 ∨ 6 ≤ K then (K, Int.tmod (wrapI .i64 x1) 64, 0, 0, 0, 0) else (K, 0, wrapI .i64 (wrapI .i64 x1 + 1), 0, 0, 0)
def bothR (x2 x3 : Int) : Int := wrapI .i64 (wrapI .i64 (wrapI .i64 x2 * 256) + wrapI .i64 x3)
def refB (x2 x3 : Int) (y : Ord) : Ord :=
  if y.1 = 1 then (y.1, y.2.1, y.2.2.1, y.2.2.2.1, y.2.2.2.2.1, wrapI .u64 (bothR x2 x3))
  else if y.1 = 5 then (y.1, y.2.1, y.2.2.1, wrapI .i64 x2, (if wrapI .i64 x3 = 0 then 1 else wrapI .i64 x3), y.2.2.2.2.2)
  else if y.1 = 7 then (y.1, y.2.1, Int.tmod (bothR x2 x3) 1024, y.2.2.2)
  else if y.1 = 8 then (y.1, y.2.1, Int.tmod (wrapI .i64 x2) 16, y.2.2.2)
  else if y.1 = 9 then (y.1, y.2.1, wrapI .i64 (Int.tmod (wrapI .i64 x2) 16 - 1), y.2.2.2)
  else y
theorem or_bytes {a b : Nat} (ha : a < 256) (hb : b < 256) : orI .i64 ((a * 256 : Nat) : Int) (b : Int) = ((a * 256 + b : Nat) : Int) := by
  have h1 : (BitVec.ofInt 64 ((a * 256 : Nat) : Int) ||| BitVec.ofInt 64 (b : Int)).toNat = a * 256 + b := by
    rw [BitVec.toNat_or, BitVec.ofInt_natCast, BitVec.ofInt_natCast, BitVec.toNat_ofNat, BitVec.toNat_ofNat, Nat.mod_eq_of_lt (by omega), Nat.mod_eq_of_lt (by omega)]
    have := Nat.two_pow_add_eq_or_of_lt (i := 8) hb a
    rw [show 2 ^ 8 * a = a * 256 from by omega] at this
    exact this.symm
  show IntKind.i64.wrap ((BitVec.ofInt 64 ((a * 256 : Nat) : Int) ||| BitVec.ofInt 64 (b : Int)).toNat : Int) = _
  rw [h1]
  refine (if_neg ?_).trans ?_
  · have hm : (((a * 256 + b : Nat) : Int) % 2 ^ 64) < 2 ^ 63 := by omega
    intro h
    have h2 := of_decide_eq_true ((Bool.and_eq_true _ _).mp h).2
    exact absurd (show (2 : Int) ^ 63 ≤ ((a * 256 + b : Nat) : Int) % 2 ^ 64 from h2) (by omega)
  · show (((a * 256 + b : Nat) : Int) % 2 ^ 64) = _
    omega
theorem both_eq {x2 x3 : Int} (h2 : 0 ≤ x2 ∧ x2 < 256) (h3 : 0 ≤ x3 ∧ x3 < 256) : bothP x2 x3 = bothR x2 x3 := by
  obtain ⟨a, rfl⟩ := Int.eq_ofNat_of_zero_le h2.1
  obtain ⟨b, rfl⟩ := Int.eq_ofNat_of_zero_le h3.1
  unfold bothP bothR
  have e : ((2 ^ min (Int.toNat 8) 64 : Nat) : Int) = 256 := by decide
  rw [e, wrap_i64 (n := (a : Int)) (by omega) (by omega), wrap_i64 (n := (b : Int)) (by omega) (by omega), wrap_i64 (n := (a : Int) * 256) (by omega) (by omega), wrap_i64 (by omega) (by omega)]
  have := or_bytes (a := a) (b := b) (by omega) (by omega)
  rw [show ((a * 256 : Nat) : Int) = (a : Int) * 256 from by omega] at this
  rw [this]; omega
theorem kind_range {x0 : Int} (h : 0 ≤ x0 ∧ x0 < 256) : 1 ≤ kindP x0 ∧ kindP x0 ≤ 9 := by
  unfold kindP
  rw [wrap_i64 (n := x0) (by omega) (by omega), Int.tmod_eq_emod_of_nonneg h.1, wrap_i64 (by omega) (by omega)]
  omega
theorem ref_eq {x0 x1 x2 x3 : Int} (h0 : 0 ≤ x0 ∧ x0 < 256) (h1 : 0 ≤ x1 ∧ x1 < 256) (h2 : 0 ≤ x2 ∧ x2 < 256) (h3 : 0 ≤ x3 ∧ x3 < 256) : ofP x0 x1 x2 x3 = refB x2 x3 (refA (kindP x0) x1) := by
  have hk := kind_range h0
  unfold ofP foldO
  rw [List.take_length]
  generalize kindP x0 = K at hk
  have hw : max 1 (wrapI .i64 x3) = if wrapI .i64 x3 = 0 then 1 else wrapI .i64 x3 := by
    rw [wrap_i64 (by omega) (by omega)]; split <;> omega
  have hcase : K = 1 ∨ K = 2 ∨ K = 3 ∨ K = 4 ∨ K = 5 ∨ K = 6 ∨ K = 7 ∨ K = 8 ∨ K = 9 := by omega
  rcases hcase with rfl | rfl | rfl | rfl | rfl | rfl | rfl | rfl | rfl <;> simp [partsB, updO, refA, refB, both_eq h2 h3, hw]
end
end Go.Proofs.Ytcookjolkhcjhaa
