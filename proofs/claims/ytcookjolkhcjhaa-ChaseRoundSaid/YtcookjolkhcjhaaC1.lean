/- The conditions of functions (printed by GenDen.lean). -/
import Derived.Test.YtcookjolkhcjhaaDBase
namespace Go.Proofs.Ytcookjolkhcjhaa
open Go Go.Proofs.Ytcookjolkhcjhaa.D
set_option linter.unusedVariables false
noncomputable section

/-! 17 wagonway/wagonwayref16.Circle -/
noncomputable def h17 : Hn := (.n .no (.n .no (.n .no (.n (.n .no (.n (.n .no .no (some ⟨[0, 1], [(5, .sc .sl), (6, .sc (.int .i64)), (7, .sc (.int .i64))], false⟩)) .no none) none) .no none) none) none) none)
def c17 (waits0 : Sl) (from1 : Int) (S : St) (k : Value → St → Prop) : Prop :=
  loopW
    (fun (k1 : Sl × Int × Int → St → Prop) (x1 : Sl × Int × Int) (S1 : St) =>
      ifW (decide (x1.2.2 < (↑waits0.len : Int)))
        (ifW (decide (x1.2.1 < 0)) (k (.slice none 0 0) S1)
          (ifW (decide ((↑waits0.len : Int) ≤ x1.2.1)) (k (.slice none 0 0) S1)
            (newW S1 (.cells [.int .i64 x1.2.1] none false none) fun (b1 : Nat) (S2 : St) =>
              evP tS (appendD E0 S2 37 37 (.slice x1.1.a x1.1.len x1.1.cap) (.slice (some ⟨b1, 0, none⟩) 1 1)) fun (s1 : Sl) (S3 : St) =>
                idxW waits0.a waits0.len x1.2.1 fun (b2 b3 : Nat) =>
                  evV tI (loadV E0 S3 3 (.pointer (some ⟨b2, b3 + Int.toNat x1.2.1 * 1, none⟩))) fun (n1 : Int) =>
                    ifW (decide (n1 = from1)) (k (.slice s1.a s1.len s1.cap) S3) (k1 ({ a := s1.a, len := s1.len, cap := s1.cap }, n1, wrapD .i64 (x1.2.2 + 1)) S3))))
        (k (.slice none 0 0) S1))
    ({ a := none, len := 0, cap := 0 }, from1, 0) S
theorem w17 (waits0 : Sl) (from1 : Int) {S : St} {k : Value → St → Prop} (h : c17 waits0 from1 S k) : WC E0 17 [.slice waits0.a waits0.len waits0.cap, .int .i64 from1] S k :=
  WC_den h17 rfl (by kernel_rfl) (by kernel_rfl : Try.f17.body = some (bodyOf Try.f17)) (by rw [show (denF E0 h17 Try.f17 (bodyOf Try.f17) [.slice waits0.a waits0.len waits0.cap, .int .i64 from1] S k) = c17 waits0 from1 S k by kernel_rfl]; exact h)

/-! 16 wagonway/chase.Circle -/
noncomputable def h16 : Hn := (.n .no (.n (.n .no (.n .no (.n .no (.n (.n .no (.n (.n .no .no (some ⟨[], [(11, .sc (.int .i64))], false⟩)) .no none) none) .no (some ⟨[5, 6], [], true⟩)) none) none) none) .no none) none)
def c16 (waits0 : Sl) (from1 : Int) (S : St) (k : Value → St → Prop) : Prop :=
  newW S (.cells [.int .i64 from1] none false none) fun (b1 : Nat) (S1 : St) =>
    newW S1 (.cells [.slice none 0 0] none false none) fun (b2 : Nat) (S2 : St) =>
      newW S2 (.cells [.bool false] none false none) fun (b3 : Nat) (S3 : St) =>
        evS (storeV E0 S3 4 (.pointer (some ⟨b3, 0, none⟩)) (.bool false)) fun (S4 : St) =>
          joinW
            (fun (x1 : List Nat × PUnit) (S5 : St) =>
              evV tB (loadV E0 S5 4 (.pointer (some ⟨b3, 0, none⟩))) fun (t1 : Bool) =>
                ifW (!t1) (shutW x1.1 S5 fun (S6 : St) => k (.slice none 0 0) S6)
                  (evV tS (loadV E0 S5 37 (.pointer (some ⟨b2, 0, none⟩))) fun (s1 : Sl) => shutW x1.1 S5 fun (S7 : St) => k (.slice s1.a s1.len s1.cap) S7))
            fun (k1 : List Nat × PUnit → St → Prop) =>
            evV tI (loadV E0 S4 3 (.pointer (some ⟨b1, 0, none⟩))) fun (n1 : Int) =>
              evC E0 tA 45 [.slice waits0.a waits0.len waits0.cap, .int .i64 n1] S4 fun (v1 : Value) (S8 : St) =>
                newW S8 DObj.deferred fun (b4 : Nat) (S9 : St) =>
                  ∀ (b5 : Nat) (S10 : St) (k2 : LoopState → Option Code → DObj),
                    b5 = S9.next →
                      S10 = (St.alloc S9 (k2 LoopState.ready none)).2 →
                        (LoopL fun (x2 : LoopState) (p1 : Option Code) => k2 x2 p1) →
                          (RoundH E0 b5 [Ty.sc (Sc.int .i64)] fun (n2 : Int) (S11 : St) (k3 : Bool → St → Prop) =>
                              hasW S11 b5 (k2 LoopState.ready none)
                                (hasW S11 b5 (k2 LoopState.ready none)
                                  (updW S11 b5 (k2 LoopState.busy none) fun (S12 : St) =>
                                    evV tS (loadV E0 S12 37 (.pointer (some ⟨b2, 0, none⟩))) fun (s2 : Sl) =>
                                      ifW (decide (0 < (↑s2.len : Int)))
                                        (evV tI (loadV E0 S12 3 (.pointer (some ⟨b1, 0, none⟩))) fun (n3 : Int) =>
                                          ifW (decide (n2 = n3))
                                            (evS (storeV E0 S12 4 (.pointer (some ⟨b3, 0, none⟩)) (.bool true)) fun (S13 : St) =>
                                              hasW S13 b5 (k2 LoopState.busy none) (updW S13 b5 (k2 LoopState.done (some (Code.exit 0))) fun (S14 : St) => k3 false S14))
                                            (evV tS (loadV E0 S12 37 (.pointer (some ⟨b2, 0, none⟩))) fun (s3 : Sl) =>
                                              newW S12 (.cells [.int .i64 n2] none false none) fun (b6 : Nat) (S15 : St) =>
                                                evP tS (appendD E0 S15 37 37 (.slice s3.a s3.len s3.cap) (.slice (some ⟨b6, 0, none⟩) 1 1)) fun (s4 : Sl) (S16 : St) =>
                                                  evS (storeV E0 S16 37 (.pointer (some ⟨b2, 0, none⟩)) (.slice s4.a s4.len s4.cap)) fun (S17 : St) =>
                                                    hasW S17 b5 (k2 LoopState.busy none) (updW S17 b5 (k2 LoopState.ready none) fun (S18 : St) => k3 true S18)))
                                        (evV tS (loadV E0 S12 37 (.pointer (some ⟨b2, 0, none⟩))) fun (s5 : Sl) =>
                                          newW S12 (.cells [.int .i64 n2] none false none) fun (b7 : Nat) (S19 : St) =>
                                            evP tS (appendD E0 S19 37 37 (.slice s5.a s5.len s5.cap) (.slice (some ⟨b7, 0, none⟩) 1 1)) fun (s6 : Sl) (S20 : St) =>
                                              evS (storeV E0 S20 37 (.pointer (some ⟨b2, 0, none⟩)) (.slice s6.a s6.len s6.cap)) fun (S21 : St) =>
                                                hasW S21 b5 (k2 LoopState.busy none) (updW S21 b5 (k2 LoopState.ready none) fun (S22 : St) => k3 true S22))))) →
                            WG E0 v1 b5 S10 fun (S23 : St) =>
                              hasW S23 b5 (k2 LoopState.ready none) (updW S23 b5 (k2 LoopState.exhausted none) fun (S24 : St) => k1 ([b4], PUnit.unit) S24) ∨
                                hasW S23 b5 (k2 LoopState.done (some (Code.exit 0))) (updW S23 b5 (k2 LoopState.exhausted (some (Code.exit 0))) fun (S25 : St) => k1 ([b4], PUnit.unit) S25) ∨ False
theorem w16 (waits0 : Sl) (from1 : Int) {S : St} {k : Value → St → Prop} (h : c16 waits0 from1 S k) : WC E0 16 [.slice waits0.a waits0.len waits0.cap, .int .i64 from1] S k :=
  WC_den h16 rfl (by kernel_rfl) (by kernel_rfl : Try.f16.body = some (bodyOf Try.f16)) (by rw [show (denF E0 h16 Try.f16 (bodyOf Try.f16) [.slice waits0.a waits0.len waits0.cap, .int .i64 from1] S k) = c16 waits0 from1 S k by kernel_rfl]; exact h)

/-! 45 wagonway/chase.along -/
noncomputable def h45 : Hn := .no
def c45 (waits0 : Sl) (from1 : Int) (S : St) (k : Value → St → Prop) : Prop :=
  newW S (.cells [.slice waits0.a waits0.len waits0.cap] none false none) fun (b1 : Nat) (S1 : St) =>
    newW S1 (.cells [.int .i64 from1] none false none) fun (b2 : Nat) (S2 : St) =>
      k (.func (Fn.func 65) #[] #[.pointer (some ⟨b2, 0, none⟩), .pointer (some ⟨b1, 0, none⟩)]) S2
theorem w45 (waits0 : Sl) (from1 : Int) {S : St} {k : Value → St → Prop} (h : c45 waits0 from1 S k) : WC E0 45 [.slice waits0.a waits0.len waits0.cap, .int .i64 from1] S k :=
  WC_den h45 rfl (by kernel_rfl) (by kernel_rfl : Try.f45.body = some (bodyOf Try.f45)) (by rw [show (denF E0 h45 Try.f45 (bodyOf Try.f45) [.slice waits0.a waits0.len waits0.cap, .int .i64 from1] S k) = c45 waits0 from1 S k by kernel_rfl]; exact h)

/-! 65 wagonway/chase.along$1 -/
noncomputable def h65 : Hn := (.n .no (.n .no (.n (.n .no .no (some ⟨[0, 2, 8], [(4, .sc (.int .i64)), (9, .sc (.int .i64))], false⟩)) .no none) none) none)
def c65 (yield0 : Value) (c1 : Nat) (c2 : Nat) (S : St) (k : Value → St → Prop) : Prop :=
  evV tI (loadV E0 S 3 (.pointer (some ⟨c1, 0, none⟩))) fun (n1 : Int) =>
    evV tS (loadV E0 S 37 (.pointer (some ⟨c2, 0, none⟩))) fun (s1 : Sl) =>
      loopW
        (fun (k1 : Int × Int → St → Prop) (x1 : Int × Int) (S1 : St) =>
          ifW (decide (x1.2 < wrapD .i64 ((↑s1.len : Int) + 1)))
            (ifW (decide (x1.1 < 0)) (k (.tuple #[]) S1)
              (evV tS (loadV E0 S1 37 (.pointer (some ⟨c2, 0, none⟩))) fun (s2 : Sl) =>
                ifW (decide ((↑s2.len : Int) ≤ x1.1)) (k (.tuple #[]) S1)
                  (evY E0 tB yield0 [.int .i64 x1.1] S1 fun (t1 : Bool) (S2 : St) =>
                    ifW (!t1) (k (.tuple #[]) S2)
                      (evV tS (loadV E0 S2 37 (.pointer (some ⟨c2, 0, none⟩))) fun (s3 : Sl) =>
                        idxW s3.a s3.len x1.1 fun (b1 b2 : Nat) =>
                          evV tI (loadV E0 S2 3 (.pointer (some ⟨b1, b2 + Int.toNat x1.1 * 1, none⟩))) fun (n2 : Int) => k1 (n2, wrapD .i64 (x1.2 + 1)) S2))))
            (k (.tuple #[]) S1))
        (n1, 0) S
theorem w65 (yield0 : Value) (c1 : Nat) (c2 : Nat) {S : St} {k : Value → St → Prop} (h : c65 yield0 c1 c2 S k) : WC E0 65 [yield0, .pointer (some ⟨c1, 0, none⟩), .pointer (some ⟨c2, 0, none⟩)] S k :=
  WC_den h65 rfl (by kernel_rfl) (by kernel_rfl : Try.f65.body = some (bodyOf Try.f65)) (by rw [show (denF E0 h65 Try.f65 (bodyOf Try.f65) [yield0, .pointer (some ⟨c1, 0, none⟩), .pointer (some ⟨c2, 0, none⟩)] S k) = c65 yield0 c1 c2 S k by kernel_rfl]; exact h)

/-! 18 wagonway/chase.Least -/
noncomputable def h18 : Hn := .no
def c18 (prios0 : Sl) (robots1 : Sl) (S : St) (k : Value → St → Prop) : Prop :=
  newW S (.cells [.slice prios0.a prios0.len prios0.cap] none false none) fun (b1 : Nat) (S1 : St) =>
    ifW (decide ((↑robots1.len : Int) = 0)) (k (.int .i64 (-1)) S1)
      (newW S1 (.cells [Value.nilFunc] none false none) fun (b2 : Nat) (S2 : St) =>
        evS (storeV E0 S2 88 (.pointer (some ⟨b2, 0, none⟩)) (.func (Fn.func 46) #[] #[.pointer (some ⟨b1, 0, none⟩)])) fun (S3 : St) =>
          evC E0 tI 47 [.slice robots1.a robots1.len robots1.cap, .func (Fn.func 48) #[] #[.pointer (some ⟨b2, 0, none⟩)]] S3 fun (n1 : Int) (S4 : St) => k (.int .i64 n1) S4)
theorem w18 (prios0 : Sl) (robots1 : Sl) {S : St} {k : Value → St → Prop} (h : c18 prios0 robots1 S k) : WC E0 18 [.slice prios0.a prios0.len prios0.cap, .slice robots1.a robots1.len robots1.cap] S k :=
  WC_den h18 rfl (by kernel_rfl) (by kernel_rfl : Try.f18.body = some (bodyOf Try.f18)) (by rw [show (denF E0 h18 Try.f18 (bodyOf Try.f18) [.slice prios0.a prios0.len prios0.cap, .slice robots1.a robots1.len robots1.cap] S k) = c18 prios0 robots1 S k by kernel_rfl]; exact h)

/-! 46 wagonway/chase.Least$1 -/
noncomputable def h46 : Hn := .no
def c46 (r0 : Int) (c1 : Nat) (S : St) (k : Value → St → Prop) : Prop :=
  ifW (decide (r0 < 0)) (k (.int .i64 0) S)
    (evV tS (loadV E0 S 37 (.pointer (some ⟨c1, 0, none⟩))) fun (s1 : Sl) =>
      ifW (decide ((↑s1.len : Int) ≤ r0)) (k (.int .i64 0) S)
        (evV tS (loadV E0 S 37 (.pointer (some ⟨c1, 0, none⟩))) fun (s2 : Sl) =>
          idxW s2.a s2.len r0 fun (b1 b2 : Nat) => evV tI (loadV E0 S 3 (.pointer (some ⟨b1, b2 + Int.toNat r0 * 1, none⟩))) fun (n1 : Int) => k (.int .i64 n1) S))
theorem w46 (r0 : Int) (c1 : Nat) {S : St} {k : Value → St → Prop} (h : c46 r0 c1 S k) : WC E0 46 [.int .i64 r0, .pointer (some ⟨c1, 0, none⟩)] S k :=
  WC_den h46 rfl (by kernel_rfl) (by kernel_rfl : Try.f46.body = some (bodyOf Try.f46)) (by rw [show (denF E0 h46 Try.f46 (bodyOf Try.f46) [.int .i64 r0, .pointer (some ⟨c1, 0, none⟩)] S k) = c46 r0 c1 S k by kernel_rfl]; exact h)

/-! 47 slices.MinFunc[[]int,int] -/
noncomputable def h47 : Hn := (.n .no (.n .no (.n .no (.n (.n .no (.n (.n .no .no (some ⟨[0, 1], [(5, .sc (.int .i64)), (6, .sc (.int .i64))], false⟩)) .no none) none) .no none) none) (some ⟨[0, 1], [], false⟩)) none)
def c47 (x0 : Sl) (cmp1 : Value) (S : St) (k : Value → St → Prop) : Prop :=
  joinW
    (fun (x1 : PUnit) (S1 : St) =>
      idxW x0.a x0.len 0 fun (b1 b2 : Nat) =>
        evV tI (loadV E0 S1 3 (.pointer (some ⟨b1, b2 + Int.toNat 0 * 1, none⟩))) fun (n1 : Int) =>
          loopW
            (fun (k1 : Int × Int → St → Prop) (x2 : Int × Int) (S2 : St) =>
              ifW (decide (x2.2 < (↑x0.len : Int)))
                (idxW x0.a x0.len x2.2 fun (b3 b4 : Nat) =>
                  evV tI (loadV E0 S2 3 (.pointer (some ⟨b3, b4 + Int.toNat x2.2 * 1, none⟩))) fun (n2 : Int) =>
                    evY E0 tI cmp1 [.int .i64 n2, .int .i64 x2.1] S2 fun (n3 : Int) (S3 : St) =>
                      ifW (decide (n3 < 0))
                        (idxW x0.a x0.len x2.2 fun (b5 b6 : Nat) =>
                          evV tI (loadV E0 S3 3 (.pointer (some ⟨b5, b6 + Int.toNat x2.2 * 1, none⟩))) fun (n4 : Int) => k1 (n4, wrapD .i64 (x2.2 + 1)) S3)
                        (k1 (x2.1, wrapD .i64 (x2.2 + 1)) S3))
                (k (.int .i64 x2.1) S2))
            (n1, 1) S1)
    fun (k2 : PUnit → St → Prop) => ifW (decide ((↑x0.len : Int) < 1)) False (k2 PUnit.unit S)
theorem w47 (x0 : Sl) (cmp1 : Value) {S : St} {k : Value → St → Prop} (h : c47 x0 cmp1 S k) : WC E0 47 [.slice x0.a x0.len x0.cap, cmp1] S k :=
  WC_den h47 rfl (by kernel_rfl) (by kernel_rfl : Try.f47.body = some (bodyOf Try.f47)) (by rw [show (denF E0 h47 Try.f47 (bodyOf Try.f47) [.slice x0.a x0.len x0.cap, cmp1] S k) = c47 x0 cmp1 S k by kernel_rfl]; exact h)

/-! 48 wagonway/chase.Least$2 -/
noncomputable def h48 : Hn := (.n .no (.n (.n .no (.n (.n .no .no (some ⟨[0, 1, 6, 7], [(14, .sc .bool)], false⟩)) .no none) none) .no none) none)
def c48 (a0 : Int) (b1 : Int) (c2 : Nat) (S : St) (k : Value → St → Prop) : Prop :=
  evV tA (loadV E0 S 88 (.pointer (some ⟨c2, 0, none⟩))) fun (v1 : Value) =>
    setLowW S S.next fun (S1 : St) =>
      evY E0 tI v1 [.int .i64 a0] S1 fun (n1 : Int) (S2 : St) =>
        needW (Nat.ble S.next S2.low)
          (setLowW S2 (Nat.min S.low S.next) fun (S3 : St) =>
            lowVW S.next (.pointer (some ⟨c2, 0, none⟩))
              (evV tA (loadV E0 S3 88 (.pointer (some ⟨c2, 0, none⟩))) fun (v2 : Value) =>
                evY E0 tI v2 [.int .i64 b1] S3 fun (n2 : Int) (S4 : St) =>
                  joinW
                    (fun (t1 : Bool) (S5 : St) =>
                      ifW t1 (k (.int .i64 (-1)) S5) (ifW (decide (n1 = n2)) (ifW (decide (a0 = b1)) (k (.int .i64 0) S5) (k (.int .i64 1) S5)) (k (.int .i64 1) S5)))
                    fun (k1 : Bool → St → Prop) => ifW (decide (n1 < n2)) (k1 true S4) (ifW (decide (n1 = n2)) (k1 (decide (a0 < b1)) S4) (k1 false S4))))
theorem w48 (a0 : Int) (b1 : Int) (c2 : Nat) {S : St} {k : Value → St → Prop} (h : c48 a0 b1 c2 S k) : WC E0 48 [.int .i64 a0, .int .i64 b1, .pointer (some ⟨c2, 0, none⟩)] S k :=
  WC_den h48 rfl (by kernel_rfl) (by kernel_rfl : Try.f48.body = some (bodyOf Try.f48)) (by rw [show (denF E0 h48 Try.f48 (bodyOf Try.f48) [.int .i64 a0, .int .i64 b1, .pointer (some ⟨c2, 0, none⟩)] S k) = c48 a0 b1 c2 S k by kernel_rfl]; exact h)

/-! 19 wagonway/wagonwayref16.Least -/
noncomputable def h19 : Hn := (.n .no (.n .no (.n .no (.n (.n .no (.n (.n (.n .no (.n (.n (.n .no (.n .no (.n (.n .no .no (some ⟨[0, 1, 5, 6, 7, 8, 9], [(27, .sc .bool)], false⟩)) .no (some ⟨[0, 1, 5, 6, 7, 8], [(9, .sc (.int .i64))], false⟩)) none) none) .no none) .no none) none) .no (some ⟨[0, 1], [(5, .sc (.int .i64)), (6, .sc (.int .i64)), (7, .sc (.int .i64))], false⟩)) .no none) none) .no none) none) none) none)
def c19 (prios0 : Sl) (robots1 : Sl) (S : St) (k : Value → St → Prop) : Prop :=
  loopW
    (fun (k1 : Int × Int × Int → St → Prop) (x1 : Int × Int × Int) (S1 : St) =>
      ifW (decide (x1.2.2 < (↑robots1.len : Int)))
        (idxW robots1.a robots1.len x1.2.2 fun (b1 b2 : Nat) =>
          evV tI (loadV E0 S1 3 (.pointer (some ⟨b1, b2 + Int.toNat x1.2.2 * 1, none⟩))) fun (n1 : Int) =>
            joinW
              (fun (n2 : Int) (S2 : St) =>
                ifW (decide (x1.2.2 = 0)) (k1 (n1, n2, wrapD .i64 (x1.2.2 + 1)) S2)
                  (ifW (decide (n2 < x1.2.1)) (k1 (n1, n2, wrapD .i64 (x1.2.2 + 1)) S2)
                    (ifW (decide (n2 = x1.2.1)) (ifW (decide (n1 < x1.1)) (k1 (n1, n2, wrapD .i64 (x1.2.2 + 1)) S2) (k1 (x1.1, x1.2.1, wrapD .i64 (x1.2.2 + 1)) S2))
                      (k1 (x1.1, x1.2.1, wrapD .i64 (x1.2.2 + 1)) S2))))
              fun (k2 : Int → St → Prop) =>
              joinW
                (fun (t1 : Bool) (S3 : St) =>
                  ifW t1 (idxW prios0.a prios0.len n1 fun (b3 b4 : Nat) => evV tI (loadV E0 S3 3 (.pointer (some ⟨b3, b4 + Int.toNat n1 * 1, none⟩))) fun (n3 : Int) => k2 n3 S3) (k2 0 S3))
                fun (k3 : Bool → St → Prop) => ifW (decide (0 ≤ n1)) (k3 (decide (n1 < (↑prios0.len : Int))) S1) (k3 false S1))
        (k (.int .i64 x1.1) S1))
    (-1, 0, 0) S
theorem w19 (prios0 : Sl) (robots1 : Sl) {S : St} {k : Value → St → Prop} (h : c19 prios0 robots1 S k) : WC E0 19 [.slice prios0.a prios0.len prios0.cap, .slice robots1.a robots1.len robots1.cap] S k :=
  WC_den h19 rfl (by kernel_rfl) (by kernel_rfl : Try.f19.body = some (bodyOf Try.f19)) (by rw [show (denF E0 h19 Try.f19 (bodyOf Try.f19) [.slice prios0.a prios0.len prios0.cap, .slice robots1.a robots1.len robots1.cap] S k) = c19 prios0 robots1 S k by kernel_rfl]; exact h)

/-! 4 wagonway/wagonwaylaw16.ChaseCircles -/
noncomputable def h4 : Hn := (.n .no (.n .no (.n .no (.n .no (.n .no (.n (.n .no (.n (.n .no .no (some ⟨[7, 8, 48], [(49, .sc (.int .i64))], false⟩)) .no none) none) .no none) none) none) none) none) none)
def c4 (waits0 : Sl) (prios1 : Sl) (from2 : Int) (S : St) (k : Value → St → Prop) : Prop :=
  ifW (decide (100 < (↑waits0.len : Int))) (k (.bool true) S)
    (ifW (decide (100 < (↑prios1.len : Int))) (k (.bool true) S)
      (evC E0 tS 16 [.slice waits0.a waits0.len waits0.cap, .int .i64 from2] S fun (s1 : Sl) (S1 : St) =>
        evC E0 tS 17 [.slice waits0.a waits0.len waits0.cap, .int .i64 from2] S1 fun (s2 : Sl) (S2 : St) =>
          ifW (!decide ((↑s1.len : Int) = (↑s2.len : Int))) (k (.bool false) S2)
            (evC E0 tI 18 [.slice prios1.a prios1.len prios1.cap, .slice s1.a s1.len s1.cap] S2 fun (n1 : Int) (S3 : St) =>
              evC E0 tI 19 [.slice prios1.a prios1.len prios1.cap, .slice s2.a s2.len s2.cap] S3 fun (n2 : Int) (S4 : St) =>
                ifW (!decide (n1 = n2)) (k (.bool false) S4)
                  (evC E0 tI 18 [.slice prios1.a prios1.len prios1.cap, .slice waits0.a waits0.len waits0.cap] S4 fun (n3 : Int) (S5 : St) =>
                    evC E0 tI 19 [.slice prios1.a prios1.len prios1.cap, .slice waits0.a waits0.len waits0.cap] S5 fun (n4 : Int) (S6 : St) =>
                      ifW (!decide (n3 = n4)) (k (.bool false) S6)
                        (loopW
                          (fun (k1 : Int → St → Prop) (n5 : Int) (S7 : St) =>
                            ifW (decide (n5 < (↑s1.len : Int)))
                              (idxW s1.a s1.len n5 fun (b1 b2 : Nat) =>
                                evV tI (loadV E0 S7 3 (.pointer (some ⟨b1, b2 + Int.toNat n5 * 1, none⟩))) fun (n6 : Int) =>
                                  idxW s2.a s2.len n5 fun (b3 b4 : Nat) =>
                                    evV tI (loadV E0 S7 3 (.pointer (some ⟨b3, b4 + Int.toNat n5 * 1, none⟩))) fun (n7 : Int) =>
                                      ifW (!decide (n6 = n7)) (k (.bool false) S7) (k1 (wrapD .i64 (n5 + 1)) S7))
                              (k (.bool true) S7))
                          0 S6)))))
theorem w4 (waits0 : Sl) (prios1 : Sl) (from2 : Int) {S : St} {k : Value → St → Prop} (h : c4 waits0 prios1 from2 S k) : WC E0 4 [.slice waits0.a waits0.len waits0.cap, .slice prios1.a prios1.len prios1.cap, .int .i64 from2] S k :=
  WC_den h4 rfl (by kernel_rfl) (by kernel_rfl : Try.f4.body = some (bodyOf Try.f4)) (by rw [show (denF E0 h4 Try.f4 (bodyOf Try.f4) [.slice waits0.a waits0.len waits0.cap, .slice prios1.a prios1.len prios1.cap, .int .i64 from2] S k) = c4 waits0 prios1 from2 S k by kernel_rfl]; exact h)

/-! 13 wagonway/wagonwaylaw16.alive -/
noncomputable def h13 : Hn := .no
def c13  (S : St) (k : Value → St → Prop) : Prop :=
  evC E0 (TT.tup [Ty.agg G29, Ty.sc (Sc.int .i64)]) 40 [.int .i64 1, .int .i64 5, .agg #[.bool true, .int .i64 9, .int .i64 2]] S
    fun (x1 : (Int × Int × Int × Int × Int × Int × Int × Int × Sl) × Int) (S1 : St) =>
    newW S1
      (.cells
        [.int .i64 0, .int .i64 0, .int .u32 0, .int .u64 0, .int .i64 0, .int .i64 0, .int .i64 0, .int .i64 0,
          .slice none 0 0]
        none false none)
      fun (b1 : Nat) (S2 : St) =>
      evS (storeV E0 S2 30 (.pointer (some ⟨b1, 0, none⟩)) (sv G29 x1.1)) fun (S3 : St) =>
        evV (TT.one (Ty.agg G29)) (loadV E0 S3 30 (.pointer (some ⟨b1, 0, none⟩))) fun (x2 : Int × Int × Int × Int × Int × Int × Int × Int × Sl) =>
          evC E0 (TT.tup [Ty.sc (Sc.int .i64), Ty.agg G29, Ty.sc (Sc.int .i64)]) 14
            [.int .i64 2, .int .i64 3, .agg #[.bool true, .int .i64 4, .int .i64 1], sv G29 x2] S3
            fun (x3 : Int × (Int × Int × Int × Int × Int × Int × Int × Int × Sl) × Int) (S4 : St) =>
            newW S4
              (.cells
                [.int .i64 0, .int .i64 0, .int .u32 0, .int .u64 0, .int .i64 0, .int .i64 0, .int .i64 0, .int .i64 0,
                  .slice none 0 0]
                none false none)
              fun (b2 : Nat) (S5 : St) =>
              evS (storeV E0 S5 30 (.pointer (some ⟨b2, 0, none⟩)) (sv G29 x3.2.1)) fun (S6 : St) =>
                evV (TT.one (Ty.agg G29)) (loadV E0 S6 30 (.pointer (some ⟨b2, 0, none⟩))) fun (x4 : Int × Int × Int × Int × Int × Int × Int × Int × Sl) =>
                  evC E0 (TT.tup [Ty.sc (Sc.int .i64), Ty.agg G29, Ty.sc (Sc.int .i64)]) 14
                    [.int .i64 1, .int .i64 5, .agg #[.bool true, .int .i64 9, .int .i64 2], sv G29 x4] S6
                    fun (x5 : Int × (Int × Int × Int × Int × Int × Int × Int × Int × Sl) × Int) (S7 : St) =>
                    newW S7
                      (.cells
                        [.int .i64 0, .int .i64 0, .int .u32 0, .int .u64 0, .int .i64 0, .int .i64 0, .int .i64 0,
                          .int .i64 0, .slice none 0 0]
                        none false none)
                      fun (b3 : Nat) (S8 : St) =>
                      evS (storeV E0 S8 30 (.pointer (some ⟨b3, 0, none⟩)) (sv G29 x5.2.1)) fun (S9 : St) =>
                        ifW (decide (x1.2 = 0))
                          (evV (TT.one (Ty.agg G29)) (loadV E0 S9 30 (.pointer (some ⟨b1, 0, none⟩))) fun (x6 : Int × Int × Int × Int × Int × Int × Int × Int × Sl) =>
                            evC E0 tB 41
                              [sv G29 x6,
                                .agg
                                  #[.int .i64 6, .int .i64 9, .int .u32 0, .int .u64 0, .int .i64 5, .int .i64 64, .int .i64 1,
                                    .int .i64 1, .slice none 0 0]]
                              S9 fun (t1 : Bool) (S10 : St) =>
                              ifW t1
                                (ifW (decide (x3.2.2 = 0))
                                  (ifW (decide (x3.1 = 1))
                                    (evV (TT.one (Ty.agg G29)) (loadV E0 S10 30 (.pointer (some ⟨b2, 0, none⟩))) fun (x7 : Int × Int × Int × Int × Int × Int × Int × Int × Sl) =>
                                      evC E0 tB 41
                                        [sv G29 x7,
                                          .agg
                                            #[.int .i64 6, .int .i64 4, .int .u32 0, .int .u64 0, .int .i64 3, .int .i64 63, .int .i64 1,
                                              .int .i64 2, .slice none 0 0]]
                                        S10 fun (t2 : Bool) (S11 : St) =>
                                        ifW t2
                                          (ifW (decide (x5.2.2 = 0))
                                            (ifW (decide (x5.1 = 2))
                                              (evV (TT.one (Ty.agg G29)) (loadV E0 S11 30 (.pointer (some ⟨b3, 0, none⟩))) fun (x8 : Int × Int × Int × Int × Int × Int × Int × Int × Sl) =>
                                                evC E0 tB 41
                                                  [sv G29 x8,
                                                    .agg
                                                      #[.int .i64 7, .int .i64 0, .int .u32 0, .int .u64 0, .int .i64 0, .int .i64 0,
                                                        .int .i64 1, .int .i64 2, .slice none 0 0]]
                                                  S11 fun (t3 : Bool) (S12 : St) => k (.bool t3) S12)
                                              (k (.bool false) S11))
                                            (k (.bool false) S11))
                                          (k (.bool false) S11))
                                    (k (.bool false) S10))
                                  (k (.bool false) S10))
                                (k (.bool false) S10))
                          (k (.bool false) S9)
theorem w13  {S : St} {k : Value → St → Prop} (h : c13  S k) : WC E0 13 [] S k :=
  WC_den h13 rfl (by kernel_rfl) (by kernel_rfl : Try.f13.body = some (bodyOf Try.f13)) (by rw [show (denF E0 h13 Try.f13 (bodyOf Try.f13) [] S k) = c13  S k by kernel_rfl]; exact h)

/-! 14 wagonway/chase.Meet -/
noncomputable def h14 : Hn := (.n .no (.n (.n (.n .no .no (some ⟨[0, 1, 6, 7, 9], [(11, .sc .bool)], false⟩)) .no none) (.n .no (.n .no (.n .no (.n (.n .no .no (some ⟨[0, 1, 9], [(75, .sc .bool)], false⟩)) .no none) none) none) none) none) none)
def c14 (self0 : Int) (prio1 : Int) (w2 : Bool × Int × Int) (m3 : Int × Int × Int × Int × Int × Int × Int × Int × Sl) (S : St) (k : Value → St → Prop) : Prop :=
  newW S (.cells [.bool w2.1, .int .i64 w2.2.1, .int .i64 w2.2.2] none false none) fun (b1 : Nat) (S1 : St) =>
    newW S1
      (.cells
        [.int .i64 m3.1, .int .i64 m3.2.1, .int .u32 m3.2.2.1, .int .u64 m3.2.2.2.1, .int .i64 m3.2.2.2.2.1,
          .int .i64 m3.2.2.2.2.2.1, .int .i64 m3.2.2.2.2.2.2.1, .int .i64 m3.2.2.2.2.2.2.2.1,
          .slice m3.2.2.2.2.2.2.2.2.a m3.2.2.2.2.2.2.2.2.len m3.2.2.2.2.2.2.2.2.cap]
        none false none)
      fun (b2 : Nat) (S2 : St) =>
      newW S2
        (.cells
          [.int .i64 0, .int .i64 0, .int .u32 0, .int .u64 0, .int .i64 0, .int .i64 0, .int .i64 0, .int .i64 0,
            .slice none 0 0]
          none false none)
        fun (b3 : Nat) (S3 : St) =>
        joinW
          (fun (t1 : Bool) (S4 : St) =>
            ifW t1
              (evS
                (storeV E0 S4 30 (.pointer (some ⟨b3, 0, none⟩))
                  (.agg
                    #[.int .i64 0, .int .i64 0, .int .u32 0, .int .u64 0, .int .i64 0, .int .i64 0, .int .i64 0, .int .i64 0,
                      .slice none 0 0]))
                fun (S5 : St) =>
                evV (TT.one (Ty.agg G29)) (loadV E0 S5 30 (.pointer (some ⟨b3, 0, none⟩))) fun (x1 : Int × Int × Int × Int × Int × Int × Int × Int × Sl) =>
                  k (.tuple #[.int .i64 0, sv G29 x1, .int .i64 2]) S5)
              (evV (TT.one (Ty.agg G29)) (loadV E0 S4 30 (.pointer (some ⟨b2, 0, none⟩))) fun (x2 : Int × Int × Int × Int × Int × Int × Int × Int × Sl) =>
                evC E0 tB 44 [sv G29 x2] S4 fun (t2 : Bool) (S6 : St) =>
                  ifW (!t2)
                    (evS
                      (storeV E0 S6 30 (.pointer (some ⟨b3, 0, none⟩))
                        (.agg
                          #[.int .i64 0, .int .i64 0, .int .u32 0, .int .u64 0, .int .i64 0, .int .i64 0, .int .i64 0,
                            .int .i64 0, .slice none 0 0]))
                      fun (S7 : St) =>
                      evV (TT.one (Ty.agg G29)) (loadV E0 S7 30 (.pointer (some ⟨b3, 0, none⟩))) fun (x3 : Int × Int × Int × Int × Int × Int × Int × Int × Sl) =>
                        k (.tuple #[.int .i64 0, sv G29 x3, .int .i64 160]) S7)
                    (ptrW (some ⟨b2, 0, none⟩) fun (b4 b5 : Nat) =>
                      evV tI (loadV E0 S6 3 (.pointer (some ⟨b4, b5 + 6, none⟩))) fun (n1 : Int) =>
                        ifW (decide (n1 = self0))
                          (ptrW (some ⟨b2, 0, none⟩) fun (b6 b7 : Nat) =>
                            evV tI (loadV E0 S6 3 (.pointer (some ⟨b6, b7 + 7, none⟩))) fun (n2 : Int) =>
                              evS
                                (storeV E0 S6 30 (.pointer (some ⟨b3, 0, none⟩))
                                  (.agg
                                    #[.int .i64 7, .int .i64 0, .int .u32 0, .int .u64 0, .int .i64 0, .int .i64 0, .int .i64 self0,
                                      .int .i64 n2, .slice none 0 0]))
                                fun (S8 : St) =>
                                evV (TT.one (Ty.agg G29)) (loadV E0 S8 30 (.pointer (some ⟨b3, 0, none⟩))) fun (x4 : Int × Int × Int × Int × Int × Int × Int × Int × Sl) =>
                                  k (.tuple #[.int .i64 2, sv G29 x4, .int .i64 0]) S8)
                          (ptrW (some ⟨b1, 0, none⟩) fun (b8 b9 : Nat) =>
                            evV tB (loadV E0 S6 4 (.pointer (some ⟨b8, b9 + 0, none⟩))) fun (t3 : Bool) =>
                              ifW (!t3)
                                (evS
                                  (storeV E0 S6 30 (.pointer (some ⟨b3, 0, none⟩))
                                    (.agg
                                      #[.int .i64 0, .int .i64 0, .int .u32 0, .int .u64 0, .int .i64 0, .int .i64 0, .int .i64 0,
                                        .int .i64 0, .slice none 0 0]))
                                  fun (S9 : St) =>
                                  evV (TT.one (Ty.agg G29)) (loadV E0 S9 30 (.pointer (some ⟨b3, 0, none⟩))) fun (x5 : Int × Int × Int × Int × Int × Int × Int × Int × Sl) =>
                                    k (.tuple #[.int .i64 0, sv G29 x5, .int .i64 0]) S9)
                                (ptrW (some ⟨b2, 0, none⟩) fun (b10 b11 : Nat) =>
                                  evV tI (loadV E0 S6 3 (.pointer (some ⟨b10, b11 + 5, none⟩))) fun (n3 : Int) =>
                                    ifW (decide (n3 = 1))
                                      (evS
                                        (storeV E0 S6 30 (.pointer (some ⟨b3, 0, none⟩))
                                          (.agg
                                            #[.int .i64 0, .int .i64 0, .int .u32 0, .int .u64 0, .int .i64 0, .int .i64 0, .int .i64 0,
                                              .int .i64 0, .slice none 0 0]))
                                        fun (S10 : St) =>
                                        evV (TT.one (Ty.agg G29)) (loadV E0 S10 30 (.pointer (some ⟨b3, 0, none⟩))) fun (x6 : Int × Int × Int × Int × Int × Int × Int × Int × Sl) =>
                                          k (.tuple #[.int .i64 0, sv G29 x6, .int .i64 0]) S10)
                                      (evV (TT.one (Ty.agg G29)) (loadV E0 S6 30 (.pointer (some ⟨b2, 0, none⟩))) fun (x7 : Int × Int × Int × Int × Int × Int × Int × Int × Sl) =>
                                        evS (storeV E0 S6 30 (.pointer (some ⟨b3, 0, none⟩)) (sv G29 x7)) fun (S11 : St) =>
                                          ptrW (some ⟨b3, 0, none⟩) fun (b12 b13 : Nat) =>
                                            evV tI (loadV E0 S11 3 (.pointer (some ⟨b12, b13 + 5, none⟩))) fun (n4 : Int) =>
                                              ptrW (some ⟨b3, 0, none⟩) fun (b14 b15 : Nat) =>
                                                evS (storeV E0 S11 3 (.pointer (some ⟨b14, b15 + 5, none⟩)) (.int .i64 (wrapD .i64 (n4 - 1)))) fun (S12 : St) =>
                                                  ptrW (some ⟨b1, 0, none⟩) fun (b16 b17 : Nat) =>
                                                    evV tI (loadV E0 S12 3 (.pointer (some ⟨b16, b17 + 1, none⟩))) fun (n5 : Int) =>
                                                      ptrW (some ⟨b3, 0, none⟩) fun (b18 b19 : Nat) =>
                                                        evS (storeV E0 S12 3 (.pointer (some ⟨b18, b19 + 1, none⟩)) (.int .i64 n5)) fun (S13 : St) =>
                                                          joinW
                                                            (fun (t4 : Bool) (S14 : St) =>
                                                              ifW t4
                                                                (ptrW (some ⟨b3, 0, none⟩) fun (b20 b21 : Nat) =>
                                                                  evS (storeV E0 S14 3 (.pointer (some ⟨b20, b21 + 4, none⟩)) (.int .i64 prio1)) fun (S15 : St) =>
                                                                    ptrW (some ⟨b3, 0, none⟩) fun (b22 b23 : Nat) =>
                                                                      evS (storeV E0 S15 3 (.pointer (some ⟨b22, b23 + 7, none⟩)) (.int .i64 self0)) fun (S16 : St) =>
                                                                        evV (TT.one (Ty.agg G29)) (loadV E0 S16 30 (.pointer (some ⟨b3, 0, none⟩)))
                                                                          fun (x8 : Int × Int × Int × Int × Int × Int × Int × Int × Sl) =>
                                                                          evS (storeV E0 S16 30 (.pointer (some ⟨b3, 0, none⟩)) (sv G29 x8)) fun (S17 : St) =>
                                                                            evV (TT.one (Ty.agg G29)) (loadV E0 S17 30 (.pointer (some ⟨b3, 0, none⟩)))
                                                                              fun (x9 : Int × Int × Int × Int × Int × Int × Int × Int × Sl) =>
                                                                              k (.tuple #[.int .i64 1, sv G29 x9, .int .i64 0]) S17)
                                                                (evV (TT.one (Ty.agg G29)) (loadV E0 S14 30 (.pointer (some ⟨b3, 0, none⟩)))
                                                                  fun (x10 : Int × Int × Int × Int × Int × Int × Int × Int × Sl) =>
                                                                  evS (storeV E0 S14 30 (.pointer (some ⟨b3, 0, none⟩)) (sv G29 x10)) fun (S18 : St) =>
                                                                    evV (TT.one (Ty.agg G29)) (loadV E0 S18 30 (.pointer (some ⟨b3, 0, none⟩)))
                                                                      fun (x11 : Int × Int × Int × Int × Int × Int × Int × Int × Sl) => k (.tuple #[.int .i64 1, sv G29 x11, .int .i64 0]) S18))
                                                            fun (k1 : Bool → St → Prop) =>
                                                            ptrW (some ⟨b2, 0, none⟩) fun (b24 b25 : Nat) =>
                                                              evV tI (loadV E0 S13 3 (.pointer (some ⟨b24, b25 + 4, none⟩))) fun (n6 : Int) =>
                                                                ifW (decide (prio1 < n6)) (k1 true S13)
                                                                  (ptrW (some ⟨b2, 0, none⟩) fun (b26 b27 : Nat) =>
                                                                    evV tI (loadV E0 S13 3 (.pointer (some ⟨b26, b27 + 4, none⟩))) fun (n7 : Int) =>
                                                                      ifW (decide (prio1 = n7))
                                                                        (ptrW (some ⟨b2, 0, none⟩) fun (b28 b29 : Nat) =>
                                                                          evV tI (loadV E0 S13 3 (.pointer (some ⟨b28, b29 + 7, none⟩))) fun (n8 : Int) => k1 (decide (self0 < n8)) S13)
                                                                        (k1 false S13))))))))
          fun (k2 : Bool → St → Prop) =>
          evC E0 tB 42 [.int .i64 self0, .int .i64 prio1] S3 fun (t5 : Bool) (S19 : St) =>
            ifW (!t5) (k2 true S19)
              (evV (TT.one (Ty.agg G22)) (loadV E0 S19 23 (.pointer (some ⟨b1, 0, none⟩))) fun (x12 : Bool × Int × Int) =>
                eqW E0 S19 23 (sv G22 x12) (.agg #[.bool false, .int .i64 0, .int .i64 0]) fun (t6 : Bool) =>
                  ifW (!t6)
                    (evV (TT.one (Ty.agg G22)) (loadV E0 S19 23 (.pointer (some ⟨b1, 0, none⟩))) fun (x13 : Bool × Int × Int) =>
                      evC E0 tB 43 [.int .i64 self0, sv G22 x13] S19 fun (t7 : Bool) (S20 : St) => k2 (!t7) S20)
                    (k2 false S19))
theorem w14 (self0 : Int) (prio1 : Int) (w2 : Bool × Int × Int) (m3 : Int × Int × Int × Int × Int × Int × Int × Int × Sl) {S : St} {k : Value → St → Prop} (h : c14 self0 prio1 w2 m3 S k) : WC E0 14 [.int .i64 self0, .int .i64 prio1, sv G22 w2, sv G29 m3] S k :=
  WC_den h14 rfl (by kernel_rfl) (by kernel_rfl : Try.f14.body = some (bodyOf Try.f14)) (by rw [show (denF E0 h14 Try.f14 (bodyOf Try.f14) [.int .i64 self0, .int .i64 prio1, sv G22 w2, sv G29 m3] S k) = c14 self0 prio1 w2 m3 S k by kernel_rfl]; exact h)

/-! 40 wagonway/chase.Begin -/
noncomputable def h40 : Hn := .no
def c40 (self0 : Int) (prio1 : Int) (w2 : Bool × Int × Int) (S : St) (k : Value → St → Prop) : Prop :=
  newW S (.cells [.bool w2.1, .int .i64 w2.2.1, .int .i64 w2.2.2] none false none) fun (b1 : Nat) (S1 : St) =>
    newW S1
      (.cells
        [.int .i64 0, .int .i64 0, .int .u32 0, .int .u64 0, .int .i64 0, .int .i64 0, .int .i64 0, .int .i64 0,
          .slice none 0 0]
        none false none)
      fun (b2 : Nat) (S2 : St) =>
      evC E0 tB 42 [.int .i64 self0, .int .i64 prio1] S2 fun (t1 : Bool) (S3 : St) =>
        ifW (!t1)
          (evS
            (storeV E0 S3 30 (.pointer (some ⟨b2, 0, none⟩))
              (.agg
                #[.int .i64 0, .int .i64 0, .int .u32 0, .int .u64 0, .int .i64 0, .int .i64 0, .int .i64 0, .int .i64 0,
                  .slice none 0 0]))
            fun (S4 : St) =>
            evV (TT.one (Ty.agg G29)) (loadV E0 S4 30 (.pointer (some ⟨b2, 0, none⟩))) fun (x1 : Int × Int × Int × Int × Int × Int × Int × Int × Sl) =>
              k (.tuple #[sv G29 x1, .int .i64 2]) S4)
          (evV (TT.one (Ty.agg G22)) (loadV E0 S3 23 (.pointer (some ⟨b1, 0, none⟩))) fun (x2 : Bool × Int × Int) =>
            evC E0 tB 43 [.int .i64 self0, sv G22 x2] S3 fun (t2 : Bool) (S5 : St) =>
              ifW (!t2)
                (evS
                  (storeV E0 S5 30 (.pointer (some ⟨b2, 0, none⟩))
                    (.agg
                      #[.int .i64 0, .int .i64 0, .int .u32 0, .int .u64 0, .int .i64 0, .int .i64 0, .int .i64 0,
                        .int .i64 0, .slice none 0 0]))
                  fun (S6 : St) =>
                  evV (TT.one (Ty.agg G29)) (loadV E0 S6 30 (.pointer (some ⟨b2, 0, none⟩))) fun (x3 : Int × Int × Int × Int × Int × Int × Int × Int × Sl) =>
                    k (.tuple #[sv G29 x3, .int .i64 2]) S6)
                (ptrW (some ⟨b1, 0, none⟩) fun (b3 b4 : Nat) =>
                  evV tI (loadV E0 S5 3 (.pointer (some ⟨b3, b4 + 1, none⟩))) fun (n1 : Int) =>
                    evS
                      (storeV E0 S5 30 (.pointer (some ⟨b2, 0, none⟩))
                        (.agg
                          #[.int .i64 6, .int .i64 n1, .int .u32 0, .int .u64 0, .int .i64 prio1, .int .i64 64, .int .i64 self0,
                            .int .i64 self0, .slice none 0 0]))
                      fun (S7 : St) =>
                      evV (TT.one (Ty.agg G29)) (loadV E0 S7 30 (.pointer (some ⟨b2, 0, none⟩))) fun (x4 : Int × Int × Int × Int × Int × Int × Int × Int × Sl) =>
                        k (.tuple #[sv G29 x4, .int .i64 0]) S7))
theorem w40 (self0 : Int) (prio1 : Int) (w2 : Bool × Int × Int) {S : St} {k : Value → St → Prop} (h : c40 self0 prio1 w2 S k) : WC E0 40 [.int .i64 self0, .int .i64 prio1, sv G22 w2] S k :=
  WC_den h40 rfl (by kernel_rfl) (by kernel_rfl : Try.f40.body = some (bodyOf Try.f40)) (by rw [show (denF E0 h40 Try.f40 (bodyOf Try.f40) [.int .i64 self0, .int .i64 prio1, sv G22 w2] S k) = c40 self0 prio1 w2 S k by kernel_rfl]; exact h)

/-! 42 wagonway/chase.may -/
noncomputable def h42 : Hn := .no
def c42 (self0 : Int) (prio1 : Int) (S : St) (k : Value → St → Prop) : Prop :=
  evC E0 tB 64 [.int .i64 self0] S fun (t1 : Bool) (S1 : St) => ifW t1 (ifW (decide (0 ≤ prio1)) (k (.bool (decide (prio1 ≤ 15))) S1) (k (.bool false) S1)) (k (.bool false) S1)
theorem w42 (self0 : Int) (prio1 : Int) {S : St} {k : Value → St → Prop} (h : c42 self0 prio1 S k) : WC E0 42 [.int .i64 self0, .int .i64 prio1] S k :=
  WC_den h42 rfl (by kernel_rfl) (by kernel_rfl : Try.f42.body = some (bodyOf Try.f42)) (by rw [show (denF E0 h42 Try.f42 (bodyOf Try.f42) [.int .i64 self0, .int .i64 prio1] S k) = c42 self0 prio1 S k by kernel_rfl]; exact h)

/-! 43 wagonway/chase.waits -/
noncomputable def h43 : Hn := .no
def c43 (self0 : Int) (w1 : Bool × Int × Int) (S : St) (k : Value → St → Prop) : Prop :=
  newW S (.cells [.bool w1.1, .int .i64 w1.2.1, .int .i64 w1.2.2] none false none) fun (b1 : Nat) (S1 : St) =>
    ptrW (some ⟨b1, 0, none⟩) fun (b2 b3 : Nat) =>
      evV tB (loadV E0 S1 4 (.pointer (some ⟨b2, b3 + 0, none⟩))) fun (t1 : Bool) =>
        ifW t1
          (ptrW (some ⟨b1, 0, none⟩) fun (b4 b5 : Nat) =>
            evV tI (loadV E0 S1 3 (.pointer (some ⟨b4, b5 + 2, none⟩))) fun (n1 : Int) =>
              evC E0 tB 64 [.int .i64 n1] S1 fun (t2 : Bool) (S2 : St) =>
                ifW t2
                  (ptrW (some ⟨b1, 0, none⟩) fun (b6 b7 : Nat) =>
                    evV tI (loadV E0 S2 3 (.pointer (some ⟨b6, b7 + 2, none⟩))) fun (n2 : Int) =>
                      ifW (!decide (n2 = self0))
                        (ptrW (some ⟨b1, 0, none⟩) fun (b8 b9 : Nat) =>
                          evV tI (loadV E0 S2 3 (.pointer (some ⟨b8, b9 + 1, none⟩))) fun (n3 : Int) =>
                            ifW (decide (0 ≤ n3))
                              (ptrW (some ⟨b1, 0, none⟩) fun (b10 b11 : Nat) =>
                                evV tI (loadV E0 S2 3 (.pointer (some ⟨b10, b11 + 1, none⟩))) fun (n4 : Int) => k (.bool (decide (n4 < 1024))) S2)
                              (k (.bool false) S2))
                        (k (.bool false) S2))
                  (k (.bool false) S2))
          (k (.bool false) S1)
theorem w43 (self0 : Int) (w1 : Bool × Int × Int) {S : St} {k : Value → St → Prop} (h : c43 self0 w1 S k) : WC E0 43 [.int .i64 self0, sv G22 w1] S k :=
  WC_den h43 rfl (by kernel_rfl) (by kernel_rfl : Try.f43.body = some (bodyOf Try.f43)) (by rw [show (denF E0 h43 Try.f43 (bodyOf Try.f43) [.int .i64 self0, sv G22 w1] S k) = c43 self0 w1 S k by kernel_rfl]; exact h)

/-! 44 wagonway/chase.probe -/
noncomputable def h44 : Hn := .no
def c44 (m0 : Int × Int × Int × Int × Int × Int × Int × Int × Sl) (S : St) (k : Value → St → Prop) : Prop :=
  newW S
    (.cells
      [.int .i64 m0.1, .int .i64 m0.2.1, .int .u32 m0.2.2.1, .int .u64 m0.2.2.2.1, .int .i64 m0.2.2.2.2.1,
        .int .i64 m0.2.2.2.2.2.1, .int .i64 m0.2.2.2.2.2.2.1, .int .i64 m0.2.2.2.2.2.2.2.1,
        .slice m0.2.2.2.2.2.2.2.2.a m0.2.2.2.2.2.2.2.2.len m0.2.2.2.2.2.2.2.2.cap]
      none false none)
    fun (b1 : Nat) (S1 : St) =>
    ptrW (some ⟨b1, 0, none⟩) fun (b2 b3 : Nat) =>
      evV tI (loadV E0 S1 3 (.pointer (some ⟨b2, b3 + 0, none⟩))) fun (n1 : Int) =>
        ifW (decide (n1 = 6))
          (ptrW (some ⟨b1, 0, none⟩) fun (b4 b5 : Nat) =>
            evV tI (loadV E0 S1 3 (.pointer (some ⟨b4, b5 + 6, none⟩))) fun (n2 : Int) =>
              evC E0 tB 64 [.int .i64 n2] S1 fun (t1 : Bool) (S2 : St) =>
                ifW t1
                  (ptrW (some ⟨b1, 0, none⟩) fun (b6 b7 : Nat) =>
                    evV tI (loadV E0 S2 3 (.pointer (some ⟨b6, b7 + 7, none⟩))) fun (n3 : Int) =>
                      ptrW (some ⟨b1, 0, none⟩) fun (b8 b9 : Nat) =>
                        evV tI (loadV E0 S2 3 (.pointer (some ⟨b8, b9 + 4, none⟩))) fun (n4 : Int) =>
                          evC E0 tB 42 [.int .i64 n3, .int .i64 n4] S2 fun (t2 : Bool) (S3 : St) =>
                            ifW t2
                              (ptrW (some ⟨b1, 0, none⟩) fun (b10 b11 : Nat) =>
                                evV tI (loadV E0 S3 3 (.pointer (some ⟨b10, b11 + 5, none⟩))) fun (n5 : Int) =>
                                  ifW (decide (1 ≤ n5))
                                    (ptrW (some ⟨b1, 0, none⟩) fun (b12 b13 : Nat) =>
                                      evV tI (loadV E0 S3 3 (.pointer (some ⟨b12, b13 + 5, none⟩))) fun (n6 : Int) =>
                                        ifW (decide (n6 ≤ 64))
                                          (ptrW (some ⟨b1, 0, none⟩) fun (b14 b15 : Nat) =>
                                            evV tI (loadV E0 S3 3 (.pointer (some ⟨b14, b15 + 1, none⟩))) fun (n7 : Int) =>
                                              ifW (decide (0 ≤ n7))
                                                (ptrW (some ⟨b1, 0, none⟩) fun (b16 b17 : Nat) =>
                                                  evV tI (loadV E0 S3 3 (.pointer (some ⟨b16, b17 + 1, none⟩))) fun (n8 : Int) =>
                                                    ifW (decide (n8 < 1024))
                                                      (ptrW (some ⟨b1, 0, none⟩) fun (b18 b19 : Nat) =>
                                                        evV tU32 (loadV E0 S3 26 (.pointer (some ⟨b18, b19 + 2, none⟩))) fun (n9 : Int) =>
                                                          ifW (decide (n9 = 0))
                                                            (ptrW (some ⟨b1, 0, none⟩) fun (b20 b21 : Nat) =>
                                                              evV tU (loadV E0 S3 27 (.pointer (some ⟨b20, b21 + 3, none⟩))) fun (n10 : Int) =>
                                                                ifW (decide (n10 = 0))
                                                                  (ptrW (some ⟨b1, 0, none⟩) fun (b22 b23 : Nat) =>
                                                                    evV tS (loadV E0 S3 28 (.pointer (some ⟨b22, b23 + 8, none⟩))) fun (s1 : Sl) => k (.bool (decide ((↑s1.len : Int) = 0))) S3)
                                                                  (k (.bool false) S3))
                                                            (k (.bool false) S3))
                                                      (k (.bool false) S3))
                                                (k (.bool false) S3))
                                          (k (.bool false) S3))
                                    (k (.bool false) S3))
                              (k (.bool false) S3))
                  (k (.bool false) S2))
          (k (.bool false) S1)
theorem w44 (m0 : Int × Int × Int × Int × Int × Int × Int × Int × Sl) {S : St} {k : Value → St → Prop} (h : c44 m0 S k) : WC E0 44 [sv G29 m0] S k :=
  WC_den h44 rfl (by kernel_rfl) (by kernel_rfl : Try.f44.body = some (bodyOf Try.f44)) (by rw [show (denF E0 h44 Try.f44 (bodyOf Try.f44) [sv G29 m0] S k) = c44 m0 S k by kernel_rfl]; exact h)

/-! 64 wagonway/chase.robot -/
noncomputable def h64 : Hn := .no
def c64 (n0 : Int) (S : St) (k : Value → St → Prop) : Prop :=
  ifW (decide (0 ≤ n0)) (k (.bool (decide (n0 < 64))) S) (k (.bool false) S)
theorem w64 (n0 : Int) {S : St} {k : Value → St → Prop} (h : c64 n0 S k) : WC E0 64 [.int .i64 n0] S k :=
  WC_den h64 rfl (by kernel_rfl) (by kernel_rfl : Try.f64.body = some (bodyOf Try.f64)) (by rw [show (denF E0 h64 Try.f64 (bodyOf Try.f64) [.int .i64 n0] S k) = c64 n0 S k by kernel_rfl]; exact h)

/-! 41 wagonway/wagonwayref16.Same -/
noncomputable def h41 : Hn := .no
def c41 (a0 : Int × Int × Int × Int × Int × Int × Int × Int × Sl) (b1 : Int × Int × Int × Int × Int × Int × Int × Int × Sl) (S : St) (k : Value → St → Prop) : Prop :=
  newW S
    (.cells
      [.int .i64 a0.1, .int .i64 a0.2.1, .int .u32 a0.2.2.1, .int .u64 a0.2.2.2.1, .int .i64 a0.2.2.2.2.1,
        .int .i64 a0.2.2.2.2.2.1, .int .i64 a0.2.2.2.2.2.2.1, .int .i64 a0.2.2.2.2.2.2.2.1,
        .slice a0.2.2.2.2.2.2.2.2.a a0.2.2.2.2.2.2.2.2.len a0.2.2.2.2.2.2.2.2.cap]
      none false none)
    fun (b1_1 : Nat) (S1 : St) =>
    newW S1
      (.cells
        [.int .i64 b1.1, .int .i64 b1.2.1, .int .u32 b1.2.2.1, .int .u64 b1.2.2.2.1, .int .i64 b1.2.2.2.2.1,
          .int .i64 b1.2.2.2.2.2.1, .int .i64 b1.2.2.2.2.2.2.1, .int .i64 b1.2.2.2.2.2.2.2.1,
          .slice b1.2.2.2.2.2.2.2.2.a b1.2.2.2.2.2.2.2.2.len b1.2.2.2.2.2.2.2.2.cap]
        none false none)
      fun (b2 : Nat) (S2 : St) =>
      ptrW (some ⟨b1_1, 0, none⟩) fun (b3 b4 : Nat) =>
        evV tI (loadV E0 S2 3 (.pointer (some ⟨b3, b4 + 0, none⟩))) fun (n1 : Int) =>
          ptrW (some ⟨b2, 0, none⟩) fun (b5 b6 : Nat) =>
            evV tI (loadV E0 S2 3 (.pointer (some ⟨b5, b6 + 0, none⟩))) fun (n2 : Int) =>
              ifW (decide (n1 = n2))
                (ptrW (some ⟨b1_1, 0, none⟩) fun (b7 b8 : Nat) =>
                  evV tI (loadV E0 S2 3 (.pointer (some ⟨b7, b8 + 1, none⟩))) fun (n3 : Int) =>
                    ptrW (some ⟨b2, 0, none⟩) fun (b9 b10 : Nat) =>
                      evV tI (loadV E0 S2 3 (.pointer (some ⟨b9, b10 + 1, none⟩))) fun (n4 : Int) =>
                        ifW (decide (n3 = n4))
                          (ptrW (some ⟨b1_1, 0, none⟩) fun (b11 b12 : Nat) =>
                            evV tU32 (loadV E0 S2 26 (.pointer (some ⟨b11, b12 + 2, none⟩))) fun (n5 : Int) =>
                              ptrW (some ⟨b2, 0, none⟩) fun (b13 b14 : Nat) =>
                                evV tU32 (loadV E0 S2 26 (.pointer (some ⟨b13, b14 + 2, none⟩))) fun (n6 : Int) =>
                                  ifW (decide (n5 = n6))
                                    (ptrW (some ⟨b1_1, 0, none⟩) fun (b15 b16 : Nat) =>
                                      evV tU (loadV E0 S2 27 (.pointer (some ⟨b15, b16 + 3, none⟩))) fun (n7 : Int) =>
                                        ptrW (some ⟨b2, 0, none⟩) fun (b17 b18 : Nat) =>
                                          evV tU (loadV E0 S2 27 (.pointer (some ⟨b17, b18 + 3, none⟩))) fun (n8 : Int) =>
                                            ifW (decide (n7 = n8))
                                              (ptrW (some ⟨b1_1, 0, none⟩) fun (b19 b20 : Nat) =>
                                                evV tI (loadV E0 S2 3 (.pointer (some ⟨b19, b20 + 4, none⟩))) fun (n9 : Int) =>
                                                  ptrW (some ⟨b2, 0, none⟩) fun (b21 b22 : Nat) =>
                                                    evV tI (loadV E0 S2 3 (.pointer (some ⟨b21, b22 + 4, none⟩))) fun (n10 : Int) =>
                                                      ifW (decide (n9 = n10))
                                                        (ptrW (some ⟨b1_1, 0, none⟩) fun (b23 b24 : Nat) =>
                                                          evV tI (loadV E0 S2 3 (.pointer (some ⟨b23, b24 + 5, none⟩))) fun (n11 : Int) =>
                                                            ptrW (some ⟨b2, 0, none⟩) fun (b25 b26 : Nat) =>
                                                              evV tI (loadV E0 S2 3 (.pointer (some ⟨b25, b26 + 5, none⟩))) fun (n12 : Int) =>
                                                                ifW (decide (n11 = n12))
                                                                  (ptrW (some ⟨b1_1, 0, none⟩) fun (b27 b28 : Nat) =>
                                                                    evV tI (loadV E0 S2 3 (.pointer (some ⟨b27, b28 + 6, none⟩))) fun (n13 : Int) =>
                                                                      ptrW (some ⟨b2, 0, none⟩) fun (b29 b30 : Nat) =>
                                                                        evV tI (loadV E0 S2 3 (.pointer (some ⟨b29, b30 + 6, none⟩))) fun (n14 : Int) =>
                                                                          ifW (decide (n13 = n14))
                                                                            (ptrW (some ⟨b1_1, 0, none⟩) fun (b31 b32 : Nat) =>
                                                                              evV tI (loadV E0 S2 3 (.pointer (some ⟨b31, b32 + 7, none⟩))) fun (n15 : Int) =>
                                                                                ptrW (some ⟨b2, 0, none⟩) fun (b33 b34 : Nat) =>
                                                                                  evV tI (loadV E0 S2 3 (.pointer (some ⟨b33, b34 + 7, none⟩))) fun (n16 : Int) =>
                                                                                    ifW (decide (n15 = n16))
                                                                                      (ptrW (some ⟨b1_1, 0, none⟩) fun (b35 b36 : Nat) =>
                                                                                        evV tS (loadV E0 S2 28 (.pointer (some ⟨b35, b36 + 8, none⟩))) fun (s1 : Sl) =>
                                                                                          ifW (decide ((↑s1.len : Int) = 0))
                                                                                            (ptrW (some ⟨b2, 0, none⟩) fun (b37 b38 : Nat) =>
                                                                                              evV tS (loadV E0 S2 28 (.pointer (some ⟨b37, b38 + 8, none⟩))) fun (s2 : Sl) =>
                                                                                                k (.bool (decide ((↑s2.len : Int) = 0))) S2)
                                                                                            (k (.bool false) S2))
                                                                                      (k (.bool false) S2))
                                                                            (k (.bool false) S2))
                                                                  (k (.bool false) S2))
                                                        (k (.bool false) S2))
                                              (k (.bool false) S2))
                                    (k (.bool false) S2))
                          (k (.bool false) S2))
                (k (.bool false) S2)
theorem w41 (a0 : Int × Int × Int × Int × Int × Int × Int × Int × Sl) (b1 : Int × Int × Int × Int × Int × Int × Int × Int × Sl) {S : St} {k : Value → St → Prop} (h : c41 a0 b1 S k) : WC E0 41 [sv G29 a0, sv G29 b1] S k :=
  WC_den h41 rfl (by kernel_rfl) (by kernel_rfl : Try.f41.body = some (bodyOf Try.f41)) (by rw [show (denF E0 h41 Try.f41 (bodyOf Try.f41) [sv G29 a0, sv G29 b1] S k) = c41 a0 b1 S k by kernel_rfl]; exact h)

/-! 5 wagonway/wagonwaylaw16.ChaseRound -/
noncomputable def h5 : Hn := (.n .no (.n .no (.n .no (.n .no (.n (.n .no (.n (.n (.n .no (.n .no (.n (.n (.n .no (.n .no (.n .no (.n .no (.n .no (.n (.n .no .no (some ⟨[0, 1, 5, 6, 7, 8, 23, 24, 62], [(63, .sc (.int .i64))], false⟩)) .no none) none) none) none) none) none) .no none) .no none) none) none) .no (some ⟨[0, 1, 5, 6, 23], [(24, .sc (.int .i64))], false⟩)) .no none) none) .no none) none) none) none) none)
def c5 (waits0 : Sl) (from1 : Int) (S : St) (k : Value → St → Prop) : Prop :=
  evC E0 tB 13 [] S fun (t1 : Bool) (S1 : St) =>
    ifW (decide (100 < (↑waits0.len : Int))) (k (.bool t1) S1)
      (ifW (!t1) (k (.bool t1) S1)
        (evC E0 tS 16 [.slice waits0.a waits0.len waits0.cap, .int .i64 from1] S1 fun (s1 : Sl) (S2 : St) =>
          loopW
            (fun (k1 : Int → St → Prop) (n1 : Int) (S3 : St) =>
              ifW (decide (n1 < (↑s1.len : Int)))
                (idxW s1.a s1.len n1 fun (b1 b2 : Nat) =>
                  evV tI (loadV E0 S3 3 (.pointer (some ⟨b1, b2 + Int.toNat n1 * 1, none⟩))) fun (n2 : Int) =>
                    idxW waits0.a waits0.len n2 fun (b3 b4 : Nat) =>
                      evV tI (loadV E0 S3 3 (.pointer (some ⟨b3, b4 + Int.toNat n2 * 1, none⟩))) fun (n3 : Int) =>
                        needW (!decide ((↑s1.len : Int) = 0))
                          (idxW s1.a s1.len (Int.tmod (wrapD .i64 (n1 + 1)) (↑s1.len : Int)) fun (b5 b6 : Nat) =>
                            evV tI (loadV E0 S3 3 (.pointer (some ⟨b5, b6 + Int.toNat (Int.tmod (wrapD .i64 (n1 + 1)) (↑s1.len : Int)) * 1, none⟩))) fun (n4 : Int) =>
                              ifW (!decide (n3 = n4)) (k (.bool false) S3)
                                (idxW s1.a s1.len 0 fun (b7 b8 : Nat) =>
                                  evV tI (loadV E0 S3 3 (.pointer (some ⟨b7, b8 + Int.toNat 0 * 1, none⟩))) fun (n5 : Int) =>
                                    ifW (!decide (n5 = from1)) (k (.bool false) S3)
                                      (idxW s1.a s1.len n1 fun (b9 b10 : Nat) =>
                                        evV tI (loadV E0 S3 3 (.pointer (some ⟨b9, b10 + Int.toNat n1 * 1, none⟩))) fun (n6 : Int) =>
                                          evC E0 tS 16 [.slice waits0.a waits0.len waits0.cap, .int .i64 n6] S3 fun (s2 : Sl) (S4 : St) =>
                                            ifW (!decide ((↑s2.len : Int) = (↑s1.len : Int))) (k (.bool false) S4)
                                              (loopW
                                                (fun (k2 : Int → St → Prop) (n7 : Int) (S5 : St) =>
                                                  ifW (decide (n7 < (↑s2.len : Int)))
                                                    (idxW s2.a s2.len n7 fun (b11 b12 : Nat) =>
                                                      evV tI (loadV E0 S5 3 (.pointer (some ⟨b11, b12 + Int.toNat n7 * 1, none⟩))) fun (n8 : Int) =>
                                                        needW (!decide ((↑s1.len : Int) = 0))
                                                          (idxW s1.a s1.len (Int.tmod (wrapD .i64 (n1 + n7)) (↑s1.len : Int)) fun (b13 b14 : Nat) =>
                                                            evV tI (loadV E0 S5 3 (.pointer (some ⟨b13, b14 + Int.toNat (Int.tmod (wrapD .i64 (n1 + n7)) (↑s1.len : Int)) * 1, none⟩)))
                                                              fun (n9 : Int) => ifW (!decide (n8 = n9)) (k (.bool false) S5) (k2 (wrapD .i64 (n7 + 1)) S5)))
                                                    (k1 (wrapD .i64 (n1 + 1)) S5))
                                                0 S4)))))
                (k (.bool t1) S3))
            0 S2))
theorem w5 (waits0 : Sl) (from1 : Int) {S : St} {k : Value → St → Prop} (h : c5 waits0 from1 S k) : WC E0 5 [.slice waits0.a waits0.len waits0.cap, .int .i64 from1] S k :=
  WC_den h5 rfl (by kernel_rfl) (by kernel_rfl : Try.f5.body = some (bodyOf Try.f5)) (by rw [show (denF E0 h5 Try.f5 (bodyOf Try.f5) [.slice waits0.a waits0.len waits0.cap, .int .i64 from1] S k) = c5 waits0 from1 S k by kernel_rfl]; exact h)

/-! 3 wagonway/wagonwaylaw16.ChaseLeast -/
noncomputable def h3 : Hn := (.n .no (.n .no (.n .no (.n .no (.n (.n .no .no (some ⟨[2, 3, 5, 6, 7, 8], [(37, .sc .bool)], false⟩)) .no none) none) none) none) none)
def c3 (x0 : Int × Int × Bool × Int × Int) (m1 : Int × Int × Int × Int × Int × Int × Int × Int × Sl) (S : St) (k : Value → St → Prop) : Prop :=
  newW S (.cells [.int .i64 x0.1, .int .i64 x0.2.1, .bool x0.2.2.1, .int .i64 x0.2.2.2.1, .int .i64 x0.2.2.2.2] none false none)
    fun (b1 : Nat) (S1 : St) =>
    newW S1
      (.cells
        [.int .i64 m1.1, .int .i64 m1.2.1, .int .u32 m1.2.2.1, .int .u64 m1.2.2.2.1, .int .i64 m1.2.2.2.2.1,
          .int .i64 m1.2.2.2.2.2.1, .int .i64 m1.2.2.2.2.2.2.1, .int .i64 m1.2.2.2.2.2.2.2.1,
          .slice m1.2.2.2.2.2.2.2.2.a m1.2.2.2.2.2.2.2.2.len m1.2.2.2.2.2.2.2.2.cap]
        none false none)
      fun (b2 : Nat) (S2 : St) =>
      evC E0 tB 13 [] S2 fun (t1 : Bool) (S3 : St) =>
        ptrW (some ⟨b2, 0, none⟩) fun (b3 b4 : Nat) =>
          evV tS (loadV E0 S3 28 (.pointer (some ⟨b3, b4 + 8, none⟩))) fun (s1 : Sl) =>
            ifW (decide (20 < (↑s1.len : Int))) (k (.bool t1) S3)
              (ifW (!t1) (k (.bool t1) S3)
                (ptrW (some ⟨b1, 0, none⟩) fun (b5 b6 : Nat) =>
                  evV tI (loadV E0 S3 3 (.pointer (some ⟨b5, b6 + 0, none⟩))) fun (n1 : Int) =>
                    ptrW (some ⟨b1, 0, none⟩) fun (b7 b8 : Nat) =>
                      evV tI (loadV E0 S3 3 (.pointer (some ⟨b7, b8 + 1, none⟩))) fun (n2 : Int) =>
                        ptrW (some ⟨b1, 0, none⟩) fun (b9 b10 : Nat) =>
                          evV (TT.one (Ty.agg G22)) (loadV E0 S3 23 (.pointer (some ⟨b9, b10 + 2, none⟩))) fun (x1 : Bool × Int × Int) =>
                            evV (TT.one (Ty.agg G29)) (loadV E0 S3 30 (.pointer (some ⟨b2, 0, none⟩))) fun (x2 : Int × Int × Int × Int × Int × Int × Int × Int × Sl) =>
                              evC E0 (TT.tup [Ty.sc (Sc.int .i64), Ty.agg G29, Ty.sc (Sc.int .i64)]) 14 [.int .i64 n1, .int .i64 n2, sv G22 x1, sv G29 x2] S3
                                fun (x3 : Int × (Int × Int × Int × Int × Int × Int × Int × Int × Sl) × Int) (S4 : St) =>
                                newW S4
                                  (.cells
                                    [.int .i64 0, .int .i64 0, .int .u32 0, .int .u64 0, .int .i64 0, .int .i64 0, .int .i64 0,
                                      .int .i64 0, .slice none 0 0]
                                    none false none)
                                  fun (b11 : Nat) (S5 : St) =>
                                  evS (storeV E0 S5 30 (.pointer (some ⟨b11, 0, none⟩)) (sv G29 x3.2.1)) fun (S6 : St) =>
                                    joinW
                                      (fun (t2 : Bool) (S7 : St) =>
                                        ifW t2
                                          (ifW t1
                                            (ifW (!decide (x3.2.2 = 0)) (k (.bool true) S7)
                                              (ifW (decide (x3.1 = 0)) (k (.bool true) S7)
                                                (ptrW (some ⟨b11, 0, none⟩) fun (b12 b13 : Nat) =>
                                                  evV tI (loadV E0 S7 3 (.pointer (some ⟨b12, b13 + 0, none⟩))) fun (n3 : Int) =>
                                                    ifW (decide (n3 = 7))
                                                      (ptrW (some ⟨b11, 0, none⟩) fun (b14 b15 : Nat) =>
                                                        evV tI (loadV E0 S7 3 (.pointer (some ⟨b14, b15 + 7, none⟩))) fun (n4 : Int) =>
                                                          ptrW (some ⟨b2, 0, none⟩) fun (b16 b17 : Nat) =>
                                                            evV tI (loadV E0 S7 3 (.pointer (some ⟨b16, b17 + 7, none⟩))) fun (n5 : Int) => k (.bool (decide (n4 = n5))) S7)
                                                      (k (.bool false) S7))))
                                            (k (.bool false) S7))
                                          (ifW t1
                                            (ptrW (some ⟨b11, 0, none⟩) fun (b18 b19 : Nat) =>
                                              evV tI (loadV E0 S7 3 (.pointer (some ⟨b18, b19 + 4, none⟩))) fun (n6 : Int) =>
                                                ptrW (some ⟨b11, 0, none⟩) fun (b20 b21 : Nat) =>
                                                  evV tI (loadV E0 S7 3 (.pointer (some ⟨b20, b21 + 7, none⟩))) fun (n7 : Int) =>
                                                    ptrW (some ⟨b2, 0, none⟩) fun (b22 b23 : Nat) =>
                                                      evV tI (loadV E0 S7 3 (.pointer (some ⟨b22, b23 + 4, none⟩))) fun (n8 : Int) =>
                                                        ptrW (some ⟨b2, 0, none⟩) fun (b24 b25 : Nat) =>
                                                          evV tI (loadV E0 S7 3 (.pointer (some ⟨b24, b25 + 7, none⟩))) fun (n9 : Int) =>
                                                            evY E0 tB (.func (Fn.func 15) #[] #[]) [.int .i64 n6, .int .i64 n7, .int .i64 n8, .int .i64 n9] S7
                                                              fun (t3 : Bool) (S8 : St) =>
                                                              ifW t3
                                                                (ptrW (some ⟨b11, 0, none⟩) fun (b26 b27 : Nat) =>
                                                                  evV tI (loadV E0 S8 3 (.pointer (some ⟨b26, b27 + 4, none⟩))) fun (n10 : Int) =>
                                                                    ptrW (some ⟨b11, 0, none⟩) fun (b28 b29 : Nat) =>
                                                                      evV tI (loadV E0 S8 3 (.pointer (some ⟨b28, b29 + 7, none⟩))) fun (n11 : Int) =>
                                                                        ptrW (some ⟨b1, 0, none⟩) fun (b30 b31 : Nat) =>
                                                                          evV tI (loadV E0 S8 3 (.pointer (some ⟨b30, b31 + 1, none⟩))) fun (n12 : Int) =>
                                                                            ptrW (some ⟨b1, 0, none⟩) fun (b32 b33 : Nat) =>
                                                                              evV tI (loadV E0 S8 3 (.pointer (some ⟨b32, b33 + 0, none⟩))) fun (n13 : Int) =>
                                                                                evY E0 tB (.func (Fn.func 15) #[] #[])
                                                                                  [.int .i64 n10, .int .i64 n11, .int .i64 n12, .int .i64 n13] S8 fun (t4 : Bool) (S9 : St) =>
                                                                                  ifW t4
                                                                                    (ptrW (some ⟨b11, 0, none⟩) fun (b34 b35 : Nat) =>
                                                                                      evV tI (loadV E0 S9 3 (.pointer (some ⟨b34, b35 + 5, none⟩))) fun (n14 : Int) =>
                                                                                        ptrW (some ⟨b2, 0, none⟩) fun (b36 b37 : Nat) =>
                                                                                          evV tI (loadV E0 S9 3 (.pointer (some ⟨b36, b37 + 5, none⟩))) fun (n15 : Int) =>
                                                                                            ifW (decide (n14 = wrapD .i64 (n15 - 1)))
                                                                                              (ptrW (some ⟨b11, 0, none⟩) fun (b38 b39 : Nat) =>
                                                                                                evV tI (loadV E0 S9 3 (.pointer (some ⟨b38, b39 + 6, none⟩))) fun (n16 : Int) =>
                                                                                                  ptrW (some ⟨b2, 0, none⟩) fun (b40 b41 : Nat) =>
                                                                                                    evV tI (loadV E0 S9 3 (.pointer (some ⟨b40, b41 + 6, none⟩))) fun (n17 : Int) =>
                                                                                                      ifW (decide (n16 = n17))
                                                                                                        (ptrW (some ⟨b11, 0, none⟩) fun (b42 b43 : Nat) =>
                                                                                                          evV tI (loadV E0 S9 3 (.pointer (some ⟨b42, b43 + 1, none⟩))) fun (n18 : Int) =>
                                                                                                            ptrW (some ⟨b1, 0, none⟩) fun (b44 b45 : Nat) =>
                                                                                                              ptrW (some ⟨b44, b45 + 2, none⟩) fun (b46 b47 : Nat) =>
                                                                                                                evV tI (loadV E0 S9 3 (.pointer (some ⟨b46, b47 + 1, none⟩))) fun (n19 : Int) =>
                                                                                                                  ifW (decide (n18 = n19))
                                                                                                                    (ptrW (some ⟨b11, 0, none⟩) fun (b48 b49 : Nat) =>
                                                                                                                      evV tI (loadV E0 S9 3 (.pointer (some ⟨b48, b49 + 7, none⟩))) fun (n20 : Int) =>
                                                                                                                        ptrW (some ⟨b2, 0, none⟩) fun (b50 b51 : Nat) =>
                                                                                                                          evV tI (loadV E0 S9 3 (.pointer (some ⟨b50, b51 + 7, none⟩))) fun (n21 : Int) =>
                                                                                                                            ifW (decide (n20 = n21)) (k (.bool true) S9)
                                                                                                                              (ptrW (some ⟨b11, 0, none⟩) fun (b52 b53 : Nat) =>
                                                                                                                                evV tI (loadV E0 S9 3 (.pointer (some ⟨b52, b53 + 7, none⟩)))
                                                                                                                                  fun (n22 : Int) =>
                                                                                                                                  ptrW (some ⟨b1, 0, none⟩) fun (b54 b55 : Nat) =>
                                                                                                                                    evV tI (loadV E0 S9 3 (.pointer (some ⟨b54, b55 + 0, none⟩)))
                                                                                                                                      fun (n23 : Int) => k (.bool (decide (n22 = n23))) S9))
                                                                                                                    (k (.bool false) S9))
                                                                                                        (k (.bool false) S9))
                                                                                              (k (.bool false) S9))
                                                                                    (k (.bool false) S9))
                                                                (k (.bool false) S8))
                                            (k (.bool false) S7)))
                                      fun (k1 : Bool → St → Prop) => ifW (!decide (x3.2.2 = 0)) (k1 true S6) (k1 (!decide (x3.1 = 1)) S6)))
theorem w3 (x0 : Int × Int × Bool × Int × Int) (m1 : Int × Int × Int × Int × Int × Int × Int × Int × Sl) {S : St} {k : Value → St → Prop} (h : c3 x0 m1 S k) : WC E0 3 [sv G24 x0, sv G29 m1] S k :=
  WC_den h3 rfl (by kernel_rfl) (by kernel_rfl : Try.f3.body = some (bodyOf Try.f3)) (by rw [show (denF E0 h3 Try.f3 (bodyOf Try.f3) [sv G24 x0, sv G29 m1] S k) = c3 x0 m1 S k by kernel_rfl]; exact h)

/-! 15 wagonway/wagonwaylaw16.ChaseLeast$1 -/
noncomputable def h15 : Hn := .no
def c15 (p0 : Int) (r1 : Int) (q2 : Int) (s3 : Int) (S : St) (k : Value → St → Prop) : Prop :=
  ifW (decide (p0 < q2)) (k (.bool true) S) (ifW (decide (p0 = q2)) (k (.bool (decide (r1 ≤ s3))) S) (k (.bool false) S))
theorem w15 (p0 : Int) (r1 : Int) (q2 : Int) (s3 : Int) {S : St} {k : Value → St → Prop} (h : c15 p0 r1 q2 s3 S k) : WC E0 15 [.int .i64 p0, .int .i64 r1, .int .i64 q2, .int .i64 s3] S k :=
  WC_den h15 rfl (by kernel_rfl) (by kernel_rfl : Try.f15.body = some (bodyOf Try.f15)) (by rw [show (denF E0 h15 Try.f15 (bodyOf Try.f15) [.int .i64 p0, .int .i64 r1, .int .i64 q2, .int .i64 s3] S k) = c15 p0 r1 q2 s3 S k by kernel_rfl]; exact h)

/-! 23 wagonway/wagonwaylaw16.chased -/
noncomputable def h23 : Hn := (.n .no (.n .no (.n .no (.n .no (.n .no (.n (.n .no (.n (.n .no .no (some ⟨[1, 3, 9, 10], [(12, .sc (.int .i64)), (13, .sc (.int .i64))], false⟩)) .no none) none) .no none) none) none) none) none) none)
def c23 (waits0 : Sl) (prios1 : Sl) (from2 : Int) (S : St) (k : Value → St → Prop) : Prop :=
  newW S (.cells [.slice waits0.a waits0.len waits0.cap] none false none) fun (b1 : Nat) (S1 : St) => False
theorem w23 (waits0 : Sl) (prios1 : Sl) (from2 : Int) {S : St} {k : Value → St → Prop} (h : c23 waits0 prios1 from2 S k) : WC E0 23 [.slice waits0.a waits0.len waits0.cap, .slice prios1.a prios1.len prios1.cap, .int .i64 from2] S k :=
  WC_den h23 rfl (by kernel_rfl) (by kernel_rfl : Try.f23.body = some (bodyOf Try.f23)) (by rw [show (denF E0 h23 Try.f23 (bodyOf Try.f23) [.slice waits0.a waits0.len waits0.cap, .slice prios1.a prios1.len prios1.cap, .int .i64 from2] S k) = c23 waits0 prios1 from2 S k by kernel_rfl]; exact h)

/-! 51 wagonway/wagonwaylaw16.chased$1 -/
noncomputable def h51 : Hn := .no
def c51 (r0 : Int) (c1 : Nat) (S : St) (k : Value → St → Prop) : Prop :=
  newW S (.cells [.bool false, .int .i64 0, .int .i64 0] none false none) fun (b1 : Nat) (S1 : St) =>
    ifW (decide (r0 < 0))
      (evS (storeV E0 S1 23 (.pointer (some ⟨b1, 0, none⟩)) (.agg #[.bool false, .int .i64 0, .int .i64 0])) fun (S2 : St) =>
        evV (TT.one (Ty.agg G22)) (loadV E0 S2 23 (.pointer (some ⟨b1, 0, none⟩))) fun (x1 : Bool × Int × Int) => k (sv G22 x1) S2)
      (evV tS (loadV E0 S1 37 (.pointer (some ⟨c1, 0, none⟩))) fun (s1 : Sl) =>
        ifW (decide ((↑s1.len : Int) ≤ r0))
          (evS (storeV E0 S1 23 (.pointer (some ⟨b1, 0, none⟩)) (.agg #[.bool false, .int .i64 0, .int .i64 0])) fun (S3 : St) =>
            evV (TT.one (Ty.agg G22)) (loadV E0 S3 23 (.pointer (some ⟨b1, 0, none⟩))) fun (x2 : Bool × Int × Int) => k (sv G22 x2) S3)
          (evV tS (loadV E0 S1 37 (.pointer (some ⟨c1, 0, none⟩))) fun (s2 : Sl) =>
            idxW s2.a s2.len r0 fun (b2 b3 : Nat) =>
              evV tI (loadV E0 S1 3 (.pointer (some ⟨b2, b3 + Int.toNat r0 * 1, none⟩))) fun (n1 : Int) =>
                ifW (decide (n1 < 0))
                  (evS (storeV E0 S1 23 (.pointer (some ⟨b1, 0, none⟩)) (.agg #[.bool false, .int .i64 0, .int .i64 0])) fun (S4 : St) =>
                    evV (TT.one (Ty.agg G22)) (loadV E0 S4 23 (.pointer (some ⟨b1, 0, none⟩))) fun (x3 : Bool × Int × Int) => k (sv G22 x3) S4)
                  (evV tS (loadV E0 S1 37 (.pointer (some ⟨c1, 0, none⟩))) fun (s3 : Sl) =>
                    idxW s3.a s3.len r0 fun (b4 b5 : Nat) =>
                      evV tI (loadV E0 S1 3 (.pointer (some ⟨b4, b5 + Int.toNat r0 * 1, none⟩))) fun (n2 : Int) =>
                        evV tS (loadV E0 S1 37 (.pointer (some ⟨c1, 0, none⟩))) fun (s4 : Sl) =>
                          ifW (decide ((↑s4.len : Int) ≤ n2))
                            (evS (storeV E0 S1 23 (.pointer (some ⟨b1, 0, none⟩)) (.agg #[.bool false, .int .i64 0, .int .i64 0])) fun (S5 : St) =>
                              evV (TT.one (Ty.agg G22)) (loadV E0 S5 23 (.pointer (some ⟨b1, 0, none⟩))) fun (x4 : Bool × Int × Int) => k (sv G22 x4) S5)
                            (evV tS (loadV E0 S1 37 (.pointer (some ⟨c1, 0, none⟩))) fun (s5 : Sl) =>
                              idxW s5.a s5.len r0 fun (b6 b7 : Nat) =>
                                evV tI (loadV E0 S1 3 (.pointer (some ⟨b6, b7 + Int.toNat r0 * 1, none⟩))) fun (n3 : Int) =>
                                  ifW (decide (n3 = r0))
                                    (evS (storeV E0 S1 23 (.pointer (some ⟨b1, 0, none⟩)) (.agg #[.bool false, .int .i64 0, .int .i64 0])) fun (S6 : St) =>
                                      evV (TT.one (Ty.agg G22)) (loadV E0 S6 23 (.pointer (some ⟨b1, 0, none⟩))) fun (x5 : Bool × Int × Int) => k (sv G22 x5) S6)
                                    (evV tS (loadV E0 S1 37 (.pointer (some ⟨c1, 0, none⟩))) fun (s6 : Sl) =>
                                      idxW s6.a s6.len r0 fun (b8 b9 : Nat) =>
                                        evV tI (loadV E0 S1 3 (.pointer (some ⟨b8, b9 + Int.toNat r0 * 1, none⟩))) fun (n4 : Int) =>
                                          evS (storeV E0 S1 23 (.pointer (some ⟨b1, 0, none⟩)) (.agg #[.bool true, .int .i64 r0, .int .i64 n4])) fun (S7 : St) =>
                                            evV (TT.one (Ty.agg G22)) (loadV E0 S7 23 (.pointer (some ⟨b1, 0, none⟩))) fun (x6 : Bool × Int × Int) => k (sv G22 x6) S7)))))
theorem w51 (r0 : Int) (c1 : Nat) {S : St} {k : Value → St → Prop} (h : c51 r0 c1 S k) : WC E0 51 [.int .i64 r0, .pointer (some ⟨c1, 0, none⟩)] S k :=
  WC_den h51 rfl (by kernel_rfl) (by kernel_rfl : Try.f51.body = some (bodyOf Try.f51)) (by rw [show (denF E0 h51 Try.f51 (bodyOf Try.f51) [.int .i64 r0, .pointer (some ⟨c1, 0, none⟩)] S k) = c51 r0 c1 S k by kernel_rfl]; exact h)

/-! 7 wagonway/wagonwaylaw16.ChaseFinds -/
noncomputable def h7 : Hn := (.n .no (.n .no (.n .no (.n .no (.n (.n .no (.n (.n (.n .no (.n .no (.n (.n (.n .no (.n .no (.n .no .no (some ⟨[0, 1, 5, 6, 7, 8, 30, 31], [(9, .sc (.int .i64))], false⟩)) none) none) .no none) .no none) none) none) .no (some ⟨[0, 1, 5, 30], [(6, .sc .sl), (7, .sc .sl), (31, .sc (.int .i64))], false⟩)) .no none) none) .no none) none) none) none) none)
def c7 (l0 : Sl) (from1 : Int) (S : St) (k : Value → St → Prop) : Prop :=
  evC E0 tB 13 [] S fun (t1 : Bool) (S1 : St) =>
    ifW (decide ((↑l0.len : Int) < 1)) (k (.bool t1) S1)
      (ifW (decide (64 < (↑l0.len : Int))) (k (.bool t1) S1)
        (ifW (!t1) (k (.bool t1) S1)
          (loopW
            (fun (k1 : Sl × Sl × Int → St → Prop) (x1 : Sl × Sl × Int) (S2 : St) =>
              ifW (decide (x1.2.2 < (↑l0.len : Int)))
                (idxW l0.a l0.len x1.2.2 fun (b1 b2 : Nat) =>
                  idxW (some ⟨b1, b2 + Int.toNat x1.2.2 * 2, none⟩) 2 0 fun (b3 b4 : Nat) =>
                    evV (TT.one (Ty.sc (Sc.int .i8))) (loadV E0 S2 48 (.pointer (some ⟨b3, b4 + Int.toNat 0 * 1, none⟩))) fun (n1 : Int) =>
                      joinW
                        (fun (n2 : Int) (S3 : St) =>
                          newW S3 (.cells [.int .i64 n2] none false none) fun (b5 : Nat) (S4 : St) =>
                            evP tS (appendD E0 S4 37 37 (.slice x1.1.a x1.1.len x1.1.cap) (.slice (some ⟨b5, 0, none⟩) 1 1)) fun (s1 : Sl) (S5 : St) =>
                              idxW l0.a l0.len x1.2.2 fun (b6 b7 : Nat) =>
                                idxW (some ⟨b6, b7 + Int.toNat x1.2.2 * 2, none⟩) 2 1 fun (b8 b9 : Nat) =>
                                  evV (TT.one (Ty.sc (Sc.int .i8))) (loadV E0 S5 48 (.pointer (some ⟨b8, b9 + Int.toNat 1 * 1, none⟩))) fun (n3 : Int) =>
                                    newW S5 (.cells [.int .i64 (wrapD .i64 (andI .i8 n3 15))] none false none) fun (b10 : Nat) (S6 : St) =>
                                      evP tS (appendD E0 S6 37 37 (.slice x1.2.1.a x1.2.1.len x1.2.1.cap) (.slice (some ⟨b10, 0, none⟩) 1 1)) fun (s2 : Sl) (S7 : St) =>
                                        k1 ({ a := s1.a, len := s1.len, cap := s1.cap }, { a := s2.a, len := s2.len, cap := s2.cap }, wrapD .i64 (x1.2.2 + 1)) S7)
                        fun (k2 : Int → St → Prop) =>
                        ifW (decide (wrapD .i64 n1 < 0)) (k2 (-1) S2)
                          (ifW (decide ((↑l0.len : Int) ≤ wrapD .i64 n1)) (k2 (-1) S2) (ifW (decide (wrapD .i64 n1 = x1.2.2)) (k2 (-1) S2) (k2 (wrapD .i64 n1) S2))))
                (needW (!decide ((↑l0.len : Int) = 0))
                  (evC E0 (TT.tup [Ty.sc (Sc.int .i64), Ty.sc (Sc.int .i64), Ty.sc (Sc.int .i64)]) 23
                    [.slice x1.1.a x1.1.len x1.1.cap, .slice x1.2.1.a x1.2.1.len x1.2.1.cap, .int .i64 (Int.tmod (wrapD .i64 from1) (↑l0.len : Int))] S2
                    fun (x2 : Int × Int × Int) (S8 : St) =>
                    evC E0 tS 16 [.slice x1.1.a x1.1.len x1.1.cap, .int .i64 (Int.tmod (wrapD .i64 from1) (↑l0.len : Int))] S8 fun (s3 : Sl) (S9 : St) =>
                      ifW (decide (x2.2.2 = 0))
                        (ifW t1
                          (idxW x1.1.a x1.1.len (Int.tmod (wrapD .i64 from1) (↑l0.len : Int)) fun (b11 b12 : Nat) =>
                            evV tI (loadV E0 S9 3 (.pointer (some ⟨b11, b12 + Int.toNat (Int.tmod (wrapD .i64 from1) (↑l0.len : Int)) * 1, none⟩))) fun (n4 : Int) =>
                              ifW (decide (n4 < 0)) (k (.bool (decide ((↑s3.len : Int) = 0))) S9) (k (.bool false) S9))
                          (k (.bool false) S9))
                        (ifW (decide (64 < x2.2.2)) (k (.bool false) S9)
                          (eqW E0 S9 4 (.bool (decide (x2.1 = 2))) (.bool (decide (0 < (↑s3.len : Int)))) fun (t2 : Bool) =>
                            ifW (!t2) (k (.bool false) S9)
                              (ifW t1
                                (ifW (!decide (x2.1 = 2))
                                  (ifW (decide (x2.1 = 0)) (k (.bool true) S9)
                                    (evC E0 tI 18 [.slice x1.2.1.a x1.2.1.len x1.2.1.cap, .slice s3.a s3.len s3.cap] S9 fun (n5 : Int) (S10 : St) =>
                                      ifW (decide (x2.2.1 = n5)) (k (.bool (decide (x2.2.2 = (↑s3.len : Int)))) S10) (k (.bool false) S10)))
                                  (evC E0 tI 18 [.slice x1.2.1.a x1.2.1.len x1.2.1.cap, .slice s3.a s3.len s3.cap] S9 fun (n6 : Int) (S11 : St) =>
                                    ifW (decide (x2.2.1 = n6)) (k (.bool (decide (x2.2.2 = (↑s3.len : Int)))) S11) (k (.bool false) S11)))
                                (k (.bool false) S9)))))))
            ({ a := none, len := 0, cap := 0 }, { a := none, len := 0, cap := 0 }, 0) S1)))
theorem w7 (l0 : Sl) (from1 : Int) {S : St} {k : Value → St → Prop} (h : c7 l0 from1 S k) : WC E0 7 [.slice l0.a l0.len l0.cap, .int .u8 from1] S k :=
  WC_den h7 rfl (by kernel_rfl) (by kernel_rfl : Try.f7.body = some (bodyOf Try.f7)) (by rw [show (denF E0 h7 Try.f7 (bodyOf Try.f7) [.slice l0.a l0.len l0.cap, .int .u8 from1] S k) = c7 l0 from1 S k by kernel_rfl]; exact h)

end
end Go.Proofs.Ytcookjolkhcjhaa
