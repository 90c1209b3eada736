/- The conditions of functions (printed by GenDen.lean). -/
import Derived.Test.YtcookjolkhcjhaaDBase
namespace Go.Proofs.Ytcookjolkhcjhaa
open Go Go.Proofs.Ytcookjolkhcjhaa.D
set_option linter.unusedVariables false
noncomputable section

/-! 6 wagonway/wagonwaylaw23.OrderBytes -/
noncomputable def h6 : Hn := .no
def c6 (b_0 : Sl) (S : St) (k : Value → St → Prop) : Prop :=
  ifW (ltI 4000 (↑b_0.len : Int)) (k (.bool true) S)
    (evC E0 tS 20 [.slice b_0.a b_0.len b_0.cap] S fun (s1 : Sl) (S1 : St) =>
      evC E0 tS 22 [.slice b_0.a b_0.len b_0.cap] S1 fun (s2 : Sl) (S2 : St) => evC E0 tB 21 [.slice s1.a s1.len s1.cap, .slice s2.a s2.len s2.cap] S2 fun (t1 : Bool) (S3 : St) => k (.bool t1) S3)
theorem w6 (b_0 : Sl) {S : St} {k : Value → St → Prop} (h : c6 b_0 S k) : WC E0 6 [.slice b_0.a b_0.len b_0.cap] S k :=
  WC_den h6 rfl (by kernel_rfl) (by kernel_rfl : Try.f6.body = some (bodyOf Try.f6)) (by rw [show (denF E0 h6 Try.f6 (bodyOf Try.f6) [.slice b_0.a b_0.len b_0.cap] S k) = c6 b_0 S k by kernel_rfl]; exact h)

/-! 20 wagonway/order.Of -/
noncomputable def h20 : Hn := (.n .no (.n .no (.n (.n .no (.n (.n .no (.n (.n .no .no (some ⟨[3, 4], [(15, .sc .bool)], false⟩)) .no none) (some ⟨[], [(7, .sc .sl)], false⟩)) .no none) none) .no none) none) none)
def c20 (b_0 : Sl) (S : St) (k : Value → St → Prop) : Prop :=
  newW S (.cells [.slice none 0 0] none false none) fun (b1 : Nat) (S1 : St) =>
    evC E0 tA 49 [.slice b_0.a b_0.len b_0.cap, .int .i64 4] S1 fun (v1 : Value) (S2 : St) =>
      newW S2 DObj.deferred fun (b2 : Nat) (S3 : St) =>
        ∀ (b3 : Nat) (S4 : St) (k1 : LoopState → Option Code → DObj),
          b3 = S3.next →
            S4 = (St.alloc S3 (k1 LoopState.ready none)).2 →
              (LoopL fun (x1 : LoopState) (p1 : Option Code) => k1 x1 p1) →
                (RoundH E0 b3 [Ty.sc Sc.sl] fun (s1 : Sl) (S5 : St) (k2 : Bool → St → Prop) =>
                    hasW S5 b3 (k1 LoopState.ready none)
                      (hasW S5 b3 (k1 LoopState.ready none)
                        (updW S5 b3 (k1 LoopState.busy none) fun (S6 : St) =>
                          joinW
                            (fun (t1 : Bool) (S7 : St) =>
                              ifW t1
                                (lowVW S7.next (.pointer (some ⟨b1, 0, none⟩))
                                  (evV tS (loadV E0 S7 43 (.pointer (some ⟨b1, 0, none⟩))) fun (s2 : Sl) =>
                                    setLowW S7 S7.next fun (S8 : St) =>
                                      evC E0 (TT.one (Ty.agg G104)) 50 [.slice s1.a s1.len s1.cap] S8 fun (x2 : Int × Int × Int × Int × Int × Int) (S9 : St) =>
                                        needW (Nat.ble S7.next S9.low)
                                          (setLowW S9 (Nat.min S7.low S7.next) fun (S10 : St) =>
                                            setLowW S10 S7.next fun (S11 : St) =>
                                              newW S11
                                                (.cells
                                                  [.int .i64 x2.1, .int .i64 x2.2.1, .int .i64 x2.2.2.1, .int .i64 x2.2.2.2.1,
                                                    .int .i64 x2.2.2.2.2.1, .int .u64 x2.2.2.2.2.2]
                                                  none false none)
                                                fun (b4 : Nat) (S12 : St) =>
                                                needW (Nat.ble S7.next S12.low)
                                                  (setLowW S12 (Nat.min S10.low S7.next) fun (S13 : St) =>
                                                    evP tS (appendD E0 S13 43 43 (.slice s2.a s2.len s2.cap) (.slice (some ⟨b4, 0, none⟩) 1 1)) fun (s3 : Sl) (S14 : St) =>
                                                      evS (storeV E0 S14 43 (.pointer (some ⟨b1, 0, none⟩)) (.slice s3.a s3.len s3.cap)) fun (S15 : St) =>
                                                        hasW S15 b3 (k1 LoopState.busy none) (updW S15 b3 (k1 LoopState.ready none) fun (S16 : St) => k2 true S16)))))
                                (hasW S7 b3 (k1 LoopState.busy none) (updW S7 b3 (k1 LoopState.ready none) fun (S17 : St) => k2 true S17)))
                            fun (k3 : Bool → St → Prop) =>
                            ifW (eqI (↑s1.len : Int) 4) (evV tS (loadV E0 S6 43 (.pointer (some ⟨b1, 0, none⟩))) fun (s4 : Sl) => k3 (ltI (↑s4.len : Int) 10000) S6) (k3 false S6)))) →
                  WG E0 v1 b3 S4 fun (S18 : St) =>
                    hasW S18 b3 (k1 LoopState.ready none)
                        (updW S18 b3 (k1 LoopState.exhausted none) fun (S19 : St) =>
                          evV tS (loadV E0 S19 43 (.pointer (some ⟨b1, 0, none⟩))) fun (s5 : Sl) =>
                            hasW S19 b2 DObj.deferred (updW S19 b2 DObj.dead fun (S20 : St) => k (.slice s5.a s5.len s5.cap) S20)) ∨
                      False
theorem w20 (b_0 : Sl) {S : St} {k : Value → St → Prop} (h : c20 b_0 S k) : WC E0 20 [.slice b_0.a b_0.len b_0.cap] S k :=
  WC_den h20 rfl (by kernel_rfl) (by kernel_rfl : Try.f20.body = some (bodyOf Try.f20)) (by rw [show (denF E0 h20 Try.f20 (bodyOf Try.f20) [.slice b_0.a b_0.len b_0.cap] S k) = c20 b_0 S k by kernel_rfl]; exact h)

/-! 49 slices.Chunk[[]byte,byte] -/
noncomputable def h49 : Hn := .no
def c49 (s_0 : Sl) (n_1 : Int) (S : St) (k : Value → St → Prop) : Prop :=
  newW S (.cells [.slice s_0.a s_0.len s_0.cap] none false none) fun (b1 : Nat) (S1 : St) =>
    newW S1 (.cells [.int .i64 n_1] none false none) fun (b2 : Nat) (S2 : St) =>
      evV tI (loadV E0 S2 3 (.pointer (some ⟨b2, 0, none⟩))) fun (n1 : Int) =>
        ifW (ltI n1 1) False (k (.func (Fn.func 66) #[] #[.pointer (some ⟨b1, 0, none⟩), .pointer (some ⟨b2, 0, none⟩)]) S2)
theorem w49 (s_0 : Sl) (n_1 : Int) {S : St} {k : Value → St → Prop} (h : c49 s_0 n_1 S k) : WC E0 49 [.slice s_0.a s_0.len s_0.cap, .int .i64 n_1] S k :=
  WC_den h49 rfl (by kernel_rfl) (by kernel_rfl : Try.f49.body = some (bodyOf Try.f49)) (by rw [show (denF E0 h49 Try.f49 (bodyOf Try.f49) [.slice s_0.a s_0.len s_0.cap, .int .i64 n_1] S k) = c49 s_0 n_1 S k by kernel_rfl]; exact h)

/-! 66 slices.Chunk[[]byte,byte]$1 -/
noncomputable def h66 : Hn := (.n .no (.n (.n .no .no (some ⟨[0, 1, 2], [(4, .sc (.int .i64))], false⟩)) .no none) none)
def c66 (yield_0 : Value) (c1 : Nat) (c2 : Nat) (S : St) (k : Value → St → Prop) : Prop :=
  loopW
    (fun (k1 : Int → St → Prop) (n1 : Int) (S1 : St) =>
      evV tS (loadV E0 S1 42 (.pointer (some ⟨c1, 0, none⟩))) fun (s1 : Sl) =>
        ifW (ltI n1 (↑s1.len : Int))
          (evV tI (loadV E0 S1 3 (.pointer (some ⟨c2, 0, none⟩))) fun (n2 : Int) =>
            evV tS (loadV E0 S1 42 (.pointer (some ⟨c1, 0, none⟩))) fun (s2 : Sl) =>
              evV tS (sliceD E0 S1 42 (.slice s2.a s2.len s2.cap) (some (.int .i64 n1)) none none) fun (s3 : Sl) =>
                evV tS (loadV E0 S1 42 (.pointer (some ⟨c1, 0, none⟩))) fun (s4 : Sl) =>
                  evV tS
                    (sliceD E0 S1 42 (.slice s4.a s4.len s4.cap) (some (.int .i64 n1))
                      (some
                        (.int .i64 (wrapI .i64 (n1 + bif false then bif decide (n2 < (↑s3.len : Int)) then (↑s3.len : Int) else n2 else bif decide ((↑s3.len : Int) < n2) then (↑s3.len : Int) else n2))))
                      (some
                        (.int .i64 (wrapI .i64 (n1 + bif false then bif decide (n2 < (↑s3.len : Int)) then (↑s3.len : Int) else n2 else bif decide ((↑s3.len : Int) < n2) then (↑s3.len : Int) else n2)))))
                    fun (s5 : Sl) =>
                    evY E0 tB yield_0 [.slice s5.a s5.len s5.cap] S1 fun (t1 : Bool) (S2 : St) =>
                      ifW (!t1) (k (.tuple #[]) S2) (evV tI (loadV E0 S2 3 (.pointer (some ⟨c2, 0, none⟩))) fun (n3 : Int) => k1 (wrapI .i64 (n1 + n3)) S2))
          (k (.tuple #[]) S1))
    0 S
theorem w66 (yield_0 : Value) (c1 : Nat) (c2 : Nat) {S : St} {k : Value → St → Prop} (h : c66 yield_0 c1 c2 S k) : WC E0 66 [yield_0, .pointer (some ⟨c1, 0, none⟩), .pointer (some ⟨c2, 0, none⟩)] S k :=
  WC_den h66 rfl (by kernel_rfl) (by kernel_rfl : Try.f66.body = some (bodyOf Try.f66)) (by rw [show (denF E0 h66 Try.f66 (bodyOf Try.f66) [yield_0, .pointer (some ⟨c1, 0, none⟩), .pointer (some ⟨c2, 0, none⟩)] S k) = c66 yield_0 c1 c2 S k by kernel_rfl]; exact h)

/-! 50 wagonway/order.of -/
noncomputable def h50 : Hn := (.n .no (.n .no (.n .no (.n (.n .no (.n (.n .no .no (some ⟨[], [(26, .sc (.int .u8))], false⟩)) .no none) none) .no none) none) none) none)
def c50 (b_0 : Sl) (S : St) (k : Value → St → Prop) : Prop :=
  newW S (.cells [.slice b_0.a b_0.len b_0.cap] none false none) fun (b1 : Nat) (S1 : St) =>
    newW S1 (.cells [.int .i64 0, .int .i64 0, .int .i64 0, .int .i64 0, .int .i64 0, .int .u64 0] none false none) fun (b2 : Nat) (S2 : St) =>
      evV tS (loadV E0 S2 42 (.pointer (some ⟨b1, 0, none⟩))) fun (s1 : Sl) =>
        idxW s1.a s1.len 0 fun (b3 b4 : Nat) =>
          evV tU8 (loadV E0 S2 5 (.pointer (some ⟨b3, b4 + Int.toNat 0 * 1, none⟩))) fun (n1 : Int) =>
            needW true
              (newW S2 (.cells [.int .i64 0, .int .i64 0, .int .i64 0, .int .i64 0, .int .i64 0, .int .u64 0] none false none)
                fun (b5 : Nat) (S3 : St) =>
                evS
                  (storeV E0 S3 105 (.pointer (some ⟨b5, 0, none⟩))
                    (.agg
                      #[.int .i64 (wrapI .i64 (Int.tmod (wrapI .i64 n1) 9 + 1)), .int .i64 0, .int .i64 0, .int .i64 0, .int .i64 0,
                        .int .u64 0]))
                  fun (S4 : St) =>
                  lowVW S4.next (.pointer (some ⟨b1, 0, none⟩))
                    (evV tS (loadV E0 S4 42 (.pointer (some ⟨b1, 0, none⟩))) fun (s2 : Sl) =>
                      idxW s2.a s2.len 2 fun (b6 b7 : Nat) =>
                        lowVW S4.next (.pointer (some ⟨b6, b7 + Int.toNat 2 * 1, none⟩))
                          (evV tU8 (loadV E0 S4 5 (.pointer (some ⟨b6, b7 + Int.toNat 2 * 1, none⟩))) fun (n2 : Int) =>
                            needW true
                              (lowVW S4.next (.pointer (some ⟨b1, 0, none⟩))
                                (evV tS (loadV E0 S4 42 (.pointer (some ⟨b1, 0, none⟩))) fun (s3 : Sl) =>
                                  idxW s3.a s3.len 3 fun (b8 b9 : Nat) =>
                                    lowVW S4.next (.pointer (some ⟨b8, b9 + Int.toNat 3 * 1, none⟩))
                                      (evV tU8 (loadV E0 S4 5 (.pointer (some ⟨b8, b9 + Int.toNat 3 * 1, none⟩))) fun (n3 : Int) =>
                                        setLowW S4 S4.next fun (S5 : St) =>
                                          newW S5 (.cells [.int .i64 0] none false none) fun (b10 : Nat) (S6 : St) =>
                                            needW (Nat.ble S4.next S6.low)
                                              (setLowW S6 (Nat.min S4.low S4.next) fun (S7 : St) =>
                                                evS
                                                  (storeV E0 S7 3 (.pointer (some ⟨b10, 0, none⟩))
                                                    (.int .i64 (orI .i64 (wrapI .i64 (wrapI .i64 n2 * (↑(2 ^ min (Int.toNat 8) 64) : Int))) (wrapI .i64 n3))))
                                                  fun (S8 : St) =>
                                                  ptrW (some ⟨b5, 0, none⟩) fun (b11 b12 : Nat) =>
                                                    evV tI (loadV E0 S8 3 (.pointer (some ⟨b11, b12 + 0, none⟩))) fun (n4 : Int) =>
                                                      evC E0 tA 67 [.int .i64 n4] S8 fun (v1 : Value) (S9 : St) =>
                                                        newW S9 DObj.deferred fun (b13 : Nat) (S10 : St) =>
                                                          ∀ (b14 : Nat) (S11 : St) (k1 : LoopState → Option Code → DObj),
                                                            b14 = S10.next →
                                                              S11 = (St.alloc S10 (k1 LoopState.ready none)).2 →
                                                                (LoopL fun (x1 : LoopState) (p1 : Option Code) => k1 x1 p1) →
                                                                  (RoundH E0 b14 [Ty.sc (Sc.int .u8)] fun (n5 : Int) (S12 : St) (k2 : Bool → St → Prop) =>
                                                                      hasW S12 b14 (k1 LoopState.ready none)
                                                                        (hasW S12 b14 (k1 LoopState.ready none)
                                                                          (updW S12 b14 (k1 LoopState.busy none) fun (S13 : St) =>
                                                                            ifW (eqI n5 114)
                                                                              (evV tS (loadV E0 S13 42 (.pointer (some ⟨b1, 0, none⟩))) fun (s4 : Sl) =>
                                                                                idxW s4.a s4.len 1 fun (b15 b16 : Nat) =>
                                                                                  evV tU8 (loadV E0 S13 5 (.pointer (some ⟨b15, b16 + Int.toNat 1 * 1, none⟩))) fun (n6 : Int) =>
                                                                                    needW true
                                                                                      (ptrW (some ⟨b5, 0, none⟩) fun (b17 b18 : Nat) =>
                                                                                        evS
                                                                                          (storeV E0 S13 3 (.pointer (some ⟨b17, b18 + 1, none⟩))
                                                                                            (.int .i64 (Int.tmod (wrapI .i64 n6) 64)))
                                                                                          fun (S14 : St) => hasW S14 b14 (k1 LoopState.busy none) (updW S14 b14 (k1 LoopState.ready none) fun (S15 : St) => k2 true S15)))
                                                                              (ifW (eqI n5 100)
                                                                                (evV tI (loadV E0 S13 3 (.pointer (some ⟨b10, 0, none⟩))) fun (n7 : Int) =>
                                                                                  ptrW (some ⟨b5, 0, none⟩) fun (b19 b20 : Nat) =>
                                                                                    evS (storeV E0 S13 27 (.pointer (some ⟨b19, b20 + 5, none⟩)) (.int .u64 (wrapI .u64 n7)))
                                                                                      fun (S16 : St) => hasW S16 b14 (k1 LoopState.busy none) (updW S16 b14 (k1 LoopState.ready none) fun (S17 : St) => k2 true S17))
                                                                                (ifW (eqI n5 112)
                                                                                  (evV tS (loadV E0 S13 42 (.pointer (some ⟨b1, 0, none⟩))) fun (s5 : Sl) =>
                                                                                    idxW s5.a s5.len 1 fun (b21 b22 : Nat) =>
                                                                                      evV tU8 (loadV E0 S13 5 (.pointer (some ⟨b21, b22 + Int.toNat 1 * 1, none⟩))) fun (n8 : Int) =>
                                                                                        ptrW (some ⟨b5, 0, none⟩) fun (b23 b24 : Nat) =>
                                                                                          evS
                                                                                            (storeV E0 S13 3 (.pointer (some ⟨b23, b24 + 2, none⟩))
                                                                                              (.int .i64 (wrapI .i64 (wrapI .i64 n8 + 1))))
                                                                                            fun (S18 : St) => hasW S18 b14 (k1 LoopState.busy none) (updW S18 b14 (k1 LoopState.ready none) fun (S19 : St) => k2 true S19))
                                                                                  (ifW (eqI n5 97)
                                                                                    (evV tS (loadV E0 S13 42 (.pointer (some ⟨b1, 0, none⟩))) fun (s6 : Sl) =>
                                                                                      idxW s6.a s6.len 2 fun (b25 b26 : Nat) =>
                                                                                        evV tU8 (loadV E0 S13 5 (.pointer (some ⟨b25, b26 + Int.toNat 2 * 1, none⟩))) fun (n9 : Int) =>
                                                                                          ptrW (some ⟨b5, 0, none⟩) fun (b27 b28 : Nat) =>
                                                                                            evS (storeV E0 S13 3 (.pointer (some ⟨b27, b28 + 3, none⟩)) (.int .i64 (wrapI .i64 n9)))
                                                                                              fun (S20 : St) => hasW S20 b14 (k1 LoopState.busy none) (updW S20 b14 (k1 LoopState.ready none) fun (S21 : St) => k2 true S21))
                                                                                    (ifW (eqI n5 119)
                                                                                      (evV tS (loadV E0 S13 42 (.pointer (some ⟨b1, 0, none⟩))) fun (s7 : Sl) =>
                                                                                        idxW s7.a s7.len 3 fun (b29 b30 : Nat) =>
                                                                                          evV tU8 (loadV E0 S13 5 (.pointer (some ⟨b29, b30 + Int.toNat 3 * 1, none⟩))) fun (n10 : Int) =>
                                                                                            ptrW (some ⟨b5, 0, none⟩) fun (b31 b32 : Nat) =>
                                                                                              evS
                                                                                                (storeV E0 S13 3 (.pointer (some ⟨b31, b32 + 4, none⟩))
                                                                                                  (.int .i64
                                                                                                    (bif true then bif decide (1 < wrapI .i64 n10) then wrapI .i64 n10 else 1
                                                                                                    else bif decide (wrapI .i64 n10 < 1) then wrapI .i64 n10 else 1)))
                                                                                                fun (S22 : St) =>
                                                                                                hasW S22 b14 (k1 LoopState.busy none) (updW S22 b14 (k1 LoopState.ready none) fun (S23 : St) => k2 true S23))
                                                                                      (ifW (eqI n5 99)
                                                                                        (evV tI (loadV E0 S13 3 (.pointer (some ⟨b10, 0, none⟩))) fun (n11 : Int) =>
                                                                                          needW true
                                                                                            (ptrW (some ⟨b5, 0, none⟩) fun (b33 b34 : Nat) =>
                                                                                              evS (storeV E0 S13 3 (.pointer (some ⟨b33, b34 + 2, none⟩)) (.int .i64 (Int.tmod n11 1024)))
                                                                                                fun (S24 : St) =>
                                                                                                hasW S24 b14 (k1 LoopState.busy none) (updW S24 b14 (k1 LoopState.ready none) fun (S25 : St) => k2 true S25)))
                                                                                        (ifW (eqI n5 101)
                                                                                          (evV tS (loadV E0 S13 42 (.pointer (some ⟨b1, 0, none⟩))) fun (s8 : Sl) =>
                                                                                            idxW s8.a s8.len 2 fun (b35 b36 : Nat) =>
                                                                                              evV tU8 (loadV E0 S13 5 (.pointer (some ⟨b35, b36 + Int.toNat 2 * 1, none⟩))) fun (n12 : Int) =>
                                                                                                needW true
                                                                                                  (ptrW (some ⟨b5, 0, none⟩) fun (b37 b38 : Nat) =>
                                                                                                    evS
                                                                                                      (storeV E0 S13 3 (.pointer (some ⟨b37, b38 + 2, none⟩))
                                                                                                        (.int .i64 (Int.tmod (wrapI .i64 n12) 16)))
                                                                                                      fun (S26 : St) =>
                                                                                                      hasW S26 b14 (k1 LoopState.busy none) (updW S26 b14 (k1 LoopState.ready none) fun (S27 : St) => k2 true S27)))
                                                                                          (evV tS (loadV E0 S13 42 (.pointer (some ⟨b1, 0, none⟩))) fun (s9 : Sl) =>
                                                                                            idxW s9.a s9.len 2 fun (b39 b40 : Nat) =>
                                                                                              evV tU8 (loadV E0 S13 5 (.pointer (some ⟨b39, b40 + Int.toNat 2 * 1, none⟩))) fun (n13 : Int) =>
                                                                                                needW true
                                                                                                  (ptrW (some ⟨b5, 0, none⟩) fun (b41 b42 : Nat) =>
                                                                                                    evS
                                                                                                      (storeV E0 S13 3 (.pointer (some ⟨b41, b42 + 2, none⟩))
                                                                                                        (.int .i64 (wrapI .i64 (Int.tmod (wrapI .i64 n13) 16 - 1))))
                                                                                                      fun (S28 : St) =>
                                                                                                      hasW S28 b14 (k1 LoopState.busy none)
                                                                                                        (updW S28 b14 (k1 LoopState.ready none) fun (S29 : St) => k2 true S29)))))))))))) →
                                                                    WG E0 v1 b14 S11 fun (S30 : St) =>
                                                                      hasW S30 b14 (k1 LoopState.ready none)
                                                                          (updW S30 b14 (k1 LoopState.exhausted none) fun (S31 : St) =>
                                                                            evV (TT.one (Ty.agg G104)) (loadV E0 S31 105 (.pointer (some ⟨b5, 0, none⟩))) fun (x2 : Int × Int × Int × Int × Int × Int) =>
                                                                              evS (storeV E0 S31 105 (.pointer (some ⟨b2, 0, none⟩)) (sv G104 x2)) fun (S32 : St) =>
                                                                                hasW S32 b13 DObj.deferred
                                                                                  (updW S32 b13 DObj.dead fun (S33 : St) =>
                                                                                    evV (TT.one (Ty.agg G104)) (loadV E0 S33 105 (.pointer (some ⟨b2, 0, none⟩)))
                                                                                      fun (x3 : Int × Int × Int × Int × Int × Int) => k (sv G104 x3) S33)) ∨
                                                                        False)))))))
theorem w50 (b_0 : Sl) {S : St} {k : Value → St → Prop} (h : c50 b_0 S k) : WC E0 50 [.slice b_0.a b_0.len b_0.cap] S k :=
  WC_den h50 rfl (by kernel_rfl) (by kernel_rfl : Try.f50.body = some (bodyOf Try.f50)) (by rw [show (denF E0 h50 Try.f50 (bodyOf Try.f50) [.slice b_0.a b_0.len b_0.cap] S k) = c50 b_0 S k by kernel_rfl]; exact h)

/-! 67 wagonway/order.parts -/
noncomputable def h67 : Hn := .no
def c67 (kind_0 : Int) (S : St) (k : Value → St → Prop) : Prop :=
  newW S (.cells [.int .i64 kind_0] none false none) fun (b1 : Nat) (S1 : St) => k (.func (Fn.func 73) #[] #[.pointer (some ⟨b1, 0, none⟩)]) S1
theorem w67 (kind_0 : Int) {S : St} {k : Value → St → Prop} (h : c67 kind_0 S k) : WC E0 67 [.int .i64 kind_0] S k :=
  WC_den h67 rfl (by kernel_rfl) (by kernel_rfl : Try.f67.body = some (bodyOf Try.f67)) (by rw [show (denF E0 h67 Try.f67 (bodyOf Try.f67) [.int .i64 kind_0] S k) = c67 kind_0 S k by kernel_rfl]; exact h)

/-! 73 wagonway/order.parts$1 -/
noncomputable def h73 : Hn := (.n .no (.n (.n .no (.n (.n .no (.n .no (.n .no .no (some ⟨[0, 3, 5], [(8, .sc .bool)], false⟩)) none) none) .no none) none) (.n .no (.n (.n .no .no (some ⟨[0, 3, 23], [(24, .sc (.int .i64))], false⟩)) .no none) none) (some ⟨[0], [(3, .sc .str)], false⟩)) none)
def c73 (yield_0 : Value) (c1 : Nat) (S : St) (k : Value → St → Prop) : Prop :=
  joinW
    (fun (l1 : List UInt8) (S1 : St) =>
      loopW
        (fun (k1 : Int → St → Prop) (n1 : Int) (S2 : St) =>
          ifW (ltI n1 (↑(List.length l1) : Int))
            (evV tU8 (indexD E0 9 (.string { data := List.toArray l1 }) (.int .i64 n1)) fun (n2 : Int) =>
              evY E0 tB yield_0 [.int .u8 n2] S2 fun (t1 : Bool) (S3 : St) => ifW (!t1) (k (.tuple #[]) S3) (k1 (wrapI .i64 (n1 + 1)) S3))
            (k (.tuple #[]) S2))
        0 S1)
    fun (k2 : List UInt8 → St → Prop) =>
    evV tI (loadV E0 S 3 (.pointer (some ⟨c1, 0, none⟩))) fun (n3 : Int) =>
      ifW (eqI n3 1) (k2 [UInt8.ofNat 114, UInt8.ofNat 100] S)
        (joinW
          (fun (t2 : Bool) (S4 : St) =>
            ifW t2 (k2 [UInt8.ofNat 112] S4)
              (ifW (eqI n3 5) (k2 [UInt8.ofNat 112, UInt8.ofNat 97, UInt8.ofNat 119] S4)
                (ifW (eqI n3 6) (k2 [UInt8.ofNat 114] S4)
                  (ifW (eqI n3 7) (k2 [UInt8.ofNat 114, UInt8.ofNat 99] S4) (ifW (eqI n3 8) (k2 [UInt8.ofNat 114, UInt8.ofNat 101] S4) (ifW (eqI n3 9) (k2 [UInt8.ofNat 114, UInt8.ofNat 117] S4) (k2 [] S4)))))))
          fun (k3 : Bool → St → Prop) => ifW (eqI n3 2) (k3 true S) (ifW (eqI n3 3) (k3 true S) (k3 (eqI n3 4) S)))
theorem w73 (yield_0 : Value) (c1 : Nat) {S : St} {k : Value → St → Prop} (h : c73 yield_0 c1 S k) : WC E0 73 [yield_0, .pointer (some ⟨c1, 0, none⟩)] S k :=
  WC_den h73 rfl (by kernel_rfl) (by kernel_rfl : Try.f73.body = some (bodyOf Try.f73)) (by rw [show (denF E0 h73 Try.f73 (bodyOf Try.f73) [yield_0, .pointer (some ⟨c1, 0, none⟩)] S k) = c73 yield_0 c1 S k by kernel_rfl]; exact h)

/-! 22 wagonway/wagonwayref23.Of -/
noncomputable def h22 : Hn := (.n .no (.n .no (.n (.n .no (.n (.n (.n .no (.n (.n (.n .no (.n .no (.n .no (.n (.n .no .no (some ⟨[0, 3, 4, 5, 6, 7], [(50, .sc .bool)], false⟩)) (.n .no .no (some ⟨[0, 3, 4, 5], [], false⟩)) (some ⟨[0, 3, 4, 5, 6, 7], [], false⟩)) none) none) none) .no none) .no none) none) .no (some ⟨[0], [(3, .sc .sl), (4, .sc (.int .i64))], false⟩)) .no none) none) .no none) none) none)
def c22 (b_0 : Sl) (S : St) (k : Value → St → Prop) : Prop :=
  loopW
    (fun (k1 : Sl × Int → St → Prop) (x1 : Sl × Int) (S1 : St) =>
      ifW (ltI (wrapI .i64 (x1.2 + 3)) (↑b_0.len : Int))
        (ifW (ltI (↑x1.1.len : Int) 10000)
          (idxW b_0.a b_0.len x1.2 fun (b1 b2 : Nat) =>
            evV tU8 (loadV E0 S1 5 (.pointer (some ⟨b1, b2 + Int.toNat x1.2 * 1, none⟩))) fun (n1 : Int) =>
              needW true
                (newW S1 (.cells [.int .i64 0, .int .i64 0, .int .i64 0, .int .i64 0, .int .i64 0, .int .u64 0] none false none)
                  fun (b3 : Nat) (S2 : St) =>
                  evS
                    (storeV E0 S2 105 (.pointer (some ⟨b3, 0, none⟩))
                      (.agg
                        #[.int .i64 (wrapI .i64 (Int.tmod (wrapI .i64 n1) 9 + 1)), .int .i64 0, .int .i64 0, .int .i64 0, .int .i64 0,
                          .int .u64 0]))
                    fun (S3 : St) =>
                    idxW b_0.a b_0.len (wrapI .i64 (x1.2 + 2)) fun (b4 b5 : Nat) =>
                      evV tU8 (loadV E0 S3 5 (.pointer (some ⟨b4, b5 + Int.toNat (wrapI .i64 (x1.2 + 2)) * 1, none⟩))) fun (n2 : Int) =>
                        idxW b_0.a b_0.len (wrapI .i64 (x1.2 + 3)) fun (b6 b7 : Nat) =>
                          evV tU8 (loadV E0 S3 5 (.pointer (some ⟨b6, b7 + Int.toNat (wrapI .i64 (x1.2 + 3)) * 1, none⟩))) fun (n3 : Int) =>
                            joinW
                              (fun (x2 : PUnit) (S4 : St) =>
                                joinW
                                  (fun (x3 : PUnit) (S5 : St) =>
                                    evV (TT.one (Ty.agg G104)) (loadV E0 S5 105 (.pointer (some ⟨b3, 0, none⟩))) fun (x4 : Int × Int × Int × Int × Int × Int) =>
                                      newW S5
                                        (.cells
                                          [.int .i64 x4.1, .int .i64 x4.2.1, .int .i64 x4.2.2.1, .int .i64 x4.2.2.2.1,
                                            .int .i64 x4.2.2.2.2.1, .int .u64 x4.2.2.2.2.2]
                                          none false none)
                                        fun (b8 : Nat) (S6 : St) =>
                                        evP tS (appendD E0 S6 43 43 (.slice x1.1.a x1.1.len x1.1.cap) (.slice (some ⟨b8, 0, none⟩) 1 1)) fun (s1 : Sl) (S7 : St) =>
                                          k1 ({ a := s1.a, len := s1.len, cap := s1.cap }, wrapI .i64 (x1.2 + 4)) S7)
                                  fun (k2 : PUnit → St → Prop) =>
                                  ptrW (some ⟨b3, 0, none⟩) fun (b9 b10 : Nat) =>
                                    evV tI (loadV E0 S4 3 (.pointer (some ⟨b9, b10 + 0, none⟩))) fun (n4 : Int) =>
                                      ifW (eqI n4 1)
                                        (ptrW (some ⟨b3, 0, none⟩) fun (b11 b12 : Nat) =>
                                          evS
                                            (storeV E0 S4 27 (.pointer (some ⟨b11, b12 + 5, none⟩))
                                              (.int .u64 (wrapI .u64 (wrapI .i64 (wrapI .i64 (wrapI .i64 n2 * 256) + wrapI .i64 n3)))))
                                            fun (S8 : St) => k2 PUnit.unit S8)
                                        (ifW (eqI n4 5)
                                          (ptrW (some ⟨b3, 0, none⟩) fun (b13 b14 : Nat) =>
                                            evS (storeV E0 S4 3 (.pointer (some ⟨b13, b14 + 3, none⟩)) (.int .i64 (wrapI .i64 n2))) fun (S9 : St) =>
                                              idxW b_0.a b_0.len (wrapI .i64 (x1.2 + 3)) fun (b15 b16 : Nat) =>
                                                evV tU8 (loadV E0 S9 5 (.pointer (some ⟨b15, b16 + Int.toNat (wrapI .i64 (x1.2 + 3)) * 1, none⟩))) fun (n5 : Int) =>
                                                  ptrW (some ⟨b3, 0, none⟩) fun (b17 b18 : Nat) =>
                                                    evS (storeV E0 S9 3 (.pointer (some ⟨b17, b18 + 4, none⟩)) (.int .i64 (wrapI .i64 n5))) fun (S10 : St) =>
                                                      ptrW (some ⟨b3, 0, none⟩) fun (b19 b20 : Nat) =>
                                                        evV tI (loadV E0 S10 3 (.pointer (some ⟨b19, b20 + 4, none⟩))) fun (n6 : Int) =>
                                                          ifW (eqI n6 0)
                                                            (ptrW (some ⟨b3, 0, none⟩) fun (b21 b22 : Nat) =>
                                                              evS (storeV E0 S10 3 (.pointer (some ⟨b21, b22 + 4, none⟩)) (.int .i64 1)) fun (S11 : St) => k2 PUnit.unit S11)
                                                            (k2 PUnit.unit S10))
                                          (ifW (eqI n4 7)
                                            (needW true
                                              (ptrW (some ⟨b3, 0, none⟩) fun (b23 b24 : Nat) =>
                                                evS
                                                  (storeV E0 S4 3 (.pointer (some ⟨b23, b24 + 2, none⟩))
                                                    (.int .i64 (Int.tmod (wrapI .i64 (wrapI .i64 (wrapI .i64 n2 * 256) + wrapI .i64 n3)) 1024)))
                                                  fun (S12 : St) => k2 PUnit.unit S12))
                                            (ifW (eqI n4 8)
                                              (needW true
                                                (ptrW (some ⟨b3, 0, none⟩) fun (b25 b26 : Nat) =>
                                                  evS (storeV E0 S4 3 (.pointer (some ⟨b25, b26 + 2, none⟩)) (.int .i64 (Int.tmod (wrapI .i64 n2) 16))) fun (S13 : St) =>
                                                    k2 PUnit.unit S13))
                                              (ifW (eqI n4 9)
                                                (needW true
                                                  (ptrW (some ⟨b3, 0, none⟩) fun (b27 b28 : Nat) =>
                                                    evS (storeV E0 S4 3 (.pointer (some ⟨b27, b28 + 2, none⟩)) (.int .i64 (wrapI .i64 (Int.tmod (wrapI .i64 n2) 16 - 1))))
                                                      fun (S14 : St) => k2 PUnit.unit S14))
                                                (k2 PUnit.unit S4))))))
                              fun (k3 : PUnit → St → Prop) =>
                              joinW
                                (fun (t1 : Bool) (S15 : St) =>
                                  ifW t1
                                    (idxW b_0.a b_0.len (wrapI .i64 (x1.2 + 1)) fun (b29 b30 : Nat) =>
                                      evV tU8 (loadV E0 S15 5 (.pointer (some ⟨b29, b30 + Int.toNat (wrapI .i64 (x1.2 + 1)) * 1, none⟩))) fun (n7 : Int) =>
                                        needW true
                                          (ptrW (some ⟨b3, 0, none⟩) fun (b31 b32 : Nat) =>
                                            evS (storeV E0 S15 3 (.pointer (some ⟨b31, b32 + 1, none⟩)) (.int .i64 (Int.tmod (wrapI .i64 n7) 64))) fun (S16 : St) => k3 PUnit.unit S16))
                                    (idxW b_0.a b_0.len (wrapI .i64 (x1.2 + 1)) fun (b33 b34 : Nat) =>
                                      evV tU8 (loadV E0 S15 5 (.pointer (some ⟨b33, b34 + Int.toNat (wrapI .i64 (x1.2 + 1)) * 1, none⟩))) fun (n8 : Int) =>
                                        ptrW (some ⟨b3, 0, none⟩) fun (b35 b36 : Nat) =>
                                          evS (storeV E0 S15 3 (.pointer (some ⟨b35, b36 + 2, none⟩)) (.int .i64 (wrapI .i64 (wrapI .i64 n8 + 1)))) fun (S17 : St) =>
                                            k3 PUnit.unit S17))
                                fun (k4 : Bool → St → Prop) =>
                                ptrW (some ⟨b3, 0, none⟩) fun (b37 b38 : Nat) =>
                                  evV tI (loadV E0 S3 3 (.pointer (some ⟨b37, b38 + 0, none⟩))) fun (n9 : Int) =>
                                    ifW (eqI n9 1) (k4 true S3)
                                      (ptrW (some ⟨b3, 0, none⟩) fun (b39 b40 : Nat) => evV tI (loadV E0 S3 3 (.pointer (some ⟨b39, b40 + 0, none⟩))) fun (n10 : Int) => k4 (leI 6 n10) S3)))
          (k (.slice x1.1.a x1.1.len x1.1.cap) S1))
        (k (.slice x1.1.a x1.1.len x1.1.cap) S1))
    ({ a := none, len := 0, cap := 0 }, 0) S
theorem w22 (b_0 : Sl) {S : St} {k : Value → St → Prop} (h : c22 b_0 S k) : WC E0 22 [.slice b_0.a b_0.len b_0.cap] S k :=
  WC_den h22 rfl (by kernel_rfl) (by kernel_rfl : Try.f22.body = some (bodyOf Try.f22)) (by rw [show (denF E0 h22 Try.f22 (bodyOf Try.f22) [.slice b_0.a b_0.len b_0.cap] S k) = c22 b_0 S k by kernel_rfl]; exact h)

/-! 21 wagonway/wagonwayref23.Same -/
noncomputable def h21 : Hn := (.n .no (.n .no (.n (.n .no (.n (.n .no .no (some ⟨[0, 1], [(5, .sc (.int .i64))], false⟩)) .no none) none) .no none) none) none)
def c21 (a_0 : Sl) (b_1 : Sl) (S : St) (k : Value → St → Prop) : Prop :=
  ifW (!eqI (↑a_0.len : Int) (↑b_1.len : Int)) (k (.bool false) S)
    (loopW
      (fun (k1 : Int → St → Prop) (n1 : Int) (S1 : St) =>
        ifW (ltI n1 (↑a_0.len : Int))
          (idxW a_0.a a_0.len n1 fun (b1 b2 : Nat) =>
            evV (TT.one (Ty.agg G104)) (loadV E0 S1 105 (.pointer (some ⟨b1, b2 + Int.toNat n1 * 6, none⟩))) fun (x1 : Int × Int × Int × Int × Int × Int) =>
              idxW b_1.a b_1.len n1 fun (b3 b4 : Nat) =>
                evV (TT.one (Ty.agg G104)) (loadV E0 S1 105 (.pointer (some ⟨b3, b4 + Int.toNat n1 * 6, none⟩))) fun (x2 : Int × Int × Int × Int × Int × Int) =>
                  eqW E0 S1 105 (sv G104 x1) (sv G104 x2) fun (t1 : Bool) => ifW (!t1) (k (.bool false) S1) (k1 (wrapI .i64 (n1 + 1)) S1))
          (k (.bool true) S1))
      0 S)
theorem w21 (a_0 : Sl) (b_1 : Sl) {S : St} {k : Value → St → Prop} (h : c21 a_0 b_1 S k) : WC E0 21 [.slice a_0.a a_0.len a_0.cap, .slice b_1.a b_1.len b_1.cap] S k :=
  WC_den h21 rfl (by kernel_rfl) (by kernel_rfl : Try.f21.body = some (bodyOf Try.f21)) (by rw [show (denF E0 h21 Try.f21 (bodyOf Try.f21) [.slice a_0.a a_0.len a_0.cap, .slice b_1.a b_1.len b_1.cap] S k) = c21 a_0 b_1 S k by kernel_rfl]; exact h)

end
end Go.Proofs.Ytcookjolkhcjhaa
