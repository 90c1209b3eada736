/- Parts of the proof, put together. -/
import Derived.Test.YtgdijpcopdgapaaCA
/- The conditions of functions (printed by GenDen.lean). -/
namespace Go.Proofs.Ytgdijpcopdgapaa
open Go Go.Proofs.Ytgdijpcopdgapaa.D
set_option linter.unusedVariables false
noncomputable section

/-! 4 wagonway/grid.Parse -/
noncomputable def h4 : Hn := (.n .no (.n .no (.n .no (.n (.n .no (.n (.n .no (.n (.n .no (.n .no .no (some ⟨[2, 3, 4, 5, 6], [], false⟩)) none) .no none) (some ⟨[], [(14, .sc .str)], false⟩)) .no none) none) .no none) none) none) none)
def c4 (s_0 : List UInt8) (S : St) (k : Value → St → Prop) : Prop :=
  newW S (.cells [.pointer none] none false none) fun (b1 : Nat) (S1 : St) =>
  newW S1 (.cells [.int .i64 0] none false none) fun (b2 : Nat) (S2 : St) =>
  newW S2 (.cells [.int .i64 0] none false none) fun (b3 : Nat) (S3 : St) =>
  newW S3 (.cells [.int .i64 0] none false none) fun (b4 : Nat) (S4 : St) =>
  ifW (s_0 == [])
  (evS (storeV E0 S4 29 (.pointer (some ⟨b1, 0, none⟩)) (.pointer none)) fun (S5 : St) =>
  evS (storeV E0 S5 3 (.pointer (some ⟨b2, 0, none⟩)) (.int .i64 1)) fun (S6 : St) =>
  evS (storeV E0 S6 3 (.pointer (some ⟨b3, 0, none⟩)) (.int .i64 1)) fun (S7 : St) =>
  evS (storeV E0 S7 30 (.pointer (some ⟨b4, 0, none⟩)) (.int .i64 10)) fun (S8 : St) =>
  evV tP (loadV E0 S8 29 (.pointer (some ⟨b1, 0, none⟩))) fun (p1 : Option Addr) =>
  evV tI (loadV E0 S8 3 (.pointer (some ⟨b2, 0, none⟩))) fun (n1 : Int) =>
  evV tI (loadV E0 S8 3 (.pointer (some ⟨b3, 0, none⟩))) fun (n2 : Int) =>
  evV tI (loadV E0 S8 30 (.pointer (some ⟨b4, 0, none⟩))) fun (n3 : Int) =>
  k (.tuple #[.pointer p1, .int .i64 n1, .int .i64 n2, .int .i64 n3]) S8)
  (newW S4
  (.cells [.int .i64 0, .int .i64 32, .slice none 0 0, .int .u32 0, .int .i32 0, .int .u32 0, .slice none 0 0, .slice none 0 0]
  none false none)
  fun (b5 : Nat) (S9 : St) =>
  evS (storeV E0 S9 29 (.pointer (some ⟨b1, 0, none⟩)) (.pointer (some ⟨b5, 0, none⟩))) fun (S10 : St) =>
  evC E0 tA 13 [.string { data := List.toArray s_0 }] S10 fun (v1 : Value) (S11 : St) =>
  newW S11 DObj.deferred fun (b6 : Nat) (S12 : St) =>
  ∀ (b7 : Nat) (S13 : St) (k1 : LoopState → Option Code → DObj),
  b7 = S12.next →
  S13 = (St.alloc S12 (k1 LoopState.ready none)).2 →
  (LoopL fun (x1 : LoopState) (p2 : Option Code) => k1 x1 p2) →
  (RoundH E0 b7 [Ty.sc Sc.str] fun (l1 : List UInt8) (S14 : St) (k2 : Bool → St → Prop) =>
  hasW S14 b7 (k1 LoopState.ready none)
  (hasW S14 b7 (k1 LoopState.ready none)
  (updW S14 b7 (k1 LoopState.busy none) fun (S15 : St) =>
  evV tP (loadV E0 S15 29 (.pointer (some ⟨b1, 0, none⟩))) fun (p3 : Option Addr) =>
  ptrW p3 fun (b8 b9 : Nat) =>
  ptrW (some ⟨b8, b9, none⟩) fun (b10 b11 : Nat) =>
  evV tI (loadV E0 S15 3 (.pointer (some ⟨b10, b11 + 0, none⟩))) fun (n4 : Int) =>
  ptrW p3 fun (b12 b13 : Nat) =>
  ptrW (some ⟨b12, b13, none⟩) fun (b14 b15 : Nat) =>
  evS (storeV E0 S15 3 (.pointer (some ⟨b14, b15 + 0, none⟩)) (.int .i64 (wrapI .i64 (n4 + 1)))) fun (S16 : St) =>
  joinW
  (fun (x2 : PUnit) (S17 : St) =>
  evV tP (loadV E0 S17 29 (.pointer (some ⟨b1, 0, none⟩))) fun (p4 : Option Addr) =>
  ptrW p4 fun (b16 b17 : Nat) =>
  ptrW (some ⟨b16, b17, none⟩) fun (b18 b19 : Nat) =>
  evV tI (loadV E0 S17 3 (.pointer (some ⟨b18, b19 + 0, none⟩))) fun (n5 : Int) =>
  ifW (ltI 32 n5)
  (evV tP (loadV E0 S17 29 (.pointer (some ⟨b1, 0, none⟩))) fun (p5 : Option Addr) =>
  ptrW p5 fun (b20 b21 : Nat) =>
  ptrW (some ⟨b20, b21, none⟩) fun (b22 b23 : Nat) =>
  evV tI (loadV E0 S17 3 (.pointer (some ⟨b22, b23 + 0, none⟩))) fun (n6 : Int) =>
  evS (storeV E0 S17 29 (.pointer (some ⟨b1, 0, none⟩)) (.pointer none)) fun (S18 : St) =>
  evV tI (loadV E0 S18 3 (.pointer (some ⟨b22, b23 + 0, none⟩))) fun (n7 : Int) =>
  sameV (.int .i64 n7) (.int .i64 n6)
  (evS (storeV E0 S18 3 (.pointer (some ⟨b2, 0, none⟩)) (.int .i64 n6)) fun (S19 : St) =>
  evS (storeV E0 S19 3 (.pointer (some ⟨b3, 0, none⟩)) (.int .i64 1)) fun (S20 : St) =>
  evS (storeV E0 S20 30 (.pointer (some ⟨b4, 0, none⟩)) (.int .i64 10)) fun (S21 : St) =>
  hasW S21 b7 (k1 LoopState.busy none) (updW S21 b7 (k1 LoopState.done (some Code.ret)) fun (S22 : St) => k2 false S22)))
  (evV tP (loadV E0 S17 29 (.pointer (some ⟨b1, 0, none⟩))) fun (p6 : Option Addr) =>
  ptrW p6 fun (b24 b25 : Nat) =>
  ptrW (some ⟨b24, b25, none⟩) fun (b26 b27 : Nat) =>
  evV tI (loadV E0 S17 3 (.pointer (some ⟨b26, b27 + 1, none⟩))) fun (n8 : Int) =>
  evC E0 tI 15 [.string { data := List.toArray l1 }, .int .i64 n8] S17 fun (n9 : Int) (S23 : St) =>
  ifW (ltI 0 n9)
  (evV tP (loadV E0 S23 29 (.pointer (some ⟨b1, 0, none⟩))) fun (p7 : Option Addr) =>
  ptrW p7 fun (b28 b29 : Nat) =>
  ptrW (some ⟨b28, b29, none⟩) fun (b30 b31 : Nat) =>
  evV tI (loadV E0 S23 3 (.pointer (some ⟨b30, b31 + 0, none⟩))) fun (n10 : Int) =>
  evS (storeV E0 S23 29 (.pointer (some ⟨b1, 0, none⟩)) (.pointer none)) fun (S24 : St) =>
  evV tI (loadV E0 S24 3 (.pointer (some ⟨b30, b31 + 0, none⟩))) fun (n11 : Int) =>
  sameV (.int .i64 n11) (.int .i64 n10)
  (evS (storeV E0 S24 3 (.pointer (some ⟨b2, 0, none⟩)) (.int .i64 n10)) fun (S25 : St) =>
  evS (storeV E0 S25 3 (.pointer (some ⟨b3, 0, none⟩)) (.int .i64 n9)) fun (S26 : St) =>
  evS (storeV E0 S26 30 (.pointer (some ⟨b4, 0, none⟩)) (.int .i64 10)) fun (S27 : St) =>
  hasW S27 b7 (k1 LoopState.busy none) (updW S27 b7 (k1 LoopState.done (some Code.ret)) fun (S28 : St) => k2 false S28)))
  (evV tP (loadV E0 S23 29 (.pointer (some ⟨b1, 0, none⟩))) fun (p8 : Option Addr) =>
  evV tP (loadV E0 S23 29 (.pointer (some ⟨b1, 0, none⟩))) fun (p9 : Option Addr) =>
  ptrW p9 fun (b32 b33 : Nat) =>
  ptrW (some ⟨b32, b33, none⟩) fun (b34 b35 : Nat) =>
  evV tS (loadV E0 S23 64 (.pointer (some ⟨b34, b35 + 2, none⟩))) fun (s1 : Sl) =>
  evV tP (loadV E0 S23 29 (.pointer (some ⟨b1, 0, none⟩))) fun (p10 : Option Addr) =>
  ptrW p10 fun (b36 b37 : Nat) =>
  ptrW (some ⟨b36, b37, none⟩) fun (b38 b39 : Nat) =>
  evV tI (loadV E0 S23 3 (.pointer (some ⟨b38, b39 + 1, none⟩))) fun (n12 : Int) =>
  evV tT (sliceD E0 S23 9 (.string { data := List.toArray l1 }) none (some (.int .i64 n12)) none)
  fun (l2 : List UInt8) =>
  evP tS (appendD E0 S23 64 9 (.slice s1.a s1.len s1.cap) (.string { data := List.toArray l2 }))
  fun (s2 : Sl) (S29 : St) =>
  evV tP (loadV E0 S29 29 (.pointer (some ⟨b1, 0, none⟩))) fun (p11 : Option Addr) =>
  sameV (.pointer p11) (.pointer p8)
  (ptrW p8 fun (b40 b41 : Nat) =>
  ptrW (some ⟨b40, b41, none⟩) fun (b42 b43 : Nat) =>
  evS (storeV E0 S29 64 (.pointer (some ⟨b42, b43 + 2, none⟩)) (.slice s2.a s2.len s2.cap))
  fun (S30 : St) =>
  hasW S30 b7 (k1 LoopState.busy none) (updW S30 b7 (k1 LoopState.ready none) fun (S31 : St) => k2 true S31)))))
  fun (k3 : PUnit → St → Prop) =>
  evV tP (loadV E0 S16 29 (.pointer (some ⟨b1, 0, none⟩))) fun (p12 : Option Addr) =>
  ptrW p12 fun (b44 b45 : Nat) =>
  ptrW (some ⟨b44, b45, none⟩) fun (b46 b47 : Nat) =>
  evV tI (loadV E0 S16 3 (.pointer (some ⟨b46, b47 + 0, none⟩))) fun (n13 : Int) =>
  ifW (eqI n13 1)
  (evV tP (loadV E0 S16 29 (.pointer (some ⟨b1, 0, none⟩))) fun (p13 : Option Addr) =>
  evC E0 tT 14 [.string { data := List.toArray l1 }, .string { data := #[UInt8.ofNat 10] }] S16 fun (l3 : List UInt8) (S32 : St) =>
  evV tP (loadV E0 S32 29 (.pointer (some ⟨b1, 0, none⟩))) fun (p14 : Option Addr) =>
  sameV (.pointer p14) (.pointer p13)
  (ptrW p13 fun (b48 b49 : Nat) =>
  ptrW (some ⟨b48, b49, none⟩) fun (b50 b51 : Nat) =>
  evS
  (storeV E0 S32 3 (.pointer (some ⟨b50, b51 + 1, none⟩))
  (.int .i64
  (bif false then bif decide (32 < (↑(List.length l3) : Int)) then (↑(List.length l3) : Int) else 32
  else bif decide ((↑(List.length l3) : Int) < 32) then (↑(List.length l3) : Int) else 32)))
  fun (S33 : St) => k3 PUnit.unit S33))
  (k3 PUnit.unit S16)))) →
  WG E0 v1 b7 S13 fun (S34 : St) =>
  hasW S34 b7 (k1 LoopState.ready none)
  (updW S34 b7 (k1 LoopState.exhausted none) fun (S35 : St) =>
  evV tP (loadV E0 S35 29 (.pointer (some ⟨b1, 0, none⟩))) fun (p15 : Option Addr) =>
  evC E0 tS 16 [.pointer p15] S35 fun (s3 : Sl) (S36 : St) =>
  ifW (eqI (↑s3.len : Int) 0)
  (evS (storeV E0 S36 29 (.pointer (some ⟨b1, 0, none⟩)) (.pointer none)) fun (S37 : St) =>
  evS (storeV E0 S37 3 (.pointer (some ⟨b2, 0, none⟩)) (.int .i64 0)) fun (S38 : St) =>
  evS (storeV E0 S38 3 (.pointer (some ⟨b3, 0, none⟩)) (.int .i64 0)) fun (S39 : St) =>
  evS (storeV E0 S39 30 (.pointer (some ⟨b4, 0, none⟩)) (.int .i64 10)) fun (S40 : St) =>
  hasW S40 b6 DObj.deferred
  (updW S40 b6 DObj.dead fun (S41 : St) =>
  evV tP (loadV E0 S41 29 (.pointer (some ⟨b1, 0, none⟩))) fun (p16 : Option Addr) =>
  evV tI (loadV E0 S41 3 (.pointer (some ⟨b2, 0, none⟩))) fun (n14 : Int) =>
  evV tI (loadV E0 S41 3 (.pointer (some ⟨b3, 0, none⟩))) fun (n15 : Int) =>
  evV tI (loadV E0 S41 30 (.pointer (some ⟨b4, 0, none⟩))) fun (n16 : Int) =>
  k (.tuple #[.pointer p16, .int .i64 n14, .int .i64 n15, .int .i64 n16]) S41))
  (evV tP (loadV E0 S36 29 (.pointer (some ⟨b1, 0, none⟩))) fun (p17 : Option Addr) =>
  evS (storeV E0 S36 29 (.pointer (some ⟨b1, 0, none⟩)) (.pointer p17)) fun (S42 : St) =>
  evS (storeV E0 S42 3 (.pointer (some ⟨b2, 0, none⟩)) (.int .i64 0)) fun (S43 : St) =>
  evS (storeV E0 S43 3 (.pointer (some ⟨b3, 0, none⟩)) (.int .i64 0)) fun (S44 : St) =>
  evS (storeV E0 S44 30 (.pointer (some ⟨b4, 0, none⟩)) (.int .i64 0)) fun (S45 : St) =>
  hasW S45 b6 DObj.deferred
  (updW S45 b6 DObj.dead fun (S46 : St) =>
  evV tP (loadV E0 S46 29 (.pointer (some ⟨b1, 0, none⟩))) fun (p18 : Option Addr) =>
  evV tI (loadV E0 S46 3 (.pointer (some ⟨b2, 0, none⟩))) fun (n17 : Int) =>
  evV tI (loadV E0 S46 3 (.pointer (some ⟨b3, 0, none⟩))) fun (n18 : Int) =>
  evV tI (loadV E0 S46 30 (.pointer (some ⟨b4, 0, none⟩))) fun (n19 : Int) =>
  k (.tuple #[.pointer p18, .int .i64 n17, .int .i64 n18, .int .i64 n19]) S46))) ∨
  hasW S34 b7 (k1 LoopState.done (some Code.ret))
  (updW S34 b7 (k1 LoopState.exhausted (some Code.ret)) fun (S47 : St) =>
  hasW S47 b6 DObj.deferred
  (updW S47 b6 DObj.dead fun (S48 : St) =>
  evV tP (loadV E0 S48 29 (.pointer (some ⟨b1, 0, none⟩))) fun (p19 : Option Addr) =>
  evV tI (loadV E0 S48 3 (.pointer (some ⟨b2, 0, none⟩))) fun (n20 : Int) =>
  evV tI (loadV E0 S48 3 (.pointer (some ⟨b3, 0, none⟩))) fun (n21 : Int) =>
  evV tI (loadV E0 S48 30 (.pointer (some ⟨b4, 0, none⟩))) fun (n22 : Int) =>
  k (.tuple #[.pointer p19, .int .i64 n20, .int .i64 n21, .int .i64 n22]) S48)) ∨
  False)
theorem w4 (s_0 : List UInt8) {S : St} {k : Value → St → Prop} (h : c4 s_0 S k) : WC E0 4 [.string ⟨s_0.toArray⟩] S k :=
  WC_den h4 rfl (by kernel_rfl) (by kernel_rfl : Try.f4.body = some (bodyOf Try.f4)) (by rw [show (denF E0 h4 Try.f4 (bodyOf Try.f4) [.string ⟨s_0.toArray⟩] S k) = c4 s_0 S k by kernel_rfl]; exact h)

/-! 5 wagonway/wagonwayref01.Parse -/
noncomputable def h5 : Hn := (.n .no (.n .no (.n .no (.n .no (.n .no (.n (.n .no (.n (.n (.n .no (.n (.n (.n .no (.n .no (.n (.n .no (.n (.n (.n .no .no (some ⟨[0, 6, 7, 8, 9, 10], [(52, .sc .bool)], false⟩)) .no none) .no none) none) (.n (.n .no .no (some ⟨[0, 6, 7, 8, 9, 10], [(92, .sc .bool)], false⟩)) (.n .no .no (some ⟨[0, 6, 7, 9], [(8, .sc .bool)], false⟩)) none) none) none) none) .no none) .no none) none) .no (some ⟨[0, 6], [(7, .sc .str), (8, .sc .bool), (9, .sc (.int .i64))], false⟩)) .no none) none) .no none) none) none) none) none) none)
def c5 (s_0 : List UInt8) (S : St) (k : Value → St → Prop) : Prop :=
  newW S (.cells [.slice none 0 0] none false none) fun (b1 : Nat) (S1 : St) =>
  ifW (s_0 == []) (k (.tuple #[.pointer none, .int .i64 1, .int .i64 1, .int .i64 10]) S1)
  (loopW
  (fun (k1 : List UInt8 × Bool × Int → St → Prop) (x1 : List UInt8 × Bool × Int) (S2 : St) =>
  ifW (ltI x1.2.2 (↑(List.length s_0) : Int))
  (ptrW (some ⟨b1, 0, none⟩) fun (b2 b3 : Nat) =>
  ptrW (some ⟨b2, b3, none⟩) fun (b4 b5 : Nat) =>
  evV tS (loadV E0 S2 86 (.pointer (some ⟨b4, b5 + 0, none⟩))) fun (s1 : Sl) =>
  ifW (ltI 32 (wrapI .i64 ((↑s1.len : Int) + 1)))
  (k (.tuple #[.pointer none, .int .i64 (wrapI .i64 ((↑s1.len : Int) + 1)), .int .i64 1, .int .i64 10]) S2)
  (evV tU8 (indexD E0 9 (.string { data := List.toArray s_0 }) (.int .i64 x1.2.2)) fun (n1 : Int) =>
  ifW (eqI n1 10)
  (joinW
  (fun (t1 : Bool) (S3 : St) =>
  ifW t1
  (k
  (.tuple
  #[.pointer none, .int .i64 (wrapI .i64 ((↑s1.len : Int) + 1)), .int .i64 (wrapI .i64 ((↑(List.length x1.1) : Int) + 1)),
  .int .i64 10])
  S3)
  (ptrW (some ⟨b1, 0, none⟩) fun (b6 b7 : Nat) =>
  ptrW (some ⟨b6, b7, none⟩) fun (b8 b9 : Nat) =>
  evV tS (loadV E0 S3 86 (.pointer (some ⟨b8, b9 + 0, none⟩))) fun (s2 : Sl) =>
  newW S3 (.cells [.string { data := List.toArray x1.1 }] none false none) fun (b10 : Nat) (S4 : St) =>
  evP tS (appendD E0 S4 86 86 (.slice s2.a s2.len s2.cap) (.slice (some ⟨b10, 0, none⟩) 1 1)) fun (s3 : Sl) (S5 : St) =>
  ptrW (some ⟨b1, 0, none⟩) fun (b11 b12 : Nat) =>
  ptrW (some ⟨b11, b12, none⟩) fun (b13 b14 : Nat) =>
  evS (storeV E0 S5 86 (.pointer (some ⟨b13, b14 + 0, none⟩)) (.slice s3.a s3.len s3.cap)) fun (S6 : St) =>
  k1 ([], x1.2.1, wrapI .i64 (x1.2.2 + 1)) S6))
  fun (k2 : Bool → St → Prop) =>
  ifW (eqI (↑(List.length x1.1) : Int) 0) (k2 true S2)
  (ifW (ltI 1 (wrapI .i64 ((↑s1.len : Int) + 1)))
  (ptrW (some ⟨b1, 0, none⟩) fun (b15 b16 : Nat) =>
  ptrW (some ⟨b15, b16, none⟩) fun (b17 b18 : Nat) =>
  evV tS (loadV E0 S2 86 (.pointer (some ⟨b17, b18 + 0, none⟩))) fun (s4 : Sl) =>
  idxW s4.a s4.len 0 fun (b19 b20 : Nat) =>
  evV tT (loadV E0 S2 9 (.pointer (some ⟨b19, b20 + Int.toNat 0 * 1, none⟩))) fun (l1 : List UInt8) =>
  k2 (ltI (↑(List.length x1.1) : Int) (↑(List.length l1) : Int)) S2)
  (k2 false S2)))
  (joinW
  (fun (t2 : Bool) (S7 : St) =>
  ifW t2
  (k
  (.tuple
  #[.pointer none, .int .i64 (wrapI .i64 ((↑s1.len : Int) + 1)), .int .i64 (wrapI .i64 ((↑(List.length x1.1) : Int) + 1)),
  .int .i64 10])
  S7)
  (joinW
  (fun (t3 : Bool) (S8 : St) =>
  evV tT (sliceD E0 S8 9 (.string { data := List.toArray s_0 }) (some (.int .i64 x1.2.2)) (some (.int .i64 (wrapI .i64 (x1.2.2 + 1)))) none)
  fun (l2 : List UInt8) => evV tT (catD { data := List.toArray x1.1 } { data := List.toArray l2 }) fun (l3 : List UInt8) => k1 (l3, t3, wrapI .i64 (x1.2.2 + 1)) S8)
  fun (k3 : Bool → St → Prop) =>
  ifW x1.2.1 (k3 true S7) (evV tU8 (indexD E0 9 (.string { data := List.toArray s_0 }) (.int .i64 x1.2.2)) fun (n2 : Int) => k3 (!eqI n2 35) S7)))
  fun (k4 : Bool → St → Prop) =>
  evV tU8 (indexD E0 9 (.string { data := List.toArray s_0 }) (.int .i64 x1.2.2)) fun (n3 : Int) =>
  evC E0 tB 17 [.int .u8 n3] S2 fun (t4 : Bool) (S9 : St) =>
  ifW (!t4) (k4 true S9)
  (ifW (leI 32 (↑(List.length x1.1) : Int)) (k4 true S9)
  (ifW (ltI 1 (wrapI .i64 ((↑s1.len : Int) + 1)))
  (ptrW (some ⟨b1, 0, none⟩) fun (b21 b22 : Nat) =>
  ptrW (some ⟨b21, b22, none⟩) fun (b23 b24 : Nat) =>
  evV tS (loadV E0 S9 86 (.pointer (some ⟨b23, b24 + 0, none⟩))) fun (s5 : Sl) =>
  idxW s5.a s5.len 0 fun (b25 b26 : Nat) =>
  evV tT (loadV E0 S9 9 (.pointer (some ⟨b25, b26 + Int.toNat 0 * 1, none⟩))) fun (l4 : List UInt8) =>
  k4 (leI (↑(List.length l4) : Int) (↑(List.length x1.1) : Int)) S9)
  (k4 false S9))))))
  (ifW (!x1.1 == [])
  (ptrW (some ⟨b1, 0, none⟩) fun (b27 b28 : Nat) =>
  ptrW (some ⟨b27, b28, none⟩) fun (b29 b30 : Nat) =>
  evV tS (loadV E0 S2 86 (.pointer (some ⟨b29, b30 + 0, none⟩))) fun (s6 : Sl) =>
  k
  (.tuple
  #[.pointer none, .int .i64 (wrapI .i64 ((↑s6.len : Int) + 1)), .int .i64 (wrapI .i64 ((↑(List.length x1.1) : Int) + 1)), .int .i64 10])
  S2)
  (ifW (!x1.2.1) (k (.tuple #[.pointer none, .int .i64 0, .int .i64 0, .int .i64 10]) S2)
  (k (.tuple #[.pointer (some ⟨b1, 0, none⟩), .int .i64 0, .int .i64 0, .int .i64 0]) S2))))
  ([], false, 0) S1)
theorem w5 (s_0 : List UInt8) {S : St} {k : Value → St → Prop} (h : c5 s_0 S k) : WC E0 5 [.string ⟨s_0.toArray⟩] S k :=
  WC_den h5 rfl (by kernel_rfl) (by kernel_rfl : Try.f5.body = some (bodyOf Try.f5)) (by rw [show (denF E0 h5 Try.f5 (bodyOf Try.f5) [.string ⟨s_0.toArray⟩] S k) = c5 s_0 S k by kernel_rfl]; exact h)

/-! 6 wagonway/robot.Check -/
noncomputable def h6 : Hn := (.n .no (.n (.n (.r [(8, ⟨[1], [(10, .sc .bool)], false⟩), (5, ⟨[1], [(15, .sc .bool)], false⟩), (5, ⟨[1], [(20, .sc .bool)], false⟩), (5, ⟨[1], [(25, .sc .bool)], false⟩), (5, ⟨[1], [(30, .sc .bool)], false⟩), (6, ⟨[1], [(36, .sc .bool)], false⟩), (5, ⟨[1], [(41, .sc .bool)], false⟩)]) .no none) .no none) none)
def c6 (c_0 : Int × Int × Int × Int × Int × Int) (S : St) (k : Value → St → Prop) : Prop :=
  newW S
  (.cells
  [.int .i64 c_0.1, .int .i64 c_0.2.1, .int .i64 c_0.2.2.1, .int .u64 c_0.2.2.2.1, .int .u64 c_0.2.2.2.2.1,
  .int .u64 c_0.2.2.2.2.2]
  none false none)
  fun (b1 : Nat) (S1 : St) =>
  joinW
  (fun (t1 : Bool) (S2 : St) =>
  joinW
  (fun (t2 : Bool) (S3 : St) =>
  joinW
  (fun (t3 : Bool) (S4 : St) =>
  joinW
  (fun (t4 : Bool) (S5 : St) =>
  joinW
  (fun (t5 : Bool) (S6 : St) =>
  joinW
  (fun (t6 : Bool) (S7 : St) =>
  joinW
  (fun (t7 : Bool) (S8 : St) =>
  ifW t7 (k (.int .i64 200) S8)
  (ptrW (some ⟨b1, 0, none⟩) fun (b2 b3 : Nat) =>
  evV tU (loadV E0 S8 22 (.pointer (some ⟨b2, b3 + 5, none⟩))) fun (n1 : Int) =>
  ifW (ltI 4294967296 n1) (k (.int .i64 200) S8) (k (.int .i64 0) S8)))
  fun (k1 : Bool → St → Prop) =>
  ifW t6 (k1 true S7)
  (ptrW (some ⟨b1, 0, none⟩) fun (b4 b5 : Nat) => evV tU (loadV E0 S7 22 (.pointer (some ⟨b4, b5 + 5, none⟩))) fun (n2 : Int) => k1 (ltI n2 1) S7))
  fun (k2 : Bool → St → Prop) =>
  ifW t5 (k2 true S6)
  (ptrW (some ⟨b1, 0, none⟩) fun (b6 b7 : Nat) =>
  evV (TT.one (Ty.agg G23)) (loadV E0 S6 24 (.pointer (some ⟨b6, b7 + 3, none⟩))) fun (x1 : Int × Int) =>
  evC E0 tI 18 [sv G23 x1] S6 fun (n3 : Int) (S9 : St) => k2 (!eqI n3 0) S9))
  fun (k3 : Bool → St → Prop) =>
  ifW t4 (k3 true S5) (ptrW (some ⟨b1, 0, none⟩) fun (b8 b9 : Nat) => evV tI (loadV E0 S5 3 (.pointer (some ⟨b8, b9 + 2, none⟩))) fun (n4 : Int) => k3 (ltI 15 n4) S5))
  fun (k4 : Bool → St → Prop) =>
  ifW t3 (k4 true S4) (ptrW (some ⟨b1, 0, none⟩) fun (b10 b11 : Nat) => evV tI (loadV E0 S4 3 (.pointer (some ⟨b10, b11 + 2, none⟩))) fun (n5 : Int) => k4 (ltI n5 0) S4))
  fun (k5 : Bool → St → Prop) =>
  ifW t2 (k5 true S3) (ptrW (some ⟨b1, 0, none⟩) fun (b12 b13 : Nat) => evV tI (loadV E0 S3 3 (.pointer (some ⟨b12, b13 + 1, none⟩))) fun (n6 : Int) => k5 (ltI 4 n6) S3))
  fun (k6 : Bool → St → Prop) =>
  ifW t1 (k6 true S2) (ptrW (some ⟨b1, 0, none⟩) fun (b14 b15 : Nat) => evV tI (loadV E0 S2 3 (.pointer (some ⟨b14, b15 + 1, none⟩))) fun (n7 : Int) => k6 (ltI n7 1) S2))
  fun (k7 : Bool → St → Prop) =>
  ptrW (some ⟨b1, 0, none⟩) fun (b16 b17 : Nat) =>
  evV tI (loadV E0 S1 3 (.pointer (some ⟨b16, b17 + 0, none⟩))) fun (n8 : Int) =>
  ifW (ltI n8 1) (k7 true S1) (ptrW (some ⟨b1, 0, none⟩) fun (b18 b19 : Nat) => evV tI (loadV E0 S1 3 (.pointer (some ⟨b18, b19 + 0, none⟩))) fun (n9 : Int) => k7 (ltI 64 n9) S1)
theorem w6 (c_0 : Int × Int × Int × Int × Int × Int) {S : St} {k : Value → St → Prop} (h : c6 c_0 S k) : WC E0 6 [sv G25 c_0] S k :=
  WC_den h6 rfl (by kernel_rfl) (by kernel_rfl : Try.f6.body = some (bodyOf Try.f6)) (by rw [show (denF E0 h6 Try.f6 (bodyOf Try.f6) [sv G25 c_0] S k) = c6 c_0 S k by kernel_rfl]; exact h)

/-! 9 wagonway/wagonwayref20.May -/
noncomputable def h9 : Hn := (.n .no (.n (.r [(8, ⟨[1], [(10, .sc .bool)], false⟩), (5, ⟨[1], [(15, .sc .bool)], false⟩), (5, ⟨[1], [(20, .sc .bool)], false⟩), (5, ⟨[1], [(25, .sc .bool)], false⟩), (5, ⟨[1], [(30, .sc .bool)], false⟩), (8, ⟨[1], [(38, .sc .bool)], false⟩), (5, ⟨[1], [(43, .sc .bool)], false⟩)]) .no none) none)
def c9 (c_0 : Int × Int × Int × Int × Int × Int) (S : St) (k : Value → St → Prop) : Prop :=
  newW S
  (.cells
  [.int .i64 c_0.1, .int .i64 c_0.2.1, .int .i64 c_0.2.2.1, .int .u64 c_0.2.2.2.1, .int .u64 c_0.2.2.2.2.1,
  .int .u64 c_0.2.2.2.2.2]
  none false none)
  fun (b1 : Nat) (S1 : St) =>
  joinW
  (fun (t1 : Bool) (S2 : St) =>
  joinW
  (fun (t2 : Bool) (S3 : St) =>
  joinW
  (fun (t3 : Bool) (S4 : St) =>
  joinW
  (fun (t4 : Bool) (S5 : St) =>
  joinW
  (fun (t5 : Bool) (S6 : St) =>
  joinW
  (fun (t6 : Bool) (S7 : St) =>
  joinW
  (fun (t7 : Bool) (S8 : St) =>
  ifW t7
  (ptrW (some ⟨b1, 0, none⟩) fun (b2 b3 : Nat) =>
  evV tU (loadV E0 S8 22 (.pointer (some ⟨b2, b3 + 5, none⟩))) fun (n1 : Int) => k (.bool (leI n1 4294967296)) S8)
  (k (.bool false) S8))
  fun (k1 : Bool → St → Prop) =>
  ifW t6 (ptrW (some ⟨b1, 0, none⟩) fun (b4 b5 : Nat) => evV tU (loadV E0 S7 22 (.pointer (some ⟨b4, b5 + 5, none⟩))) fun (n2 : Int) => k1 (leI 1 n2) S7)
  (k1 false S7))
  fun (k2 : Bool → St → Prop) =>
  ifW t5
  (ptrW (some ⟨b1, 0, none⟩) fun (b6 b7 : Nat) =>
  evV tU (loadV E0 S6 22 (.pointer (some ⟨b6, b7 + 3, none⟩))) fun (n3 : Int) =>
  ptrW (some ⟨b1, 0, none⟩) fun (b8 b9 : Nat) =>
  evV tU (loadV E0 S6 22 (.pointer (some ⟨b8, b9 + 4, none⟩))) fun (n4 : Int) =>
  evC E0 tI 30 [.int .u64 n3, .int .u64 n4] S6 fun (n5 : Int) (S9 : St) => k2 (eqI n5 0) S9)
  (k2 false S6))
  fun (k3 : Bool → St → Prop) =>
  ifW t4 (ptrW (some ⟨b1, 0, none⟩) fun (b10 b11 : Nat) => evV tI (loadV E0 S5 3 (.pointer (some ⟨b10, b11 + 2, none⟩))) fun (n6 : Int) => k3 (leI n6 15) S5) (k3 false S5))
  fun (k4 : Bool → St → Prop) =>
  ifW t3 (ptrW (some ⟨b1, 0, none⟩) fun (b12 b13 : Nat) => evV tI (loadV E0 S4 3 (.pointer (some ⟨b12, b13 + 2, none⟩))) fun (n7 : Int) => k4 (leI 0 n7) S4) (k4 false S4))
  fun (k5 : Bool → St → Prop) =>
  ifW t2 (ptrW (some ⟨b1, 0, none⟩) fun (b14 b15 : Nat) => evV tI (loadV E0 S3 3 (.pointer (some ⟨b14, b15 + 1, none⟩))) fun (n8 : Int) => k5 (leI n8 4) S3) (k5 false S3))
  fun (k6 : Bool → St → Prop) =>
  ifW t1 (ptrW (some ⟨b1, 0, none⟩) fun (b16 b17 : Nat) => evV tI (loadV E0 S2 3 (.pointer (some ⟨b16, b17 + 1, none⟩))) fun (n9 : Int) => k6 (leI 1 n9) S2) (k6 false S2))
  fun (k7 : Bool → St → Prop) =>
  ptrW (some ⟨b1, 0, none⟩) fun (b18 b19 : Nat) =>
  evV tI (loadV E0 S1 3 (.pointer (some ⟨b18, b19 + 0, none⟩))) fun (n10 : Int) =>
  ifW (leI 1 n10) (ptrW (some ⟨b1, 0, none⟩) fun (b20 b21 : Nat) => evV tI (loadV E0 S1 3 (.pointer (some ⟨b20, b21 + 0, none⟩))) fun (n11 : Int) => k7 (leI n11 64) S1) (k7 false S1)
theorem w9 (c_0 : Int × Int × Int × Int × Int × Int) {S : St} {k : Value → St → Prop} (h : c9 c_0 S k) : WC E0 9 [sv G25 c_0] S k :=
  WC_den h9 rfl (by kernel_rfl) (by kernel_rfl : Try.f9.body = some (bodyOf Try.f9)) (by rw [show (denF E0 h9 Try.f9 (bodyOf Try.f9) [sv G25 c_0] S k) = c9 c_0 S k by kernel_rfl]; exact h)

/-! 13 strings.Lines -/
noncomputable def h13 : Hn := .no
def c13 (s_0 : List UInt8) (S : St) (k : Value → St → Prop) : Prop :=
  newW S (.cells [.string { data := List.toArray s_0 }] none false none) fun (b1 : Nat) (S1 : St) => k (.func (Fn.func 33) #[] #[.pointer (some ⟨b1, 0, none⟩)]) S1
theorem w13 (s_0 : List UInt8) {S : St} {k : Value → St → Prop} (h : c13 s_0 S k) : WC E0 13 [.string ⟨s_0.toArray⟩] S k :=
  WC_den h13 rfl (by kernel_rfl) (by kernel_rfl : Try.f13.body = some (bodyOf Try.f13)) (by rw [show (denF E0 h13 Try.f13 (bodyOf Try.f13) [.string ⟨s_0.toArray⟩] S k) = c13 s_0 S k by kernel_rfl]; exact h)

/-! 14 strings.TrimSuffix -/
noncomputable def h14 : Hn := .no
def c14 (s_0 : List UInt8) (suffix_1 : List UInt8) (S : St) (k : Value → St → Prop) : Prop :=
  evC E0 tT 35 [.string { data := List.toArray s_0 }, .string { data := List.toArray suffix_1 }] S fun (l1 : List UInt8) (S1 : St) => k (.string { data := List.toArray l1 }) S1
theorem w14 (s_0 : List UInt8) (suffix_1 : List UInt8) {S : St} {k : Value → St → Prop} (h : c14 s_0 suffix_1 S k) : WC E0 14 [.string ⟨s_0.toArray⟩, .string ⟨suffix_1.toArray⟩] S k :=
  WC_den h14 rfl (by kernel_rfl) (by kernel_rfl : Try.f14.body = some (bodyOf Try.f14)) (by rw [show (denF E0 h14 Try.f14 (bodyOf Try.f14) [.string ⟨s_0.toArray⟩, .string ⟨suffix_1.toArray⟩] S k) = c14 s_0 suffix_1 S k by kernel_rfl]; exact h)

/-! 15 wagonway/grid.row -/
noncomputable def h15 : Hn := (.n .no (.n .no (.n (.n .no (.n (.n .no .no (some ⟨[1, 5, 6, 14], [(15, .sc (.int .i64))], false⟩)) .no none) none) (.n (.n .no .no (some ⟨[5], [(43, .sc .bool)], false⟩)) .no none) none) none) none)
def c15 (l_0 : List UInt8) (cols_1 : Int) (S : St) (k : Value → St → Prop) : Prop :=
  evC E0 (TT.tup [Ty.sc Sc.str, Ty.sc Sc.bool]) 36 [.string { data := List.toArray l_0 }, .string { data := #[UInt8.ofNat 10] }] S fun (x1 : List UInt8 × Bool) (S1 : St) =>
  loopW
  (fun (k1 : Int → St → Prop) (n1 : Int) (S2 : St) =>
  ifW (ltI n1 (↑(List.length x1.1) : Int))
  (evV tU8 (indexD E0 9 (.string { data := List.toArray x1.1 }) (.int .i64 n1)) fun (n2 : Int) =>
  evC E0 tB 37 [.int .u8 n2] S2 fun (t1 : Bool) (S3 : St) =>
  ifW (!t1) (k (.int .i64 (wrapI .i64 (n1 + 1))) S3) (ifW (leI cols_1 n1) (k (.int .i64 (wrapI .i64 (n1 + 1))) S3) (k1 (wrapI .i64 (n1 + 1)) S3)))
  (joinW (fun (t2 : Bool) (S4 : St) => ifW t2 (k (.int .i64 (wrapI .i64 ((↑(List.length x1.1) : Int) + 1))) S4) (k (.int .i64 0) S4)) fun (k2 : Bool → St → Prop) =>
  ifW (!x1.2) (k2 true S2) (ifW (ltI (↑(List.length x1.1) : Int) cols_1) (k2 true S2) (k2 (eqI (↑(List.length x1.1) : Int) 0) S2))))
  0 S1
theorem w15 (l_0 : List UInt8) (cols_1 : Int) {S : St} {k : Value → St → Prop} (h : c15 l_0 cols_1 S k) : WC E0 15 [.string ⟨l_0.toArray⟩, .int .i64 cols_1] S k :=
  WC_den h15 rfl (by kernel_rfl) (by kernel_rfl : Try.f15.body = some (bodyOf Try.f15)) (by rw [show (denF E0 h15 Try.f15 (bodyOf Try.f15) [.string ⟨l_0.toArray⟩, .int .i64 cols_1] S k) = c15 l_0 cols_1 S k by kernel_rfl]; exact h)

/-! 16 (*wagonway/grid.Map).All -/
noncomputable def h16 : Hn := (.n .no (.n .no (.n .no (.n (.n .no (.n (.n .no .no (some ⟨[0, 11], [(3, .sc .sl), (12, .sc (.int .i64))], false⟩)) .no none) none) .no none) none) none) none)
def c16 (m_0 : Option Addr) (S : St) (k : Value → St → Prop) : Prop :=
  evC E0 tB 38 [.pointer m_0] S fun (t1 : Bool) (S1 : St) =>
  ifW t1 (k (.slice none 0 0) S1)
  (ptrW m_0 fun (b1 b2 : Nat) =>
  ptrW (some ⟨b1, b2, none⟩) fun (b3 b4 : Nat) =>
  evV tS (loadV E0 S1 64 (.pointer (some ⟨b3, b4 + 2, none⟩))) fun (s1 : Sl) =>
  loopW
  (fun (k1 : Sl × Int → St → Prop) (x1 : Sl × Int) (S2 : St) =>
  ifW (ltI x1.2 (↑s1.len : Int))
  (evC E0 tB 39 [.pointer m_0, .int .i64 x1.2] S2 fun (t2 : Bool) (S3 : St) =>
  ifW t2
  (newW S3 (.cells [.int .i64 x1.2] none false none) fun (b5 : Nat) (S4 : St) =>
  evP tS (appendD E0 S4 84 84 (.slice x1.1.a x1.1.len x1.1.cap) (.slice (some ⟨b5, 0, none⟩) 1 1)) fun (s2 : Sl) (S5 : St) =>
  k1 ({ a := s2.a, len := s2.len, cap := s2.cap }, wrapI .i64 (x1.2 + 1)) S5)
  (k1 ({ a := x1.1.a, len := x1.1.len, cap := x1.1.cap }, wrapI .i64 (x1.2 + 1)) S3))
  (k (.slice x1.1.a x1.1.len x1.1.cap) S2))
  ({ a := none, len := 0, cap := 0 }, 0) S1)
theorem w16 (m_0 : Option Addr) {S : St} {k : Value → St → Prop} (h : c16 m_0 S k) : WC E0 16 [.pointer m_0] S k :=
  WC_den h16 rfl (by kernel_rfl) (by kernel_rfl : Try.f16.body = some (bodyOf Try.f16)) (by rw [show (denF E0 h16 Try.f16 (bodyOf Try.f16) [.pointer m_0] S k) = c16 m_0 S k by kernel_rfl]; exact h)

/-! 17 wagonway/wagonwayref01.cell -/
noncomputable def h17 : Hn := .no
def c17 (c_0 : Int) (S : St) (k : Value → St → Prop) : Prop :=
  ifW (eqI c_0 35) (k (.bool true) S)
  (ifW (eqI c_0 46) (k (.bool true) S) (ifW (eqI c_0 60) (k (.bool true) S) (ifW (eqI c_0 62) (k (.bool true) S) (ifW (eqI c_0 94) (k (.bool true) S) (k (.bool (eqI c_0 118)) S)))))
theorem w17 (c_0 : Int) {S : St} {k : Value → St → Prop} (h : c17 c_0 S k) : WC E0 17 [.int .u8 c_0] S k :=
  WC_den h17 rfl (by kernel_rfl) (by kernel_rfl : Try.f17.body = some (bodyOf Try.f17)) (by rw [show (denF E0 h17 Try.f17 (bodyOf Try.f17) [.int .u8 c_0] S k) = c17 c_0 S k by kernel_rfl]; exact h)

/-! 18 wagonway/alarm.Check -/
noncomputable def h18 : Hn := .no
def c18 (r_0 : Int × Int) (S : St) (k : Value → St → Prop) : Prop :=
  newW S (.cells [.int .u64 r_0.1, .int .u64 r_0.2] none false none) fun (b1 : Nat) (S1 : St) =>
  ptrW (some ⟨b1, 0, none⟩) fun (b2 b3 : Nat) =>
  evV tU (loadV E0 S1 22 (.pointer (some ⟨b2, b3 + 0, none⟩))) fun (n1 : Int) =>
  ifW (ltI n1 1) (k (.int .i64 90) S1)
  (ptrW (some ⟨b1, 0, none⟩) fun (b4 b5 : Nat) =>
  evV tU (loadV E0 S1 22 (.pointer (some ⟨b4, b5 + 0, none⟩))) fun (n2 : Int) =>
  ptrW (some ⟨b1, 0, none⟩) fun (b6 b7 : Nat) =>
  evV tU (loadV E0 S1 22 (.pointer (some ⟨b6, b7 + 1, none⟩))) fun (n3 : Int) =>
  ifW (ltI n3 n2) (k (.int .i64 90) S1)
  (ptrW (some ⟨b1, 0, none⟩) fun (b8 b9 : Nat) =>
  evV tU (loadV E0 S1 22 (.pointer (some ⟨b8, b9 + 1, none⟩))) fun (n4 : Int) => ifW (ltI 4294967296 n4) (k (.int .i64 90) S1) (k (.int .i64 0) S1)))
theorem w18 (r_0 : Int × Int) {S : St} {k : Value → St → Prop} (h : c18 r_0 S k) : WC E0 18 [sv G23 r_0] S k :=
  WC_den h18 rfl (by kernel_rfl) (by kernel_rfl : Try.f18.body = some (bodyOf Try.f18)) (by rw [show (denF E0 h18 Try.f18 (bodyOf Try.f18) [sv G23 r_0] S k) = c18 r_0 S k by kernel_rfl]; exact h)

/-! 21 (*wagonway/grid.Map).Cells -/
noncomputable def h21 : Hn := .no
def c21 (m_0 : Option Addr) (S : St) (k : Value → St → Prop) : Prop :=
  evC E0 tI 46 [.pointer m_0] S fun (n1 : Int) (S1 : St) => evC E0 tI 47 [.pointer m_0] S1 fun (n2 : Int) (S2 : St) => k (.int .i64 (wrapI .i64 (n1 * n2))) S2
theorem w21 (m_0 : Option Addr) {S : St} {k : Value → St → Prop} (h : c21 m_0 S k) : WC E0 21 [.pointer m_0] S k :=
  WC_den h21 rfl (by kernel_rfl) (by kernel_rfl : Try.f21.body = some (bodyOf Try.f21)) (by rw [show (denF E0 h21 Try.f21 (bodyOf Try.f21) [.pointer m_0] S k) = c21 m_0 S k by kernel_rfl]; exact h)

/-! 27 (*wagonway/wagonwayref01.Map).Cells -/
noncomputable def h27 : Hn := .no
def c27 (m_0 : Option Addr) (S : St) (k : Value → St → Prop) : Prop :=
  ptrW m_0 fun (b1 b2 : Nat) =>
  ptrW (some ⟨b1, b2, none⟩) fun (b3 b4 : Nat) =>
  evV tS (loadV E0 S 86 (.pointer (some ⟨b3, b4 + 0, none⟩))) fun (s1 : Sl) =>
  ptrW m_0 fun (b5 b6 : Nat) =>
  ptrW (some ⟨b5, b6, none⟩) fun (b7 b8 : Nat) =>
  evV tS (loadV E0 S 86 (.pointer (some ⟨b7, b8 + 0, none⟩))) fun (s2 : Sl) =>
  idxW s2.a s2.len 0 fun (b9 b10 : Nat) =>
  evV tT (loadV E0 S 9 (.pointer (some ⟨b9, b10 + Int.toNat 0 * 1, none⟩))) fun (l1 : List UInt8) =>
  k (.int .i64 (wrapI .i64 ((↑s1.len : Int) * (↑(List.length l1) : Int)))) S
theorem w27 (m_0 : Option Addr) {S : St} {k : Value → St → Prop} (h : c27 m_0 S k) : WC E0 27 [.pointer m_0] S k :=
  WC_den h27 rfl (by kernel_rfl) (by kernel_rfl : Try.f27.body = some (bodyOf Try.f27)) (by rw [show (denF E0 h27 Try.f27 (bodyOf Try.f27) [.pointer m_0] S k) = c27 m_0 S k by kernel_rfl]; exact h)

/-! 30 wagonway/wagonwayref09.Check -/
noncomputable def h30 : Hn := .no
def c30 (base_0 : Int) (most_1 : Int) (S : St) (k : Value → St → Prop) : Prop :=
  ifW (eqI base_0 0) (k (.int .i64 90) S) (ifW (ltI most_1 base_0) (k (.int .i64 90) S) (ifW (ltI 4294967296 most_1) (k (.int .i64 90) S) (k (.int .i64 0) S)))
theorem w30 (base_0 : Int) (most_1 : Int) {S : St} {k : Value → St → Prop} (h : c30 base_0 most_1 S k) : WC E0 30 [.int .u64 base_0, .int .u64 most_1] S k :=
  WC_den h30 rfl (by kernel_rfl) (by kernel_rfl : Try.f30.body = some (bodyOf Try.f30)) (by rw [show (denF E0 h30 Try.f30 (bodyOf Try.f30) [.int .u64 base_0, .int .u64 most_1] S k) = c30 base_0 most_1 S k by kernel_rfl]; exact h)

/-! 31 (*wagonway/robot.Robot).none -/
noncomputable def h31 : Hn := .no
def c31 (r_0 : Option Addr) (S : St) (k : Value → St → Prop) : Prop :=
  eqW E0 S 39 (.pointer r_0) (.pointer none) fun (t1 : Bool) =>
  ifW t1 (k (.bool true) S)
  (ptrW r_0 fun (b1 b2 : Nat) =>
  ptrW (some ⟨b1, b2, none⟩) fun (b3 b4 : Nat) =>
  evV tP (loadV E0 S 29 (.pointer (some ⟨b3, b4 + 6, none⟩))) fun (p1 : Option Addr) => eqW E0 S 29 (.pointer p1) (.pointer none) fun (t2 : Bool) => k (.bool t2) S)
theorem w31 (r_0 : Option Addr) {S : St} {k : Value → St → Prop} (h : c31 r_0 S k) : WC E0 31 [.pointer r_0] S k :=
  WC_den h31 rfl (by kernel_rfl) (by kernel_rfl : Try.f31.body = some (bodyOf Try.f31)) (by rw [show (denF E0 h31 Try.f31 (bodyOf Try.f31) [.pointer r_0] S k) = c31 r_0 S k by kernel_rfl]; exact h)

/-! 33 strings.Lines$1 -/
noncomputable def h33 : Hn := (.n (.n (.n .no (.n (.n .no (.n .no .no (some ⟨[0, 1], [(3, .sc .str)], false⟩)) none) .no none) none) .no (some ⟨[0, 1], [], false⟩)) .no none)
def c33 (yield_0 : Value) (c1 : Nat) (S : St) (k : Value → St → Prop) : Prop :=
  loopW
  (fun (k1 : PUnit → St → Prop) (x1 : PUnit) (S1 : St) =>
  evV tT (loadV E0 S1 9 (.pointer (some ⟨c1, 0, none⟩))) fun (l1 : List UInt8) =>
  ifW (ltI 0 (↑(List.length l1) : Int))
  (joinW (fun (l2 : List UInt8) (S2 : St) => evY E0 tB yield_0 [.string { data := List.toArray l2 }] S2 fun (t1 : Bool) (S3 : St) => ifW (!t1) (k (.tuple #[]) S3) (k1 PUnit.unit S3))
  fun (k2 : List UInt8 → St → Prop) =>
  evV tT (loadV E0 S1 9 (.pointer (some ⟨c1, 0, none⟩))) fun (l3 : List UInt8) =>
  evC E0 tI 34 [.string { data := List.toArray l3 }, .int .u8 10] S1 fun (n1 : Int) (S4 : St) =>
  ifW (leI 0 n1)
  (evV tT (loadV E0 S4 9 (.pointer (some ⟨c1, 0, none⟩))) fun (l4 : List UInt8) =>
  evV tT (sliceD E0 S4 9 (.string { data := List.toArray l4 }) none (some (.int .i64 (wrapI .i64 (n1 + 1)))) none) fun (l5 : List UInt8) =>
  evV tT (loadV E0 S4 9 (.pointer (some ⟨c1, 0, none⟩))) fun (l6 : List UInt8) =>
  evV tT (sliceD E0 S4 9 (.string { data := List.toArray l6 }) (some (.int .i64 (wrapI .i64 (n1 + 1)))) none none) fun (l7 : List UInt8) =>
  evS (storeV E0 S4 9 (.pointer (some ⟨c1, 0, none⟩)) (.string { data := List.toArray l7 })) fun (S5 : St) => k2 l5 S5)
  (evV tT (loadV E0 S4 9 (.pointer (some ⟨c1, 0, none⟩))) fun (l8 : List UInt8) =>
  evS (storeV E0 S4 9 (.pointer (some ⟨c1, 0, none⟩)) (.string { data := #[] })) fun (S6 : St) => k2 l8 S6))
  (k (.tuple #[]) S1))
  PUnit.unit S
theorem w33 (yield_0 : Value) (c1 : Nat) {S : St} {k : Value → St → Prop} (h : c33 yield_0 c1 S k) : WC E0 33 [yield_0, .pointer (some ⟨c1, 0, none⟩)] S k :=
  WC_den h33 rfl (by kernel_rfl) (by kernel_rfl : Try.f33.body = some (bodyOf Try.f33)) (by rw [show (denF E0 h33 Try.f33 (bodyOf Try.f33) [yield_0, .pointer (some ⟨c1, 0, none⟩)] S k) = c33 yield_0 c1 S k by kernel_rfl]; exact h)

/-! 34 strings.IndexByte -/
noncomputable def h34 : Hn := .no
def c34 (s_0 : List UInt8) (c_1 : Int) (S : St) (k : Value → St → Prop) : Prop :=
  evC E0 tI 56 [.string { data := List.toArray s_0 }, .int .u8 c_1] S fun (n1 : Int) (S1 : St) => k (.int .i64 n1) S1
theorem w34 (s_0 : List UInt8) (c_1 : Int) {S : St} {k : Value → St → Prop} (h : c34 s_0 c_1 S k) : WC E0 34 [.string ⟨s_0.toArray⟩, .int .u8 c_1] S k :=
  WC_den h34 rfl (by kernel_rfl) (by kernel_rfl : Try.f34.body = some (bodyOf Try.f34)) (by rw [show (denF E0 h34 Try.f34 (bodyOf Try.f34) [.string ⟨s_0.toArray⟩, .int .u8 c_1] S k) = c34 s_0 c_1 S k by kernel_rfl]; exact h)

/-! 35 internal/stringslite.TrimSuffix -/
noncomputable def h35 : Hn := .no
def c35 (s_0 : List UInt8) (suffix_1 : List UInt8) (S : St) (k : Value → St → Prop) : Prop :=
  evC E0 tB 57 [.string { data := List.toArray s_0 }, .string { data := List.toArray suffix_1 }] S fun (t1 : Bool) (S1 : St) =>
  ifW t1
  (evV tT (sliceD E0 S1 9 (.string { data := List.toArray s_0 }) none (some (.int .i64 (wrapI .i64 ((↑(List.length s_0) : Int) - (↑(List.length suffix_1) : Int))))) none)
  fun (l1 : List UInt8) => k (.string { data := List.toArray l1 }) S1)
  (k (.string { data := List.toArray s_0 }) S1)
theorem w35 (s_0 : List UInt8) (suffix_1 : List UInt8) {S : St} {k : Value → St → Prop} (h : c35 s_0 suffix_1 S k) : WC E0 35 [.string ⟨s_0.toArray⟩, .string ⟨suffix_1.toArray⟩] S k :=
  WC_den h35 rfl (by kernel_rfl) (by kernel_rfl : Try.f35.body = some (bodyOf Try.f35)) (by rw [show (denF E0 h35 Try.f35 (bodyOf Try.f35) [.string ⟨s_0.toArray⟩, .string ⟨suffix_1.toArray⟩] S k) = c35 s_0 suffix_1 S k by kernel_rfl]; exact h)

/-! 36 strings.CutSuffix -/
noncomputable def h36 : Hn := .no
def c36 (s_0 : List UInt8) (suffix_1 : List UInt8) (S : St) (k : Value → St → Prop) : Prop :=
  evC E0 (TT.tup [Ty.sc Sc.str, Ty.sc Sc.bool]) 58 [.string { data := List.toArray s_0 }, .string { data := List.toArray suffix_1 }] S fun (x1 : List UInt8 × Bool) (S1 : St) =>
  k (.tuple #[.string { data := List.toArray x1.1 }, .bool x1.2]) S1
theorem w36 (s_0 : List UInt8) (suffix_1 : List UInt8) {S : St} {k : Value → St → Prop} (h : c36 s_0 suffix_1 S k) : WC E0 36 [.string ⟨s_0.toArray⟩, .string ⟨suffix_1.toArray⟩] S k :=
  WC_den h36 rfl (by kernel_rfl) (by kernel_rfl : Try.f36.body = some (bodyOf Try.f36)) (by rw [show (denF E0 h36 Try.f36 (bodyOf Try.f36) [.string ⟨s_0.toArray⟩, .string ⟨suffix_1.toArray⟩] S k) = c36 s_0 suffix_1 S k by kernel_rfl]; exact h)

/-! 37 wagonway/grid.known -/
noncomputable def h37 : Hn := .no
def c37 (c_0 : Int) (S : St) (k : Value → St → Prop) : Prop :=
  evC E0 tI 34 [.string { data := #[UInt8.ofNat 35, UInt8.ofNat 46, UInt8.ofNat 60, UInt8.ofNat 62, UInt8.ofNat 94, UInt8.ofNat 118] }, .int .u8 c_0] S fun (n1 : Int) (S1 : St) =>
  k (.bool (leI 0 n1)) S1
theorem w37 (c_0 : Int) {S : St} {k : Value → St → Prop} (h : c37 c_0 S k) : WC E0 37 [.int .u8 c_0] S k :=
  WC_den h37 rfl (by kernel_rfl) (by kernel_rfl : Try.f37.body = some (bodyOf Try.f37)) (by rw [show (denF E0 h37 Try.f37 (bodyOf Try.f37) [.int .u8 c_0] S k) = c37 c_0 S k by kernel_rfl]; exact h)

/-! 38 (*wagonway/grid.Map).none -/
noncomputable def h38 : Hn := .no
def c38 (m_0 : Option Addr) (S : St) (k : Value → St → Prop) : Prop :=
  eqW E0 S 29 (.pointer m_0) (.pointer none) fun (t1 : Bool) =>
  ifW t1 (k (.bool true) S)
  (ptrW m_0 fun (b1 b2 : Nat) => ptrW (some ⟨b1, b2, none⟩) fun (b3 b4 : Nat) => evV tI (loadV E0 S 3 (.pointer (some ⟨b3, b4 + 0, none⟩))) fun (n1 : Int) => k (.bool (eqI n1 0)) S)
theorem w38 (m_0 : Option Addr) {S : St} {k : Value → St → Prop} (h : c38 m_0 S k) : WC E0 38 [.pointer m_0] S k :=
  WC_den h38 rfl (by kernel_rfl) (by kernel_rfl : Try.f38.body = some (bodyOf Try.f38)) (by rw [show (denF E0 h38 Try.f38 (bodyOf Try.f38) [.pointer m_0] S k) = c38 m_0 S k by kernel_rfl]; exact h)

/-! 39 (*wagonway/grid.Map).Free -/
noncomputable def h39 : Hn := .no
def c39 (m_0 : Option Addr) (cell_1 : Int) (S : St) (k : Value → St → Prop) : Prop :=
  evC E0 tB 59 [.pointer m_0, .int .i64 cell_1] S fun (t1 : Bool) (S1 : St) =>
  ifW t1
  (ptrW m_0 fun (b1 b2 : Nat) =>
  ptrW (some ⟨b1, b2, none⟩) fun (b3 b4 : Nat) =>
  evV tS (loadV E0 S1 64 (.pointer (some ⟨b3, b4 + 2, none⟩))) fun (s1 : Sl) =>
  idxW s1.a s1.len cell_1 fun (b5 b6 : Nat) => evV tU8 (loadV E0 S1 5 (.pointer (some ⟨b5, b6 + Int.toNat cell_1 * 1, none⟩))) fun (n1 : Int) => k (.bool !eqI n1 35) S1)
  (k (.bool false) S1)
theorem w39 (m_0 : Option Addr) (cell_1 : Int) {S : St} {k : Value → St → Prop} (h : c39 m_0 cell_1 S k) : WC E0 39 [.pointer m_0, .int .i64 cell_1] S k :=
  WC_den h39 rfl (by kernel_rfl) (by kernel_rfl : Try.f39.body = some (bodyOf Try.f39)) (by rw [show (denF E0 h39 Try.f39 (bodyOf Try.f39) [.pointer m_0, .int .i64 cell_1] S k) = c39 m_0 cell_1 S k by kernel_rfl]; exact h)

/-! 46 (*wagonway/grid.Map).Rows -/
noncomputable def h46 : Hn := .no
def c46 (m_0 : Option Addr) (S : St) (k : Value → St → Prop) : Prop :=
  evC E0 tB 38 [.pointer m_0] S fun (t1 : Bool) (S1 : St) =>
  ifW t1 (k (.int .i64 0) S1)
  (ptrW m_0 fun (b1 b2 : Nat) =>
  ptrW (some ⟨b1, b2, none⟩) fun (b3 b4 : Nat) => evV tI (loadV E0 S1 3 (.pointer (some ⟨b3, b4 + 0, none⟩))) fun (n1 : Int) => k (.int .i64 n1) S1)
theorem w46 (m_0 : Option Addr) {S : St} {k : Value → St → Prop} (h : c46 m_0 S k) : WC E0 46 [.pointer m_0] S k :=
  WC_den h46 rfl (by kernel_rfl) (by kernel_rfl : Try.f46.body = some (bodyOf Try.f46)) (by rw [show (denF E0 h46 Try.f46 (bodyOf Try.f46) [.pointer m_0] S k) = c46 m_0 S k by kernel_rfl]; exact h)

/-! 47 (*wagonway/grid.Map).Cols -/
noncomputable def h47 : Hn := .no
def c47 (m_0 : Option Addr) (S : St) (k : Value → St → Prop) : Prop :=
  evC E0 tB 38 [.pointer m_0] S fun (t1 : Bool) (S1 : St) =>
  ifW t1 (k (.int .i64 0) S1)
  (ptrW m_0 fun (b1 b2 : Nat) =>
  ptrW (some ⟨b1, b2, none⟩) fun (b3 b4 : Nat) => evV tI (loadV E0 S1 3 (.pointer (some ⟨b3, b4 + 1, none⟩))) fun (n1 : Int) => k (.int .i64 n1) S1)
theorem w47 (m_0 : Option Addr) {S : St} {k : Value → St → Prop} (h : c47 m_0 S k) : WC E0 47 [.pointer m_0] S k :=
  WC_den h47 rfl (by kernel_rfl) (by kernel_rfl : Try.f47.body = some (bodyOf Try.f47)) (by rw [show (denF E0 h47 Try.f47 (bodyOf Try.f47) [.pointer m_0] S k) = c47 m_0 S k by kernel_rfl]; exact h)

/-! 57 internal/stringslite.HasSuffix -/
noncomputable def h57 : Hn := .no
def c57 (s_0 : List UInt8) (suffix_1 : List UInt8) (S : St) (k : Value → St → Prop) : Prop :=
  ifW (leI (↑(List.length suffix_1) : Int) (↑(List.length s_0) : Int))
  (evV tT (sliceD E0 S 9 (.string { data := List.toArray s_0 }) (some (.int .i64 (wrapI .i64 ((↑(List.length s_0) : Int) - (↑(List.length suffix_1) : Int))))) none none) fun (l1 : List UInt8) =>
  k (.bool (l1 == suffix_1)) S)
  (k (.bool false) S)
theorem w57 (s_0 : List UInt8) (suffix_1 : List UInt8) {S : St} {k : Value → St → Prop} (h : c57 s_0 suffix_1 S k) : WC E0 57 [.string ⟨s_0.toArray⟩, .string ⟨suffix_1.toArray⟩] S k :=
  WC_den h57 rfl (by kernel_rfl) (by kernel_rfl : Try.f57.body = some (bodyOf Try.f57)) (by rw [show (denF E0 h57 Try.f57 (bodyOf Try.f57) [.string ⟨s_0.toArray⟩, .string ⟨suffix_1.toArray⟩] S k) = c57 s_0 suffix_1 S k by kernel_rfl]; exact h)

/-! 58 internal/stringslite.CutSuffix -/
noncomputable def h58 : Hn := .no
def c58 (s_0 : List UInt8) (suffix_1 : List UInt8) (S : St) (k : Value → St → Prop) : Prop :=
  evC E0 tB 57 [.string { data := List.toArray s_0 }, .string { data := List.toArray suffix_1 }] S fun (t1 : Bool) (S1 : St) =>
  ifW (!t1) (k (.tuple #[.string { data := List.toArray s_0 }, .bool false]) S1)
  (evV tT (sliceD E0 S1 9 (.string { data := List.toArray s_0 }) none (some (.int .i64 (wrapI .i64 ((↑(List.length s_0) : Int) - (↑(List.length suffix_1) : Int))))) none)
  fun (l1 : List UInt8) => k (.tuple #[.string { data := List.toArray l1 }, .bool true]) S1)
theorem w58 (s_0 : List UInt8) (suffix_1 : List UInt8) {S : St} {k : Value → St → Prop} (h : c58 s_0 suffix_1 S k) : WC E0 58 [.string ⟨s_0.toArray⟩, .string ⟨suffix_1.toArray⟩] S k :=
  WC_den h58 rfl (by kernel_rfl) (by kernel_rfl : Try.f58.body = some (bodyOf Try.f58)) (by rw [show (denF E0 h58 Try.f58 (bodyOf Try.f58) [.string ⟨s_0.toArray⟩, .string ⟨suffix_1.toArray⟩] S k) = c58 s_0 suffix_1 S k by kernel_rfl]; exact h)

/-! 59 (*wagonway/grid.Map).is -/
noncomputable def h59 : Hn := .no
def c59 (m_0 : Option Addr) (cell_1 : Int) (S : St) (k : Value → St → Prop) : Prop :=
  evC E0 tB 38 [.pointer m_0] S fun (t1 : Bool) (S1 : St) =>
  ifW (!t1)
  (ifW (leI 0 cell_1)
  (ptrW m_0 fun (b1 b2 : Nat) =>
  ptrW (some ⟨b1, b2, none⟩) fun (b3 b4 : Nat) => evV tS (loadV E0 S1 64 (.pointer (some ⟨b3, b4 + 2, none⟩))) fun (s1 : Sl) => k (.bool (ltI cell_1 (↑s1.len : Int))) S1)
  (k (.bool false) S1))
  (k (.bool false) S1)
theorem w59 (m_0 : Option Addr) (cell_1 : Int) {S : St} {k : Value → St → Prop} (h : c59 m_0 cell_1 S k) : WC E0 59 [.pointer m_0, .int .i64 cell_1] S k :=
  WC_den h59 rfl (by kernel_rfl) (by kernel_rfl : Try.f59.body = some (bodyOf Try.f59)) (by rw [show (denF E0 h59 Try.f59 (bodyOf Try.f59) [.pointer m_0, .int .i64 cell_1] S k) = c59 m_0 cell_1 S k by kernel_rfl]; exact h)

end
end Go.Proofs.Ytgdijpcopdgapaa

/- The conditions of functions (printed by GenDen.lean). -/
namespace Go.Proofs.Ytgdijpcopdgapaa
open Go Go.Proofs.Ytgdijpcopdgapaa.D
set_option linter.unusedVariables false
noncomputable section

/-! 3 wagonway/wagonwaylaw20.RobotMakes -/
noncomputable def h3 : Hn := .no
def c3 (self_0 : Int) (s_1 : List UInt8) (c_2 : Int × Int × Int × Int × Int × Int) (epoch_3 : Int) (l_4 : Sl) (S : St) (k : Value → St → Prop) : Prop :=
  newW S
  (.cells
  [.int .i64 c_2.1, .int .i64 c_2.2.1, .int .i64 c_2.2.2.1, .int .u64 c_2.2.2.2.1, .int .u64 c_2.2.2.2.2.1,
  .int .u64 c_2.2.2.2.2.2]
  none false none)
  fun (b1 : Nat) (S1 : St) =>
  ifW (ltI 100 (↑(List.length s_1) : Int)) (k (.bool true) S1)
  (ifW (ltI 60 (↑l_4.len : Int)) (k (.bool true) S1)
  (evC E0 (TT.tup [Ty.sc Sc.ptr, Ty.sc (Sc.int .i64), Ty.sc (Sc.int .i64), Ty.sc (Sc.int .i64)]) 4 [.string { data := List.toArray s_1 }] S1
  fun (x1 : Option Addr × Int × Int × Int) (S2 : St) =>
  evC E0 (TT.tup [Ty.sc Sc.ptr, Ty.sc (Sc.int .i64), Ty.sc (Sc.int .i64), Ty.sc (Sc.int .i64)]) 5 [.string { data := List.toArray s_1 }] S2
  fun (x2 : Option Addr × Int × Int × Int) (S3 : St) =>
  ifW (!eqI x1.2.2.2 0) (k (.bool (eqI x1.2.2.2 x2.2.2.2)) S3)
  (ifW (!eqI x2.2.2.2 0) (k (.bool (eqI x1.2.2.2 x2.2.2.2)) S3)
  (ptrW (some ⟨b1, 0, none⟩) fun (b2 b3 : Nat) =>
  evV tI (loadV E0 S3 3 (.pointer (some ⟨b2, b3 + 0, none⟩))) fun (n1 : Int) =>
  ptrW (some ⟨b1, 0, none⟩) fun (b4 b5 : Nat) =>
  evV tI (loadV E0 S3 3 (.pointer (some ⟨b4, b5 + 1, none⟩))) fun (n2 : Int) =>
  ptrW (some ⟨b1, 0, none⟩) fun (b6 b7 : Nat) =>
  evV tI (loadV E0 S3 3 (.pointer (some ⟨b6, b7 + 2, none⟩))) fun (n3 : Int) =>
  ptrW (some ⟨b1, 0, none⟩) fun (b8 b9 : Nat) =>
  ptrW (some ⟨b8, b9 + 3, none⟩) fun (b10 b11 : Nat) =>
  evV tU (loadV E0 S3 22 (.pointer (some ⟨b10, b11 + 0, none⟩))) fun (n4 : Int) =>
  ptrW (some ⟨b1, 0, none⟩) fun (b12 b13 : Nat) =>
  ptrW (some ⟨b12, b13 + 3, none⟩) fun (b14 b15 : Nat) =>
  evV tU (loadV E0 S3 22 (.pointer (some ⟨b14, b15 + 1, none⟩))) fun (n5 : Int) =>
  ptrW (some ⟨b1, 0, none⟩) fun (b16 b17 : Nat) =>
  evV tU (loadV E0 S3 22 (.pointer (some ⟨b16, b17 + 5, none⟩))) fun (n6 : Int) =>
  newW S3
  (.cells [.int .i64 0, .int .i64 0, .int .i64 0, .int .u64 0, .int .u64 0, .int .u64 0] none false
  none)
  fun (b18 : Nat) (S4 : St) =>
  evS
  (storeV E0 S4 37 (.pointer (some ⟨b18, 0, none⟩))
  (.agg #[.int .i64 n1, .int .i64 n2, .int .i64 n3, .int .u64 n4, .int .u64 n5, .int .u64 n6]))
  fun (S5 : St) =>
  evV (TT.one (Ty.agg G25)) (loadV E0 S5 26 (.pointer (some ⟨b1, 0, none⟩))) fun (x3 : Int × Int × Int × Int × Int × Int) =>
  evC E0 tI 6 [sv G25 x3] S5 fun (n7 : Int) (S6 : St) =>
  evV (TT.one (Ty.agg G25)) (loadV E0 S6 26 (.pointer (some ⟨b1, 0, none⟩))) fun (x4 : Int × Int × Int × Int × Int × Int) =>
  evC E0 (TT.tup [Ty.sc Sc.ptr, Ty.sc (Sc.int .i64)]) 7
  [.int .i64 self_0, .pointer x1.1, sv G25 x4, .int .u32 epoch_3, .slice l_4.a l_4.len l_4.cap] S6
  fun (x5 : Option Addr × Int) (S7 : St) =>
  evV (TT.one (Ty.agg G25)) (loadV E0 S7 37 (.pointer (some ⟨b18, 0, none⟩))) fun (x6 : Int × Int × Int × Int × Int × Int) =>
  evC E0 (TT.tup [Ty.sc Sc.ptr, Ty.sc (Sc.int .i64)]) 8
  [.int .i64 self_0, .pointer x2.1, sv G25 x6, .int .u32 epoch_3, .slice l_4.a l_4.len l_4.cap] S7
  fun (x7 : Option Addr × Int) (S8 : St) =>
  evV (TT.one (Ty.agg G25)) (loadV E0 S8 37 (.pointer (some ⟨b18, 0, none⟩))) fun (x8 : Int × Int × Int × Int × Int × Int) =>
  evC E0 tB 9 [sv G25 x8] S8 fun (t1 : Bool) (S9 : St) =>
  eqW E0 S9 4 (.bool (eqI n7 0)) (.bool t1) fun (t2 : Bool) =>
  ifW (!t2) (k (.bool false) S9)
  (ifW (!eqI x5.2 x7.2) (k (.bool false) S9)
  (eqW E0 S9 39 (.pointer x5.1) (.pointer none) fun (t3 : Bool) =>
  eqW E0 S9 4 (.bool t3) (.bool !eqI x7.2 0) fun (t4 : Bool) =>
  ifW (!t4) (k (.bool false) S9)
  (ifW (!eqI x7.2 0) (k (.bool true) S9)
  (evC E0 tS 11 [.pointer x5.1] S9 fun (s1 : Sl) (S10 : St) =>
  ptrW x7.1 fun (b19 b20 : Nat) =>
  ptrW (some ⟨b19, b20, none⟩) fun (b21 b22 : Nat) =>
  evV tP (loadV E0 S10 49 (.pointer (some ⟨b21, b22 + 9, none⟩))) fun (p1 : Option Addr) =>
  evV tP (loadV E0 S9 49 (.pointer (some ⟨b21, b22 + 9, none⟩))) fun (p2 : Option Addr) =>
  sameV (.pointer p2) (.pointer p1)
  (evC E0 tS 12 [.pointer p1] S10 fun (s2 : Sl) (S11 : St) =>
  evC E0 tB 10 [.slice s1.a s1.len s1.cap, .slice s2.a s2.len s2.cap] S11 fun (t5 : Bool) (S12 : St) =>
  k (.bool t5) S12)))))))))
theorem w3 (self_0 : Int) (s_1 : List UInt8) (c_2 : Int × Int × Int × Int × Int × Int) (epoch_3 : Int) (l_4 : Sl) {S : St} {k : Value → St → Prop} (h : c3 self_0 s_1 c_2 epoch_3 l_4 S k) : WC E0 3 [.int .i64 self_0, .string ⟨s_1.toArray⟩, sv G25 c_2, .int .u32 epoch_3, .slice l_4.a l_4.len l_4.cap] S k :=
  WC_den h3 rfl (by kernel_rfl) (by kernel_rfl : Try.f3.body = some (bodyOf Try.f3)) (by rw [show (denF E0 h3 Try.f3 (bodyOf Try.f3) [.int .i64 self_0, .string ⟨s_1.toArray⟩, sv G25 c_2, .int .u32 epoch_3, .slice l_4.a l_4.len l_4.cap] S k) = c3 self_0 s_1 c_2 epoch_3 l_4 S k by kernel_rfl]; exact h)

/-! 7 wagonway/robot.New -/
noncomputable def h7 : Hn := .no
def c7 (self_0 : Int) (m_1 : Option Addr) (c_2 : Int × Int × Int × Int × Int × Int) (epoch_3 : Int) (l_4 : Sl) (S : St) (k : Value → St → Prop) : Prop :=
  newW S
  (.cells
  [.int .i64 c_2.1, .int .i64 c_2.2.1, .int .i64 c_2.2.2.1, .int .u64 c_2.2.2.2.1, .int .u64 c_2.2.2.2.2.1,
  .int .u64 c_2.2.2.2.2.2]
  none false none)
  fun (b1 : Nat) (S1 : St) =>
  eqW E0 S1 29 (.pointer m_1) (.pointer none) fun (t1 : Bool) =>
  ifW t1 (k (.tuple #[.pointer none, .int .i64 1]) S1)
  (evV (TT.one (Ty.agg G25)) (loadV E0 S1 26 (.pointer (some ⟨b1, 0, none⟩))) fun (x1 : Int × Int × Int × Int × Int × Int) =>
  evC E0 tI 6 [sv G25 x1] S1 fun (n1 : Int) (S2 : St) =>
  ifW (!eqI n1 0) (k (.tuple #[.pointer none, .int .i64 200]) S2)
  (ifW (ltI self_0 0) (k (.tuple #[.pointer none, .int .i64 200]) S2)
  (ptrW (some ⟨b1, 0, none⟩) fun (b2 b3 : Nat) =>
  evV tI (loadV E0 S2 3 (.pointer (some ⟨b2, b3 + 0, none⟩))) fun (n2 : Int) =>
  ifW (leI n2 self_0) (k (.tuple #[.pointer none, .int .i64 200]) S2)
  (ifW (eqI epoch_3 0) (k (.tuple #[.pointer none, .int .i64 200]) S2)
  (evC E0 (TT.tup [Ty.sc Sc.ptr, Ty.sc (Sc.int .i64)]) 19 [.slice l_4.a l_4.len l_4.cap] S2 fun (x2 : Option Addr × Int) (S3 : St) =>
  ifW (!eqI x2.2 0) (k (.tuple #[.pointer none, .int .i64 x2.2]) S3)
  (ptrW (some ⟨b1, 0, none⟩) fun (b4 b5 : Nat) =>
  evV tI (loadV E0 S3 3 (.pointer (some ⟨b4, b5 + 0, none⟩))) fun (n3 : Int) =>
  evC E0 tI 21 [.pointer m_1] S3 fun (n4 : Int) (S4 : St) =>
  evV tI (loadV E0 S4 3 (.pointer (some ⟨b4, b5 + 0, none⟩))) fun (n5 : Int) =>
  sameV (.int .i64 n5) (.int .i64 n3)
  (evC E0 (TT.tup [Ty.sc Sc.ptr, Ty.sc (Sc.int .i64)]) 20 [.int .i64 self_0, .int .i64 n3, .int .i64 n4, .slice l_4.a l_4.len l_4.cap] S4
  fun (x3 : Option Addr × Int) (S5 : St) =>
  ifW (!eqI x3.2 0) (k (.tuple #[.pointer none, .int .i64 x3.2]) S5)
  (newW S5 (DObj.map [] 0) fun (b6 : Nat) (S6 : St) =>
  newW S6 (.cells [.map none] none false none) fun (b7 : Nat) (S7 : St) =>
  newW S7 (.cells [.int .i64 0, .map none] none false none) fun (b8 : Nat) (S8 : St) =>
  newW S8 (DObj.map [] 0) fun (b9 : Nat) (S9 : St) =>
  newW S9 (DObj.map [] 0) fun (b10 : Nat) (S10 : St) =>
  evV (TT.one (Ty.agg G25)) (loadV E0 S10 26 (.pointer (some ⟨b1, 0, none⟩))) fun (x4 : Int × Int × Int × Int × Int × Int) =>
  evC E0 tP 22 [.int .u32 epoch_3] S10 fun (p1 : Option Addr) (S11 : St) =>
  evV (TT.one (Ty.agg G25)) (loadV E0 S11 26 (.pointer (some ⟨b1, 0, none⟩))) fun (x5 : Int × Int × Int × Int × Int × Int) =>
  sameV (sv G25 x5) (sv G25 x4)
  (sameOW (.cells [.map none] none false none) (.cells [.map none] none false none)
  (sameOW (.cells [.int .i64 0, .map none] none false none) (.cells [.int .i64 0, .map none] none false none)
  (newW S11
  (.cells
  [.int .i64 x4.1, .int .i64 x4.2.1, .int .i64 x4.2.2.1, .int .u64 x4.2.2.2.1,
  .int .u64 x4.2.2.2.2.1, .int .u64 x4.2.2.2.2.2, .pointer m_1, .int .i64 self_0,
  .int .u32 epoch_3, .pointer x2.1, .pointer x3.1, .int .u64 0, .pointer p1, .map (some b6),
  .pointer none, .pointer (some ⟨b7, 0, none⟩), .pointer (some ⟨b8, 0, none⟩), .map (some b9),
  .map (some b10), .int .i64 0, .int .u64 0, .bool false, .int .i64 0, .int .i64 0,
  .int .u64 0, .int .i64 (-1), .int .i64 (-1), .slice none 0 0]
  none false none)
  fun (b11 : Nat) (S12 : St) =>
  ptrW (some ⟨b1, 0, none⟩) fun (b12 b13 : Nat) =>
  evV tI (loadV E0 S12 3 (.pointer (some ⟨b12, b13 + 1, none⟩))) fun (n6 : Int) =>
  evC E0 (TT.tup [Ty.sc Sc.ptr, Ty.sc (Sc.int .i64)]) 23 [.pointer m_1, .int .i64 n6] S12
  fun (x6 : Option Addr × Int) (S13 : St) =>
  ptrW (some ⟨b11, 0, none⟩) fun (b14 b15 : Nat) =>
  ptrW (some ⟨b14, b15, none⟩) fun (b16 b17 : Nat) =>
  evS (storeV E0 S13 109 (.pointer (some ⟨b16, b17 + 14, none⟩)) (.pointer x6.1)) fun (S14 : St) =>
  ptrW (some ⟨b11, 0, none⟩) fun (b18 b19 : Nat) =>
  ptrW (some ⟨b18, b19, none⟩) fun (b20 b21 : Nat) =>
  evV tP (loadV E0 S14 105 (.pointer (some ⟨b20, b21 + 16, none⟩))) fun (p2 : Option Addr) =>
  ptrW (some ⟨b1, 0, none⟩) fun (b22 b23 : Nat) =>
  evV tI (loadV E0 S14 3 (.pointer (some ⟨b22, b23 + 2, none⟩))) fun (n7 : Int) =>
  evC E0 (TT.tup [Ty.sc Sc.bool, Ty.sc (Sc.int .i64)]) 24 [.pointer p2, .int .i64 n7] S14
  fun (x7 : Bool × Int) (S15 : St) =>
  k (.tuple #[.pointer (some ⟨b11, 0, none⟩), .int .i64 0]) S15)))))))))))
theorem w7 (self_0 : Int) (m_1 : Option Addr) (c_2 : Int × Int × Int × Int × Int × Int) (epoch_3 : Int) (l_4 : Sl) {S : St} {k : Value → St → Prop} (h : c7 self_0 m_1 c_2 epoch_3 l_4 S k) : WC E0 7 [.int .i64 self_0, .pointer m_1, sv G25 c_2, .int .u32 epoch_3, .slice l_4.a l_4.len l_4.cap] S k :=
  WC_den h7 rfl (by kernel_rfl) (by kernel_rfl : Try.f7.body = some (bodyOf Try.f7)) (by rw [show (denF E0 h7 Try.f7 (bodyOf Try.f7) [.int .i64 self_0, .pointer m_1, sv G25 c_2, .int .u32 epoch_3, .slice l_4.a l_4.len l_4.cap] S k) = c7 self_0 m_1 c_2 epoch_3 l_4 S k by kernel_rfl]; exact h)

/-! 8 wagonway/wagonwayref20.New -/
noncomputable def h8 : Hn := .no
def c8 (self_0 : Int) (m_1 : Option Addr) (c_2 : Int × Int × Int × Int × Int × Int) (epoch_3 : Int) (l_4 : Sl) (S : St) (k : Value → St → Prop) : Prop :=
  newW S
  (.cells
  [.int .i64 c_2.1, .int .i64 c_2.2.1, .int .i64 c_2.2.2.1, .int .u64 c_2.2.2.2.1, .int .u64 c_2.2.2.2.2.1,
  .int .u64 c_2.2.2.2.2.2]
  none false none)
  fun (b1 : Nat) (S1 : St) =>
  evV (TT.one (Ty.agg G25)) (loadV E0 S1 37 (.pointer (some ⟨b1, 0, none⟩))) fun (x1 : Int × Int × Int × Int × Int × Int) =>
  evC E0 tB 9 [sv G25 x1] S1 fun (t1 : Bool) (S2 : St) =>
  ifW (!t1) (k (.tuple #[.pointer none, .int .i64 200]) S2)
  (ifW (ltI self_0 0) (k (.tuple #[.pointer none, .int .i64 200]) S2)
  (ptrW (some ⟨b1, 0, none⟩) fun (b2 b3 : Nat) =>
  evV tI (loadV E0 S2 3 (.pointer (some ⟨b2, b3 + 0, none⟩))) fun (n1 : Int) =>
  ifW (leI n1 self_0) (k (.tuple #[.pointer none, .int .i64 200]) S2)
  (ifW (eqI epoch_3 0) (k (.tuple #[.pointer none, .int .i64 200]) S2)
  (evC E0 (TT.tup [Ty.sc Sc.ptr, Ty.sc (Sc.int .i64)]) 25 [.slice l_4.a l_4.len l_4.cap] S2 fun (x2 : Option Addr × Int) (S3 : St) =>
  ifW (!eqI x2.2 0) (k (.tuple #[.pointer none, .int .i64 x2.2]) S3)
  (ptrW (some ⟨b1, 0, none⟩) fun (b4 b5 : Nat) =>
  evV tI (loadV E0 S3 3 (.pointer (some ⟨b4, b5 + 0, none⟩))) fun (n2 : Int) =>
  evC E0 tI 27 [.pointer m_1] S3 fun (n3 : Int) (S4 : St) =>
  evV tI (loadV E0 S4 3 (.pointer (some ⟨b4, b5 + 0, none⟩))) fun (n4 : Int) =>
  sameV (.int .i64 n4) (.int .i64 n2)
  (evC E0 (TT.tup [Ty.sc Sc.ptr, Ty.sc (Sc.int .i64)]) 26 [.int .i64 self_0, .int .i64 n2, .int .i64 n3, .slice l_4.a l_4.len l_4.cap] S4
  fun (x3 : Option Addr × Int) (S5 : St) =>
  ifW (!eqI x3.2 0) (k (.tuple #[.pointer none, .int .i64 x3.2]) S5)
  (evC E0 tP 28 [] S5 fun (p1 : Option Addr) (S6 : St) =>
  ptrW (some ⟨b1, 0, none⟩) fun (b6 b7 : Nat) =>
  evV tI (loadV E0 S6 3 (.pointer (some ⟨b6, b7 + 2, none⟩))) fun (n5 : Int) =>
  evC E0 (TT.tup [Ty.sc Sc.bool, Ty.sc (Sc.int .i64)]) 29 [.pointer p1, .int .i64 n5] S6 fun (x4 : Bool × Int) (S7 : St) =>
  evV (TT.one (Ty.agg G25)) (loadV E0 S7 37 (.pointer (some ⟨b1, 0, none⟩))) fun (x5 : Int × Int × Int × Int × Int × Int) =>
  newW S7 (.cells [.int .u64 (wrapI .u64 epoch_3), .int .u64 0] none false none) fun (b8 : Nat) (S8 : St) =>
  ptrW (some ⟨b1, 0, none⟩) fun (b9 b10 : Nat) =>
  evV tI (loadV E0 S8 3 (.pointer (some ⟨b9, b10 + 1, none⟩))) fun (n6 : Int) =>
  newW S8 (.cells [.pointer m_1, .int .i64 n6, .slice none 0 0, .slice none 0 0, .int .i64 0] none false none)
  fun (b11 : Nat) (S9 : St) =>
  newW S9 (.cells [.slice none 0 0] none false none) fun (b12 : Nat) (S10 : St) =>
  newW S10
  (.cells
  [.int .i64 x5.1, .int .i64 x5.2.1, .int .i64 x5.2.2.1, .int .u64 x5.2.2.2.1,
  .int .u64 x5.2.2.2.2.1, .int .u64 x5.2.2.2.2.2, .pointer m_1, .int .i64 self_0,
  .int .u32 epoch_3, .pointer x2.1, .pointer x3.1, .int .u64 0, .pointer (some ⟨b8, 0, none⟩),
  .pointer none, .pointer none, .pointer none, .pointer none, .pointer none, .pointer none, .pointer none,
  .pointer none, .pointer none, .pointer none, .pointer none, .pointer none, .pointer none, .pointer none,
  .pointer none, .pointer none, .pointer none, .pointer none, .pointer none, .pointer none, .pointer none,
  .pointer none, .pointer none, .pointer none, .pointer none, .pointer none, .pointer none, .pointer none,
  .pointer none, .pointer none, .pointer none, .pointer none, .pointer none, .pointer none, .pointer none,
  .pointer none, .pointer none, .pointer none, .pointer none, .pointer none, .pointer none, .pointer none,
  .pointer none, .pointer none, .pointer none, .pointer none, .pointer none, .pointer none, .pointer none,
  .pointer none, .pointer none, .pointer none, .pointer none, .pointer none, .pointer none, .pointer none,
  .pointer none, .pointer none, .pointer none, .pointer none, .pointer none, .pointer none, .pointer none,
  .pointer none, .pointer (some ⟨b11, 0, none⟩), .pointer (some ⟨b12, 0, none⟩), .pointer p1, .slice none 0 0,
  .slice none 0 0, .int .i64 0, .int .u64 0, .bool false, .int .i64 0, .int .i64 0,
  .int .u64 0, .int .i64 (-1), .int .i64 (-1), .slice none 0 0]
  none false none)
  fun (b13 : Nat) (S11 : St) => k (.tuple #[.pointer (some ⟨b13, 0, none⟩), .int .i64 0]) S11)))))))
theorem w8 (self_0 : Int) (m_1 : Option Addr) (c_2 : Int × Int × Int × Int × Int × Int) (epoch_3 : Int) (l_4 : Sl) {S : St} {k : Value → St → Prop} (h : c8 self_0 m_1 c_2 epoch_3 l_4 S k) : WC E0 8 [.int .i64 self_0, .pointer m_1, sv G25 c_2, .int .u32 epoch_3, .slice l_4.a l_4.len l_4.cap] S k :=
  WC_den h8 rfl (by kernel_rfl) (by kernel_rfl : Try.f8.body = some (bodyOf Try.f8)) (by rw [show (denF E0 h8 Try.f8 (bodyOf Try.f8) [.int .i64 self_0, .pointer m_1, sv G25 c_2, .int .u32 epoch_3, .slice l_4.a l_4.len l_4.cap] S k) = c8 self_0 m_1 c_2 epoch_3 l_4 S k by kernel_rfl]; exact h)

/-! 10 wagonway/wagonwayref15.Same -/
noncomputable def h10 : Hn := (.n .no (.n .no (.n (.n .no (.n (.n .no .no (some ⟨[0, 1], [(5, .sc (.int .i64))], false⟩)) .no none) none) .no none) none) none)
def c10 (a_0 : Sl) (b_1 : Sl) (S : St) (k : Value → St → Prop) : Prop :=
  ifW (!eqI (↑a_0.len : Int) (↑b_1.len : Int)) (k (.bool false) S)
  (loopW
  (fun (k1 : Int → St → Prop) (n1 : Int) (S1 : St) =>
  ifW (ltI n1 (↑a_0.len : Int))
  (idxW a_0.a a_0.len n1 fun (b1 b2 : Nat) =>
  evV (TT.one (Ty.agg G131)) (loadV E0 S1 132 (.pointer (some ⟨b1, b2 + Int.toNat n1 * 2, none⟩))) fun (x1 : Int × Int) =>
  idxW b_1.a b_1.len n1 fun (b3 b4 : Nat) =>
  evV (TT.one (Ty.agg G131)) (loadV E0 S1 132 (.pointer (some ⟨b3, b4 + Int.toNat n1 * 2, none⟩))) fun (x2 : Int × Int) =>
  eqW E0 S1 132 (sv G131 x1) (sv G131 x2) fun (t1 : Bool) => ifW (!t1) (k (.bool false) S1) (k1 (wrapI .i64 (n1 + 1)) S1))
  (k (.bool true) S1))
  0 S)
theorem w10 (a_0 : Sl) (b_1 : Sl) {S : St} {k : Value → St → Prop} (h : c10 a_0 b_1 S k) : WC E0 10 [.slice a_0.a a_0.len a_0.cap, .slice b_1.a b_1.len b_1.cap] S k :=
  WC_den h10 rfl (by kernel_rfl) (by kernel_rfl : Try.f10.body = some (bodyOf Try.f10)) (by rw [show (denF E0 h10 Try.f10 (bodyOf Try.f10) [.slice a_0.a a_0.len a_0.cap, .slice b_1.a b_1.len b_1.cap] S k) = c10 a_0 b_1 S k by kernel_rfl]; exact h)

/-! 11 (*wagonway/robot.Robot).Claims -/
noncomputable def h11 : Hn := .no
def c11 (r_0 : Option Addr) (S : St) (k : Value → St → Prop) : Prop :=
  evC E0 tB 31 [.pointer r_0] S fun (t1 : Bool) (S1 : St) =>
  ifW t1 (k (.slice none 0 0) S1)
  (ptrW r_0 fun (b1 b2 : Nat) =>
  ptrW (some ⟨b1, b2, none⟩) fun (b3 b4 : Nat) =>
  evV tP (loadV E0 S1 91 (.pointer (some ⟨b3, b4 + 9, none⟩))) fun (p1 : Option Addr) => evC E0 tS 32 [.pointer p1] S1 fun (s1 : Sl) (S2 : St) => k (.slice s1.a s1.len s1.cap) S2)
theorem w11 (r_0 : Option Addr) {S : St} {k : Value → St → Prop} (h : c11 r_0 S k) : WC E0 11 [.pointer r_0] S k :=
  WC_den h11 rfl (by kernel_rfl) (by kernel_rfl : Try.f11.body = some (bodyOf Try.f11)) (by rw [show (denF E0 h11 Try.f11 (bodyOf Try.f11) [.pointer r_0] S k) = c11 r_0 S k by kernel_rfl]; exact h)

/-! 12 (*wagonway/wagonwayref15.Claims).All -/
noncomputable def h12 : Hn := (.n .no (.n .no (.n (.n .no (.n (.n .no .no (some ⟨[0], [(3, .sc .sl), (4, .sc (.int .i64))], false⟩)) .no none) none) .no none) none) none)
def c12 (c_0 : Option Addr) (S : St) (k : Value → St → Prop) : Prop :=
  loopW
  (fun (k1 : Sl × Int → St → Prop) (x1 : Sl × Int) (S1 : St) =>
  ifW (ltI x1.2 1024)
  (ptrW c_0 fun (b1 b2 : Nat) =>
  ptrW (some ⟨b1, b2, none⟩) fun (b3 b4 : Nat) =>
  idxW (some ⟨b3, b4 + 0, none⟩) 1024 x1.2 fun (b5 b6 : Nat) =>
  evV tB (loadV E0 S1 4 (.pointer (some ⟨b5, b6 + Int.toNat x1.2 * 1, none⟩))) fun (t1 : Bool) =>
  ifW t1
  (ptrW c_0 fun (b7 b8 : Nat) =>
  ptrW (some ⟨b7, b8, none⟩) fun (b9 b10 : Nat) =>
  idxW (some ⟨b9, b10 + 1024, none⟩) 1024 x1.2 fun (b11 b12 : Nat) =>
  evV tU32 (loadV E0 S1 27 (.pointer (some ⟨b11, b12 + Int.toNat x1.2 * 1, none⟩))) fun (n1 : Int) =>
  newW S1 (.cells [.int .i64 x1.2, .int .u32 n1] none false none) fun (b13 : Nat) (S2 : St) =>
  evP tS (appendD E0 S2 47 47 (.slice x1.1.a x1.1.len x1.1.cap) (.slice (some ⟨b13, 0, none⟩) 1 1)) fun (s1 : Sl) (S3 : St) =>
  k1 ({ a := s1.a, len := s1.len, cap := s1.cap }, wrapI .i64 (x1.2 + 1)) S3)
  (k1 ({ a := x1.1.a, len := x1.1.len, cap := x1.1.cap }, wrapI .i64 (x1.2 + 1)) S1))
  (k (.slice x1.1.a x1.1.len x1.1.cap) S1))
  ({ a := none, len := 0, cap := 0 }, 0) S
theorem w12 (c_0 : Option Addr) {S : St} {k : Value → St → Prop} (h : c12 c_0 S k) : WC E0 12 [.pointer c_0] S k :=
  WC_den h12 rfl (by kernel_rfl) (by kernel_rfl : Try.f12.body = some (bodyOf Try.f12)) (by rw [show (denF E0 h12 Try.f12 (bodyOf Try.f12) [.pointer c_0] S k) = c12 c_0 S k by kernel_rfl]; exact h)

/-! 19 wagonway/claim.Load -/
noncomputable def h19 : Hn := (.n .no (.n .no (.n .no (.n (.n .no (.n (.n (.n .no (.n .no (.n (.n (.n .no (.n .no (.n .no (.n .no (.n .no (.n (.n .no (.n (.n .no .no (some ⟨[4, 5, 7, 16, 17, 18, 54, 55], [(8, .sc (.int .u32)), (56, .sc (.int .i64))], false⟩)) .no none) none) .no none) none) none) none) none) none) .no none) .no none) none) none) .no (some ⟨[4, 5, 16, 17], [(18, .sc (.int .i64))], false⟩)) .no none) none) .no none) none) none) none)
def c19 (l_0 : Sl) (S : St) (k : Value → St → Prop) : Prop :=
  newW S (.cells [.slice none 0 0] none false none) fun (b1 : Nat) (S1 : St) =>
  newW S1 (DObj.map [] 0) fun (b2 : Nat) (S2 : St) =>
  loopW
  (fun (k1 : Int → St → Prop) (n1 : Int) (S3 : St) =>
  ifW (ltI n1 (↑l_0.len : Int))
  (idxW l_0.a l_0.len n1 fun (b3 b4 : Nat) =>
  evV (TT.one (Ty.agg G145)) (loadV E0 S3 146 (.pointer (some ⟨b3, b4 + Int.toNat n1 * 3, none⟩))) fun (x1 : Int × Int × Sl) =>
  newW S3 (.cells [.int .i64 0, .int .i64 0, .slice none 0 0] none false none) fun (b5 : Nat) (S4 : St) =>
  evS (storeV E0 S4 146 (.pointer (some ⟨b5, 0, none⟩)) (sv G145 x1)) fun (S5 : St) =>
  ptrW (some ⟨b5, 0, none⟩) fun (b6 b7 : Nat) =>
  evV tI (loadV E0 S5 3 (.pointer (some ⟨b6, b7 + 0, none⟩))) fun (n2 : Int) =>
  ifW (!eqI n2 2) (k1 (wrapI .i64 (n1 + 1)) S5)
  (ptrW (some ⟨b5, 0, none⟩) fun (b8 b9 : Nat) =>
  evV tI (loadV E0 S5 3 (.pointer (some ⟨b8, b9 + 1, none⟩))) fun (n3 : Int) =>
  evV tI (lookupD E0 S5 106 (.map (some b2)) (.int .i64 n3) false) fun (n4 : Int) =>
  evS (mapUpdateD E0 S5 106 (.map (some b2)) (.int .i64 n3) (.int .i64 (wrapI .i64 (n4 + 1)))) fun (S6 : St) =>
  ptrW (some ⟨b5, 0, none⟩) fun (b10 b11 : Nat) =>
  evV tI (loadV E0 S6 3 (.pointer (some ⟨b10, b11 + 1, none⟩))) fun (n5 : Int) =>
  evC E0 tB 40 [.int .i64 n5] S6 fun (t1 : Bool) (S7 : St) =>
  ifW (!t1) (k (.tuple #[.pointer none, .int .i64 130]) S7)
  (ptrW (some ⟨b5, 0, none⟩) fun (b12 b13 : Nat) =>
  evV tS (loadV E0 S7 64 (.pointer (some ⟨b12, b13 + 2, none⟩))) fun (s1 : Sl) =>
  ifW (!eqI (↑s1.len : Int) 0)
  (ptrW (some ⟨b5, 0, none⟩) fun (b14 b15 : Nat) =>
  evV tS (loadV E0 S7 64 (.pointer (some ⟨b14, b15 + 2, none⟩))) fun (s2 : Sl) =>
  ifW (!eqI (↑s2.len : Int) 4) (k (.tuple #[.pointer none, .int .i64 130]) S7)
  (ptrW (some ⟨b5, 0, none⟩) fun (b16 b17 : Nat) =>
  evV tI (loadV E0 S7 3 (.pointer (some ⟨b16, b17 + 1, none⟩))) fun (n6 : Int) =>
  evV tI (lookupD E0 S7 106 (.map (some b2)) (.int .i64 n6) false) fun (n7 : Int) =>
  ifW (ltI 1 n7) (k (.tuple #[.pointer none, .int .i64 130]) S7)
  (ptrW (some ⟨b5, 0, none⟩) fun (b18 b19 : Nat) =>
  evV tS (loadV E0 S7 64 (.pointer (some ⟨b18, b19 + 2, none⟩))) fun (s3 : Sl) =>
  loopW
  (fun (k2 : Int × Int → St → Prop) (x2 : Int × Int) (S8 : St) =>
  ifW (ltI x2.2 (↑s3.len : Int))
  (idxW s3.a s3.len x2.2 fun (b20 b21 : Nat) =>
  evV tU8 (loadV E0 S8 5 (.pointer (some ⟨b20, b21 + Int.toNat x2.2 * 1, none⟩))) fun (n8 : Int) =>
  needW true
  (k2 (orI .u32 (wrapI .u32 (x2.1 * (↑(2 ^ min (Int.toNat 8) 32) : Int))) (wrapI .u32 n8), wrapI .i64 (x2.2 + 1))
  S8))
  (ptrW (some ⟨b5, 0, none⟩) fun (b22 b23 : Nat) =>
  evV tS (loadV E0 S8 64 (.pointer (some ⟨b22, b23 + 2, none⟩))) fun (s4 : Sl) =>
  ifW (ltI 0 (↑s4.len : Int))
  (ptrW (some ⟨b5, 0, none⟩) fun (b24 b25 : Nat) =>
  evV tI (loadV E0 S8 3 (.pointer (some ⟨b24, b25 + 1, none⟩))) fun (n9 : Int) =>
  evC E0 (TT.tup [Ty.sc (Sc.int .i64), Ty.sc Sc.bool]) 41 [.pointer (some ⟨b1, 0, none⟩), .int .i64 n9] S8
  fun (x3 : Int × Bool) (S9 : St) =>
  ptrW (some ⟨b1, 0, none⟩) fun (b26 b27 : Nat) =>
  ptrW (some ⟨b26, b27, none⟩) fun (b28 b29 : Nat) =>
  evV tS (loadV E0 S9 47 (.pointer (some ⟨b28, b29 + 0, none⟩))) fun (s5 : Sl) =>
  ptrW (some ⟨b5, 0, none⟩) fun (b30 b31 : Nat) =>
  evV tI (loadV E0 S9 3 (.pointer (some ⟨b30, b31 + 1, none⟩))) fun (n10 : Int) =>
  newW S9 (.cells [.int .i64 n10, .int .u32 x2.1] none false none) fun (b32 : Nat) (S10 : St) =>
  evV tS (loadV E0 S10 47 (.pointer (some ⟨b28, b29 + 0, none⟩))) fun (s6 : Sl) =>
  sameV (.slice s6.a s6.len s6.cap) (.slice s5.a s5.len s5.cap)
  (evC E0 tS 42
  [.slice s5.a s5.len s5.cap, .int .i64 x3.1, .slice (some ⟨b32, 0, none⟩) 1 1] S10
  fun (s7 : Sl) (S11 : St) =>
  ptrW (some ⟨b1, 0, none⟩) fun (b33 b34 : Nat) =>
  ptrW (some ⟨b33, b34, none⟩) fun (b35 b36 : Nat) =>
  evS (storeV E0 S11 47 (.pointer (some ⟨b35, b36 + 0, none⟩)) (.slice s7.a s7.len s7.cap))
  fun (S12 : St) => k1 (wrapI .i64 (n1 + 1)) S12))
  (k1 (wrapI .i64 (n1 + 1)) S8)))
  (0, 0) S7)))
  (ptrW (some ⟨b5, 0, none⟩) fun (b37 b38 : Nat) =>
  evV tI (loadV E0 S7 3 (.pointer (some ⟨b37, b38 + 1, none⟩))) fun (n11 : Int) =>
  evV tI (lookupD E0 S7 106 (.map (some b2)) (.int .i64 n11) false) fun (n12 : Int) =>
  ifW (ltI 1 n12) (k (.tuple #[.pointer none, .int .i64 130]) S7)
  (ptrW (some ⟨b5, 0, none⟩) fun (b39 b40 : Nat) =>
  evV tS (loadV E0 S7 64 (.pointer (some ⟨b39, b40 + 2, none⟩))) fun (s8 : Sl) =>
  loopW
  (fun (k3 : Int × Int → St → Prop) (x4 : Int × Int) (S13 : St) =>
  ifW (ltI x4.2 (↑s8.len : Int))
  (idxW s8.a s8.len x4.2 fun (b41 b42 : Nat) =>
  evV tU8 (loadV E0 S13 5 (.pointer (some ⟨b41, b42 + Int.toNat x4.2 * 1, none⟩))) fun (n13 : Int) =>
  needW true
  (k3 (orI .u32 (wrapI .u32 (x4.1 * (↑(2 ^ min (Int.toNat 8) 32) : Int))) (wrapI .u32 n13), wrapI .i64 (x4.2 + 1)) S13))
  (ptrW (some ⟨b5, 0, none⟩) fun (b43 b44 : Nat) =>
  evV tS (loadV E0 S13 64 (.pointer (some ⟨b43, b44 + 2, none⟩))) fun (s9 : Sl) =>
  ifW (ltI 0 (↑s9.len : Int))
  (ptrW (some ⟨b5, 0, none⟩) fun (b45 b46 : Nat) =>
  evV tI (loadV E0 S13 3 (.pointer (some ⟨b45, b46 + 1, none⟩))) fun (n14 : Int) =>
  evC E0 (TT.tup [Ty.sc (Sc.int .i64), Ty.sc Sc.bool]) 41 [.pointer (some ⟨b1, 0, none⟩), .int .i64 n14] S13
  fun (x5 : Int × Bool) (S14 : St) =>
  ptrW (some ⟨b1, 0, none⟩) fun (b47 b48 : Nat) =>
  ptrW (some ⟨b47, b48, none⟩) fun (b49 b50 : Nat) =>
  evV tS (loadV E0 S14 47 (.pointer (some ⟨b49, b50 + 0, none⟩))) fun (s10 : Sl) =>
  ptrW (some ⟨b5, 0, none⟩) fun (b51 b52 : Nat) =>
  evV tI (loadV E0 S14 3 (.pointer (some ⟨b51, b52 + 1, none⟩))) fun (n15 : Int) =>
  newW S14 (.cells [.int .i64 n15, .int .u32 x4.1] none false none) fun (b53 : Nat) (S15 : St) =>
  evV tS (loadV E0 S15 47 (.pointer (some ⟨b49, b50 + 0, none⟩))) fun (s11 : Sl) =>
  sameV (.slice s11.a s11.len s11.cap) (.slice s10.a s10.len s10.cap)
  (evC E0 tS 42
  [.slice s10.a s10.len s10.cap, .int .i64 x5.1, .slice (some ⟨b53, 0, none⟩) 1 1] S15
  fun (s12 : Sl) (S16 : St) =>
  ptrW (some ⟨b1, 0, none⟩) fun (b54 b55 : Nat) =>
  ptrW (some ⟨b54, b55, none⟩) fun (b56 b57 : Nat) =>
  evS (storeV E0 S16 47 (.pointer (some ⟨b56, b57 + 0, none⟩)) (.slice s12.a s12.len s12.cap))
  fun (S17 : St) => k1 (wrapI .i64 (n1 + 1)) S17))
  (k1 (wrapI .i64 (n1 + 1)) S13)))
  (0, 0) S7)))))
  (ptrW (some ⟨b1, 0, none⟩) fun (b58 b59 : Nat) =>
  ptrW (some ⟨b58, b59, none⟩) fun (b60 b61 : Nat) =>
  evV tS (loadV E0 S3 47 (.pointer (some ⟨b60, b61 + 0, none⟩))) fun (s13 : Sl) =>
  ifW (ltI 16 (↑s13.len : Int)) (k (.tuple #[.pointer none, .int .i64 151]) S3) (k (.tuple #[.pointer (some ⟨b1, 0, none⟩), .int .i64 0]) S3)))
  0 S2
theorem w19 (l_0 : Sl) {S : St} {k : Value → St → Prop} (h : c19 l_0 S k) : WC E0 19 [.slice l_0.a l_0.len l_0.cap] S k :=
  WC_den h19 rfl (by kernel_rfl) (by kernel_rfl : Try.f19.body = some (bodyOf Try.f19)) (by rw [show (denF E0 h19 Try.f19 (bodyOf Try.f19) [.slice l_0.a l_0.len l_0.cap] S k) = c19 l_0 S k by kernel_rfl]; exact h)

/-! 20 wagonway/ledger.Load -/
noncomputable def h20 : Hn := (.n .no (.n .no (.n .no (.n (.n .no (.n (.n .no .no (some ⟨[1, 10, 28, 29], [(30, .sc (.int .i64))], false⟩)) .no none) none) .no none) none) none) none)
def c20 (home_0 : Int) (robots_1 : Int) (cells_2 : Int) (l_3 : Sl) (S : St) (k : Value → St → Prop) : Prop :=
  evC E0 (TT.tup [Ty.sc Sc.ptr, Ty.sc (Sc.int .i64)]) 43 [.int .i64 home_0, .int .i64 robots_1, .int .i64 cells_2] S fun (x1 : Option Addr × Int) (S1 : St) =>
  ifW (!eqI x1.2 0) (k (.tuple #[.pointer none, .int .i64 x1.2]) S1)
  (loopW
  (fun (k1 : Int → St → Prop) (n1 : Int) (S2 : St) =>
  ifW (ltI n1 (↑l_3.len : Int))
  (idxW l_3.a l_3.len n1 fun (b1 b2 : Nat) =>
  evV (TT.one (Ty.agg G145)) (loadV E0 S2 146 (.pointer (some ⟨b1, b2 + Int.toNat n1 * 3, none⟩))) fun (x2 : Int × Int × Sl) =>
  newW S2 (.cells [.int .i64 0, .int .i64 0, .slice none 0 0] none false none) fun (b3 : Nat) (S3 : St) =>
  evS (storeV E0 S3 146 (.pointer (some ⟨b3, 0, none⟩)) (sv G145 x2)) fun (S4 : St) =>
  ptrW (some ⟨b3, 0, none⟩) fun (b4 b5 : Nat) =>
  evV tI (loadV E0 S4 3 (.pointer (some ⟨b4, b5 + 0, none⟩))) fun (n2 : Int) =>
  ifW (!eqI n2 3) (k1 (wrapI .i64 (n1 + 1)) S4)
  (evV (TT.one (Ty.agg G145)) (loadV E0 S4 146 (.pointer (some ⟨b3, 0, none⟩))) fun (x3 : Int × Int × Sl) =>
  evC E0 (TT.tup [Ty.agg G131, Ty.sc Sc.bool]) 44 [sv G145 x3] S4 fun (x4 : (Int × Int) × Bool) (S5 : St) =>
  newW S5 (.cells [.int .i64 0, .int .u32 0] none false none) fun (b6 : Nat) (S6 : St) =>
  evS (storeV E0 S6 153 (.pointer (some ⟨b6, 0, none⟩)) (sv G131 x4.1)) fun (S7 : St) =>
  newW S7 (.cells [.int .i64 0, .int .u32 0] none false none) fun (b7 : Nat) (S8 : St) =>
  ptrW x1.1 fun (b8 b9 : Nat) =>
  ptrW (some ⟨b8, b9, none⟩) fun (b10 b11 : Nat) =>
  evV tM (loadV E0 S8 156 (.pointer (some ⟨b10, b11 + 3, none⟩))) fun (p1 : Option Nat) =>
  ptrW (some ⟨b3, 0, none⟩) fun (b12 b13 : Nat) =>
  evV tI (loadV E0 S8 3 (.pointer (some ⟨b12, b13 + 1, none⟩))) fun (n3 : Int) =>
  evV (TT.tup [Ty.agg G131, Ty.sc Sc.bool]) (lookupD E0 S8 156 (.map p1) (.int .i64 n3) true) fun (x5 : (Int × Int) × Bool) =>
  evS (storeV E0 S8 153 (.pointer (some ⟨b7, 0, none⟩)) (sv G131 x5.1)) fun (S9 : St) =>
  ifW (!x4.2) (k (.tuple #[.pointer none, .int .i64 140]) S9)
  (ifW x5.2 (k (.tuple #[.pointer none, .int .i64 140]) S9)
  (ptrW (some ⟨b3, 0, none⟩) fun (b14 b15 : Nat) =>
  evV tI (loadV E0 S9 3 (.pointer (some ⟨b14, b15 + 1, none⟩))) fun (n4 : Int) =>
  evC E0 tB 45 [.pointer x1.1, .int .i64 n4] S9 fun (t1 : Bool) (S10 : St) =>
  ifW (!t1) (k (.tuple #[.pointer none, .int .i64 140]) S10)
  (ptrW (some ⟨b6, 0, none⟩) fun (b16 b17 : Nat) =>
  evV tI (loadV E0 S10 3 (.pointer (some ⟨b16, b17 + 0, none⟩))) fun (n5 : Int) =>
  ifW (leI robots_1 n5) (k (.tuple #[.pointer none, .int .i64 140]) S10)
  (ptrW x1.1 fun (b18 b19 : Nat) =>
  ptrW (some ⟨b18, b19, none⟩) fun (b20 b21 : Nat) =>
  evV tM (loadV E0 S10 156 (.pointer (some ⟨b20, b21 + 3, none⟩))) fun (p2 : Option Nat) =>
  ptrW (some ⟨b3, 0, none⟩) fun (b22 b23 : Nat) =>
  evV tI (loadV E0 S10 3 (.pointer (some ⟨b22, b23 + 1, none⟩))) fun (n6 : Int) =>
  evV (TT.one (Ty.agg G131)) (loadV E0 S10 153 (.pointer (some ⟨b6, 0, none⟩))) fun (x6 : Int × Int) =>
  evS (mapUpdateD E0 S10 156 (.map p2) (.int .i64 n6) (sv G131 x6)) fun (S11 : St) => k1 (wrapI .i64 (n1 + 1)) S11))))))
  (k (.tuple #[.pointer x1.1, .int .i64 0]) S2))
  0 S1)
theorem w20 (home_0 : Int) (robots_1 : Int) (cells_2 : Int) (l_3 : Sl) {S : St} {k : Value → St → Prop} (h : c20 home_0 robots_1 cells_2 l_3 S k) : WC E0 20 [.int .i64 home_0, .int .i64 robots_1, .int .i64 cells_2, .slice l_3.a l_3.len l_3.cap] S k :=
  WC_den h20 rfl (by kernel_rfl) (by kernel_rfl : Try.f20.body = some (bodyOf Try.f20)) (by rw [show (denF E0 h20 Try.f20 (bodyOf Try.f20) [.int .i64 home_0, .int .i64 robots_1, .int .i64 cells_2, .slice l_3.a l_3.len l_3.cap] S k) = c20 home_0 robots_1 cells_2 l_3 S k by kernel_rfl]; exact h)

/-! 22 wagonway/stamp.NewClock -/
noncomputable def h22 : Hn := .no
def c22 (epoch_0 : Int) (S : St) (k : Value → St → Prop) : Prop :=
  newW S (.cells [.int .u32 epoch_0, .int .u32 0, .bool true] none false none) fun (b1 : Nat) (S1 : St) => k (.pointer (some ⟨b1, 0, none⟩)) S1
theorem w22 (epoch_0 : Int) {S : St} {k : Value → St → Prop} (h : c22 epoch_0 S k) : WC E0 22 [.int .u32 epoch_0] S k :=
  WC_den h22 rfl (by kernel_rfl) (by kernel_rfl : Try.f22.body = some (bodyOf Try.f22)) (by rw [show (denF E0 h22 Try.f22 (bodyOf Try.f22) [.int .u32 epoch_0] S k) = c22 epoch_0 S k by kernel_rfl]; exact h)

/-! 23 wagonway/goal.New -/
noncomputable def h23 : Hn := .no
def c23 (m_0 : Option Addr) (window_1 : Int) (S : St) (k : Value → St → Prop) : Prop :=
  eqW E0 S 29 (.pointer m_0) (.pointer none) fun (t1 : Bool) =>
  ifW t1 (k (.tuple #[.pointer none, .int .i64 1]) S)
  (ifW (ltI window_1 1) (k (.tuple #[.pointer none, .int .i64 2]) S)
  (ifW (ltI 4 window_1) (k (.tuple #[.pointer none, .int .i64 2]) S)
  (newW S (.cells [.pointer m_0, .int .i64 window_1, .slice none 0 0, .slice none 0 0, .int .i64 0] none false none) fun (b1 : Nat) (S1 : St) =>
  k (.tuple #[.pointer (some ⟨b1, 0, none⟩), .int .i64 0]) S1)))
theorem w23 (m_0 : Option Addr) (window_1 : Int) {S : St} {k : Value → St → Prop} (h : c23 m_0 window_1 S k) : WC E0 23 [.pointer m_0, .int .i64 window_1] S k :=
  WC_den h23 rfl (by kernel_rfl) (by kernel_rfl : Try.f23.body = some (bodyOf Try.f23)) (by rw [show (denF E0 h23 Try.f23 (bodyOf Try.f23) [.pointer m_0, .int .i64 window_1] S k) = c23 m_0 window_1 S k by kernel_rfl]; exact h)

/-! 24 (*wagonway/inherit.Holder).Own -/
noncomputable def h24 : Hn := .no
def c24 (h_0 : Option Addr) (prio_1 : Int) (S : St) (k : Value → St → Prop) : Prop :=
  newW S (.cells [.pointer h_0] none false none) fun (b1 : Nat) (S1 : St) =>
  newW S1 (.cells [.int .i64 prio_1] none false none) fun (b2 : Nat) (S2 : St) =>
  evV tP (loadV E0 S2 105 (.pointer (some ⟨b1, 0, none⟩))) fun (p1 : Option Addr) =>
  eqW E0 S2 105 (.pointer p1) (.pointer none) fun (t1 : Bool) =>
  ifW t1 (k (.tuple #[.bool false, .int .i64 1]) S2)
  (evV tI (loadV E0 S2 3 (.pointer (some ⟨b2, 0, none⟩))) fun (n1 : Int) =>
  evC E0 tB 48 [.int .i64 n1] S2 fun (t2 : Bool) (S3 : St) =>
  ifW (!t2) (k (.tuple #[.bool false, .int .i64 2]) S3)
  (evV tP (loadV E0 S3 105 (.pointer (some ⟨b1, 0, none⟩))) fun (p2 : Option Addr) =>
  evC E0 tB 49 [.pointer p2, .func (Fn.func 50) #[] #[.pointer (some ⟨b2, 0, none⟩), .pointer (some ⟨b1, 0, none⟩)]] S3 fun (t3 : Bool) (S4 : St) =>
  k (.tuple #[.bool t3, .int .i64 0]) S4))
theorem w24 (h_0 : Option Addr) (prio_1 : Int) {S : St} {k : Value → St → Prop} (h : c24 h_0 prio_1 S k) : WC E0 24 [.pointer h_0, .int .i64 prio_1] S k :=
  WC_den h24 rfl (by kernel_rfl) (by kernel_rfl : Try.f24.body = some (bodyOf Try.f24)) (by rw [show (denF E0 h24 Try.f24 (bodyOf Try.f24) [.pointer h_0, .int .i64 prio_1] S k) = c24 h_0 prio_1 S k by kernel_rfl]; exact h)

/-! 25 wagonway/wagonwayref15.Load -/
def zeroK : List Value := List.replicate 1024 (.bool false) ++ List.replicate 1024 (.int .u32 0)
noncomputable def h25 : Hn := (.n .no (.n .no (.n .no (.n (.n .no (.n (.n (.n .no (.n (.n (.n .no (.n .no (.n .no (.n .no (.n (.n .no (.n (.n .no .no (some ⟨[0, 4, 5, 6, 7], [(9, .sc (.int .i64))], false⟩)) .no none) none) .no none) none) none) none) none) .no none) .no none) none) .no (some ⟨[0, 4], [(5, .sc (.int .i64)), (6, .sc (.int .i64))], false⟩)) .no none) none) .no none) none) none) none)
def c25 (l_0 : Sl) (S : St) (k : Value → St → Prop) : Prop :=
  newW S
  (.cells
  zeroK
  none false none)
  fun (b1 : Nat) (S1 : St) =>
  loopW
  (fun (k1 : Int × Int → St → Prop) (x1 : Int × Int) (S2 : St) =>
  ifW (ltI x1.2 (↑l_0.len : Int))
  (idxW l_0.a l_0.len x1.2 fun (b2 b3 : Nat) =>
  evV (TT.one (Ty.agg G145)) (loadV E0 S2 146 (.pointer (some ⟨b2, b3 + Int.toNat x1.2 * 3, none⟩))) fun (x2 : Int × Int × Sl) =>
  newW S2 (.cells [.int .i64 0, .int .i64 0, .slice none 0 0] none false none) fun (b4 : Nat) (S3 : St) =>
  evS (storeV E0 S3 146 (.pointer (some ⟨b4, 0, none⟩)) (sv G145 x2)) fun (S4 : St) =>
  ptrW (some ⟨b4, 0, none⟩) fun (b5 b6 : Nat) =>
  evV tI (loadV E0 S4 3 (.pointer (some ⟨b5, b6 + 0, none⟩))) fun (n1 : Int) =>
  ifW (!eqI n1 2) (k1 (x1.1, wrapI .i64 (x1.2 + 1)) S4)
  (ptrW (some ⟨b4, 0, none⟩) fun (b7 b8 : Nat) =>
  evV tI (loadV E0 S4 3 (.pointer (some ⟨b7, b8 + 1, none⟩))) fun (n2 : Int) =>
  evC E0 tB 51 [.int .i64 n2] S4 fun (t1 : Bool) (S5 : St) =>
  ifW (!t1) (k (.tuple #[.pointer none, .int .i64 130]) S5)
  (ptrW (some ⟨b4, 0, none⟩) fun (b9 b10 : Nat) =>
  evV tS (loadV E0 S5 64 (.pointer (some ⟨b9, b10 + 2, none⟩))) fun (s1 : Sl) =>
  ifW (!eqI (↑s1.len : Int) 0)
  (ptrW (some ⟨b4, 0, none⟩) fun (b11 b12 : Nat) =>
  evV tS (loadV E0 S5 64 (.pointer (some ⟨b11, b12 + 2, none⟩))) fun (s2 : Sl) =>
  ifW (!eqI (↑s2.len : Int) 4) (k (.tuple #[.pointer none, .int .i64 130]) S5)
  (loopW
  (fun (k2 : Int → St → Prop) (n3 : Int) (S6 : St) =>
  ifW (ltI n3 x1.2)
  (idxW l_0.a l_0.len n3 fun (b13 b14 : Nat) =>
  ptrW (some ⟨b13, b14 + Int.toNat n3 * 3, none⟩) fun (b15 b16 : Nat) =>
  evV tI (loadV E0 S6 3 (.pointer (some ⟨b15, b16 + 0, none⟩))) fun (n4 : Int) =>
  ifW (eqI n4 2)
  (idxW l_0.a l_0.len n3 fun (b17 b18 : Nat) =>
  ptrW (some ⟨b17, b18 + Int.toNat n3 * 3, none⟩) fun (b19 b20 : Nat) =>
  evV tI (loadV E0 S6 3 (.pointer (some ⟨b19, b20 + 1, none⟩))) fun (n5 : Int) =>
  ptrW (some ⟨b4, 0, none⟩) fun (b21 b22 : Nat) =>
  evV tI (loadV E0 S6 3 (.pointer (some ⟨b21, b22 + 1, none⟩))) fun (n6 : Int) =>
  ifW (eqI n5 n6) (k (.tuple #[.pointer none, .int .i64 130]) S6) (k2 (wrapI .i64 (n3 + 1)) S6))
  (k2 (wrapI .i64 (n3 + 1)) S6))
  (ptrW (some ⟨b4, 0, none⟩) fun (b23 b24 : Nat) =>
  evV tS (loadV E0 S6 64 (.pointer (some ⟨b23, b24 + 2, none⟩))) fun (s3 : Sl) =>
  ifW (eqI (↑s3.len : Int) 4)
  (ptrW (some ⟨b4, 0, none⟩) fun (b25 b26 : Nat) =>
  evV tI (loadV E0 S6 3 (.pointer (some ⟨b25, b26 + 1, none⟩))) fun (n7 : Int) =>
  ptrW (some ⟨b1, 0, none⟩) fun (b27 b28 : Nat) =>
  ptrW (some ⟨b27, b28, none⟩) fun (b29 b30 : Nat) =>
  idxW (some ⟨b29, b30 + 0, none⟩) 1024 n7 fun (b31 b32 : Nat) =>
  evS (storeV E0 S6 4 (.pointer (some ⟨b31, b32 + Int.toNat n7 * 1, none⟩)) (.bool true)) fun (S7 : St) =>
  ptrW (some ⟨b4, 0, none⟩) fun (b33 b34 : Nat) =>
  evV tI (loadV E0 S7 3 (.pointer (some ⟨b33, b34 + 1, none⟩))) fun (n8 : Int) =>
  ptrW (some ⟨b4, 0, none⟩) fun (b35 b36 : Nat) =>
  evV tS (loadV E0 S7 64 (.pointer (some ⟨b35, b36 + 2, none⟩))) fun (s4 : Sl) =>
  idxW s4.a s4.len 0 fun (b37 b38 : Nat) =>
  evV tU8 (loadV E0 S7 5 (.pointer (some ⟨b37, b38 + Int.toNat 0 * 1, none⟩))) fun (n9 : Int) =>
  ptrW (some ⟨b4, 0, none⟩) fun (b39 b40 : Nat) =>
  evV tS (loadV E0 S7 64 (.pointer (some ⟨b39, b40 + 2, none⟩))) fun (s5 : Sl) =>
  idxW s5.a s5.len 1 fun (b41 b42 : Nat) =>
  evV tU8 (loadV E0 S7 5 (.pointer (some ⟨b41, b42 + Int.toNat 1 * 1, none⟩))) fun (n10 : Int) =>
  ptrW (some ⟨b4, 0, none⟩) fun (b43 b44 : Nat) =>
  evV tS (loadV E0 S7 64 (.pointer (some ⟨b43, b44 + 2, none⟩))) fun (s6 : Sl) =>
  idxW s6.a s6.len 2 fun (b45 b46 : Nat) =>
  evV tU8 (loadV E0 S7 5 (.pointer (some ⟨b45, b46 + Int.toNat 2 * 1, none⟩))) fun (n11 : Int) =>
  ptrW (some ⟨b4, 0, none⟩) fun (b47 b48 : Nat) =>
  evV tS (loadV E0 S7 64 (.pointer (some ⟨b47, b48 + 2, none⟩))) fun (s7 : Sl) =>
  idxW s7.a s7.len 3 fun (b49 b50 : Nat) =>
  evV tU8 (loadV E0 S7 5 (.pointer (some ⟨b49, b50 + Int.toNat 3 * 1, none⟩))) fun (n12 : Int) =>
  ptrW (some ⟨b1, 0, none⟩) fun (b51 b52 : Nat) =>
  ptrW (some ⟨b51, b52, none⟩) fun (b53 b54 : Nat) =>
  idxW (some ⟨b53, b54 + 1024, none⟩) 1024 n8 fun (b55 b56 : Nat) =>
  evS
  (storeV E0 S7 27 (.pointer (some ⟨b55, b56 + Int.toNat n8 * 1, none⟩))
  (.int .u32
  (wrapI .u32
  (wrapI .u32
  (wrapI .u32
  (wrapI .u32 (wrapI .u32 n9 * 16777216) +
  wrapI .u32 (wrapI .u32 n10 * 65536)) +
  wrapI .u32 (wrapI .u32 n11 * 256)) +
  wrapI .u32 n12))))
  fun (S8 : St) => k1 (wrapI .i64 (x1.1 + 1), wrapI .i64 (x1.2 + 1)) S8)
  (k1 (x1.1, wrapI .i64 (x1.2 + 1)) S6)))
  0 S5))
  (loopW
  (fun (k3 : Int → St → Prop) (n13 : Int) (S9 : St) =>
  ifW (ltI n13 x1.2)
  (idxW l_0.a l_0.len n13 fun (b57 b58 : Nat) =>
  ptrW (some ⟨b57, b58 + Int.toNat n13 * 3, none⟩) fun (b59 b60 : Nat) =>
  evV tI (loadV E0 S9 3 (.pointer (some ⟨b59, b60 + 0, none⟩))) fun (n14 : Int) =>
  ifW (eqI n14 2)
  (idxW l_0.a l_0.len n13 fun (b61 b62 : Nat) =>
  ptrW (some ⟨b61, b62 + Int.toNat n13 * 3, none⟩) fun (b63 b64 : Nat) =>
  evV tI (loadV E0 S9 3 (.pointer (some ⟨b63, b64 + 1, none⟩))) fun (n15 : Int) =>
  ptrW (some ⟨b4, 0, none⟩) fun (b65 b66 : Nat) =>
  evV tI (loadV E0 S9 3 (.pointer (some ⟨b65, b66 + 1, none⟩))) fun (n16 : Int) =>
  ifW (eqI n15 n16) (k (.tuple #[.pointer none, .int .i64 130]) S9) (k3 (wrapI .i64 (n13 + 1)) S9))
  (k3 (wrapI .i64 (n13 + 1)) S9))
  (ptrW (some ⟨b4, 0, none⟩) fun (b67 b68 : Nat) =>
  evV tS (loadV E0 S9 64 (.pointer (some ⟨b67, b68 + 2, none⟩))) fun (s8 : Sl) =>
  ifW (eqI (↑s8.len : Int) 4)
  (ptrW (some ⟨b4, 0, none⟩) fun (b69 b70 : Nat) =>
  evV tI (loadV E0 S9 3 (.pointer (some ⟨b69, b70 + 1, none⟩))) fun (n17 : Int) =>
  ptrW (some ⟨b1, 0, none⟩) fun (b71 b72 : Nat) =>
  ptrW (some ⟨b71, b72, none⟩) fun (b73 b74 : Nat) =>
  idxW (some ⟨b73, b74 + 0, none⟩) 1024 n17 fun (b75 b76 : Nat) =>
  evS (storeV E0 S9 4 (.pointer (some ⟨b75, b76 + Int.toNat n17 * 1, none⟩)) (.bool true)) fun (S10 : St) =>
  ptrW (some ⟨b4, 0, none⟩) fun (b77 b78 : Nat) =>
  evV tI (loadV E0 S10 3 (.pointer (some ⟨b77, b78 + 1, none⟩))) fun (n18 : Int) =>
  ptrW (some ⟨b4, 0, none⟩) fun (b79 b80 : Nat) =>
  evV tS (loadV E0 S10 64 (.pointer (some ⟨b79, b80 + 2, none⟩))) fun (s9 : Sl) =>
  idxW s9.a s9.len 0 fun (b81 b82 : Nat) =>
  evV tU8 (loadV E0 S10 5 (.pointer (some ⟨b81, b82 + Int.toNat 0 * 1, none⟩))) fun (n19 : Int) =>
  ptrW (some ⟨b4, 0, none⟩) fun (b83 b84 : Nat) =>
  evV tS (loadV E0 S10 64 (.pointer (some ⟨b83, b84 + 2, none⟩))) fun (s10 : Sl) =>
  idxW s10.a s10.len 1 fun (b85 b86 : Nat) =>
  evV tU8 (loadV E0 S10 5 (.pointer (some ⟨b85, b86 + Int.toNat 1 * 1, none⟩))) fun (n20 : Int) =>
  ptrW (some ⟨b4, 0, none⟩) fun (b87 b88 : Nat) =>
  evV tS (loadV E0 S10 64 (.pointer (some ⟨b87, b88 + 2, none⟩))) fun (s11 : Sl) =>
  idxW s11.a s11.len 2 fun (b89 b90 : Nat) =>
  evV tU8 (loadV E0 S10 5 (.pointer (some ⟨b89, b90 + Int.toNat 2 * 1, none⟩))) fun (n21 : Int) =>
  ptrW (some ⟨b4, 0, none⟩) fun (b91 b92 : Nat) =>
  evV tS (loadV E0 S10 64 (.pointer (some ⟨b91, b92 + 2, none⟩))) fun (s12 : Sl) =>
  idxW s12.a s12.len 3 fun (b93 b94 : Nat) =>
  evV tU8 (loadV E0 S10 5 (.pointer (some ⟨b93, b94 + Int.toNat 3 * 1, none⟩))) fun (n22 : Int) =>
  ptrW (some ⟨b1, 0, none⟩) fun (b95 b96 : Nat) =>
  ptrW (some ⟨b95, b96, none⟩) fun (b97 b98 : Nat) =>
  idxW (some ⟨b97, b98 + 1024, none⟩) 1024 n18 fun (b99 b100 : Nat) =>
  evS
  (storeV E0 S10 27 (.pointer (some ⟨b99, b100 + Int.toNat n18 * 1, none⟩))
  (.int .u32
  (wrapI .u32
  (wrapI .u32
  (wrapI .u32
  (wrapI .u32 (wrapI .u32 n19 * 16777216) +
  wrapI .u32 (wrapI .u32 n20 * 65536)) +
  wrapI .u32 (wrapI .u32 n21 * 256)) +
  wrapI .u32 n22))))
  fun (S11 : St) => k1 (wrapI .i64 (x1.1 + 1), wrapI .i64 (x1.2 + 1)) S11)
  (k1 (x1.1, wrapI .i64 (x1.2 + 1)) S9)))
  0 S5))))
  (ifW (ltI 16 x1.1) (k (.tuple #[.pointer none, .int .i64 151]) S2) (k (.tuple #[.pointer (some ⟨b1, 0, none⟩), .int .i64 0]) S2)))
  (0, 0) S1
theorem w25 (l_0 : Sl) {S : St} {k : Value → St → Prop} (h : c25 l_0 S k) : WC E0 25 [.slice l_0.a l_0.len l_0.cap] S k :=
  WC_den h25 rfl (by kernel_rfl) (by kernel_rfl : Try.f25.body = some (bodyOf Try.f25)) (by rw [show (denF E0 h25 Try.f25 (bodyOf Try.f25) [.slice l_0.a l_0.len l_0.cap] S k) = c25 l_0 S k by kernel_rfl]; exact h)

/-! 26 wagonway/wagonwayref14.Load -/
noncomputable def h26 : Hn := (.n .no (.n .no (.n .no (.n (.n .no (.n (.n (.n .no (.n (.n (.n .no (.n .no (.n .no (.n .no (.n .no .no (some ⟨[1, 3, 10, 12, 13], [(14, .sc (.int .i64))], false⟩)) none) none) none) none) .no none) .no none) none) .no (some ⟨[1, 3, 10], [(12, .sc (.int .i64))], false⟩)) .no none) none) .no none) none) none) none)
def c26 (home_0 : Int) (robots_1 : Int) (cells_2 : Int) (r_3 : Sl) (S : St) (k : Value → St → Prop) : Prop :=
  evC E0 (TT.tup [Ty.sc Sc.ptr, Ty.sc (Sc.int .i64)]) 52 [.int .i64 home_0, .int .i64 robots_1, .int .i64 cells_2] S fun (x1 : Option Addr × Int) (S1 : St) =>
  ifW (!eqI x1.2 0) (k (.tuple #[.pointer none, .int .i64 x1.2]) S1)
  (loopW
  (fun (k1 : Int → St → Prop) (n1 : Int) (S2 : St) =>
  ifW (ltI n1 (↑r_3.len : Int))
  (idxW r_3.a r_3.len n1 fun (b1 b2 : Nat) =>
  ptrW (some ⟨b1, b2 + Int.toNat n1 * 3, none⟩) fun (b3 b4 : Nat) =>
  evV tI (loadV E0 S2 3 (.pointer (some ⟨b3, b4 + 0, none⟩))) fun (n2 : Int) =>
  ifW (!eqI n2 3) (k1 (wrapI .i64 (n1 + 1)) S2)
  (idxW r_3.a r_3.len n1 fun (b5 b6 : Nat) =>
  ptrW (some ⟨b5, b6 + Int.toNat n1 * 3, none⟩) fun (b7 b8 : Nat) =>
  evV tS (loadV E0 S2 64 (.pointer (some ⟨b7, b8 + 2, none⟩))) fun (s1 : Sl) =>
  ifW (!eqI (↑s1.len : Int) 5) (k (.tuple #[.pointer none, .int .i64 140]) S2)
  (idxW r_3.a r_3.len n1 fun (b9 b10 : Nat) =>
  ptrW (some ⟨b9, b10 + Int.toNat n1 * 3, none⟩) fun (b11 b12 : Nat) =>
  evV tI (loadV E0 S2 3 (.pointer (some ⟨b11, b12 + 1, none⟩))) fun (n3 : Int) =>
  evC E0 tB 53 [.pointer x1.1, .int .i64 n3] S2 fun (t1 : Bool) (S3 : St) =>
  ifW (!t1) (k (.tuple #[.pointer none, .int .i64 140]) S3)
  (ptrW x1.1 fun (b13 b14 : Nat) =>
  ptrW (some ⟨b13, b14, none⟩) fun (b15 b16 : Nat) =>
  evV tS (loadV E0 S3 169 (.pointer (some ⟨b15, b16 + 2, none⟩))) fun (s2 : Sl) =>
  idxW r_3.a r_3.len n1 fun (b17 b18 : Nat) =>
  ptrW (some ⟨b17, b18 + Int.toNat n1 * 3, none⟩) fun (b19 b20 : Nat) =>
  evV tI (loadV E0 S3 3 (.pointer (some ⟨b19, b20 + 1, none⟩))) fun (n4 : Int) =>
  idxW s2.a s2.len n4 fun (b21 b22 : Nat) =>
  ptrW (some ⟨b21, b22 + Int.toNat n4 * 3, none⟩) fun (b23 b24 : Nat) =>
  evV tI (loadV E0 S3 3 (.pointer (some ⟨b23, b24 + 0, none⟩))) fun (n5 : Int) =>
  ifW (!eqI n5 (-1)) (k (.tuple #[.pointer none, .int .i64 140]) S3)
  (ptrW x1.1 fun (b25 b26 : Nat) =>
  ptrW (some ⟨b25, b26, none⟩) fun (b27 b28 : Nat) =>
  evV tS (loadV E0 S3 169 (.pointer (some ⟨b27, b28 + 2, none⟩))) fun (s3 : Sl) =>
  idxW r_3.a r_3.len n1 fun (b29 b30 : Nat) =>
  ptrW (some ⟨b29, b30 + Int.toNat n1 * 3, none⟩) fun (b31 b32 : Nat) =>
  evV tI (loadV E0 S3 3 (.pointer (some ⟨b31, b32 + 1, none⟩))) fun (n6 : Int) =>
  idxW s3.a s3.len n6 fun (b33 b34 : Nat) =>
  ptrW (some ⟨b33, b34 + Int.toNat n6 * 3, none⟩) fun (b35 b36 : Nat) =>
  evV tU32 (loadV E0 S3 27 (.pointer (some ⟨b35, b36 + 1, none⟩))) fun (n7 : Int) =>
  ifW (!eqI n7 0) (k (.tuple #[.pointer none, .int .i64 140]) S3)
  (idxW s1.a s1.len 0 fun (b37 b38 : Nat) =>
  evV tU8 (loadV E0 S3 5 (.pointer (some ⟨b37, b38 + Int.toNat 0 * 1, none⟩))) fun (n8 : Int) =>
  joinW
  (fun (n9 : Int) (S4 : St) =>
  idxW s1.a s1.len 1 fun (b39 b40 : Nat) =>
  evV tU8 (loadV E0 S4 5 (.pointer (some ⟨b39, b40 + Int.toNat 1 * 1, none⟩))) fun (n10 : Int) =>
  idxW s1.a s1.len 2 fun (b41 b42 : Nat) =>
  evV tU8 (loadV E0 S4 5 (.pointer (some ⟨b41, b42 + Int.toNat 2 * 1, none⟩))) fun (n11 : Int) =>
  idxW s1.a s1.len 3 fun (b43 b44 : Nat) =>
  evV tU8 (loadV E0 S4 5 (.pointer (some ⟨b43, b44 + Int.toNat 3 * 1, none⟩))) fun (n12 : Int) =>
  idxW s1.a s1.len 4 fun (b45 b46 : Nat) =>
  evV tU8 (loadV E0 S4 5 (.pointer (some ⟨b45, b46 + Int.toNat 4 * 1, none⟩))) fun (n13 : Int) =>
  ifW (leI robots_1 n9) (k (.tuple #[.pointer none, .int .i64 140]) S4)
  (ifW (eqI n9 (-1))
  (ifW
  (eqI
  (wrapI .i64
  (wrapI .i64
  (wrapI .i64
  (wrapI .i64 (wrapI .i64 n10 * 16777216) +
  wrapI .i64 (wrapI .i64 n11 * 65536)) +
  wrapI .i64 (wrapI .i64 n12 * 256)) +
  wrapI .i64 n13))
  0)
  (k (.tuple #[.pointer none, .int .i64 140]) S4)
  (ptrW x1.1 fun (b47 b48 : Nat) =>
  ptrW (some ⟨b47, b48, none⟩) fun (b49 b50 : Nat) =>
  evV tS (loadV E0 S4 169 (.pointer (some ⟨b49, b50 + 2, none⟩))) fun (s4 : Sl) =>
  idxW r_3.a r_3.len n1 fun (b51 b52 : Nat) =>
  ptrW (some ⟨b51, b52 + Int.toNat n1 * 3, none⟩) fun (b53 b54 : Nat) =>
  evV tI (loadV E0 S4 3 (.pointer (some ⟨b53, b54 + 1, none⟩))) fun (n14 : Int) =>
  idxW s4.a s4.len n14 fun (b55 b56 : Nat) =>
  evS
  (storeV E0 S4 168 (.pointer (some ⟨b55, b56 + Int.toNat n14 * 3, none⟩))
  (.agg
  #[.int .i64 n9,
  .int .u32
  (wrapI .u32
  (wrapI .i64
  (wrapI .i64
  (wrapI .i64
  (wrapI .i64 (wrapI .i64 n10 * 16777216) +
  wrapI .i64 (wrapI .i64 n11 * 65536)) +
  wrapI .i64 (wrapI .i64 n12 * 256)) +
  wrapI .i64 n13))),
  .slice none 0 0]))
  fun (S5 : St) => k1 (wrapI .i64 (n1 + 1)) S5))
  (ptrW x1.1 fun (b57 b58 : Nat) =>
  ptrW (some ⟨b57, b58, none⟩) fun (b59 b60 : Nat) =>
  evV tS (loadV E0 S4 169 (.pointer (some ⟨b59, b60 + 2, none⟩))) fun (s5 : Sl) =>
  idxW r_3.a r_3.len n1 fun (b61 b62 : Nat) =>
  ptrW (some ⟨b61, b62 + Int.toNat n1 * 3, none⟩) fun (b63 b64 : Nat) =>
  evV tI (loadV E0 S4 3 (.pointer (some ⟨b63, b64 + 1, none⟩))) fun (n15 : Int) =>
  idxW s5.a s5.len n15 fun (b65 b66 : Nat) =>
  evS
  (storeV E0 S4 168 (.pointer (some ⟨b65, b66 + Int.toNat n15 * 3, none⟩))
  (.agg
  #[.int .i64 n9,
  .int .u32
  (wrapI .u32
  (wrapI .i64
  (wrapI .i64
  (wrapI .i64
  (wrapI .i64 (wrapI .i64 n10 * 16777216) +
  wrapI .i64 (wrapI .i64 n11 * 65536)) +
  wrapI .i64 (wrapI .i64 n12 * 256)) +
  wrapI .i64 n13))),
  .slice none 0 0]))
  fun (S6 : St) => k1 (wrapI .i64 (n1 + 1)) S6)))
  fun (k2 : Int → St → Prop) => ifW (eqI (wrapI .i64 n8) 255) (k2 (-1) S3) (k2 (wrapI .i64 n8) S3)))))))
  (k (.tuple #[.pointer x1.1, .int .i64 0]) S2))
  0 S1)
theorem w26 (home_0 : Int) (robots_1 : Int) (cells_2 : Int) (r_3 : Sl) {S : St} {k : Value → St → Prop} (h : c26 home_0 robots_1 cells_2 r_3 S k) : WC E0 26 [.int .i64 home_0, .int .i64 robots_1, .int .i64 cells_2, .slice r_3.a r_3.len r_3.cap] S k :=
  WC_den h26 rfl (by kernel_rfl) (by kernel_rfl : Try.f26.body = some (bodyOf Try.f26)) (by rw [show (denF E0 h26 Try.f26 (bodyOf Try.f26) [.int .i64 home_0, .int .i64 robots_1, .int .i64 cells_2, .slice r_3.a r_3.len r_3.cap] S k) = c26 home_0 robots_1 cells_2 r_3 S k by kernel_rfl]; exact h)

/-! 28 wagonway/wagonwayref17.New -/
noncomputable def h28 : Hn := (.n .no (.n .no (.n (.n .no (.n (.n .no .no (some ⟨[1], [(2, .sc (.int .i64))], false⟩)) .no none) none) .no none) none) none)
def c28  (S : St) (k : Value → St → Prop) : Prop :=
  newW S
  (.cells
  [.int .i64 0, .int .i64 0, .int .i64 0, .int .i64 0, .int .i64 0, .int .i64 0, .int .i64 0, .int .i64 0,
  .int .i64 0, .int .i64 0, .int .i64 0, .int .i64 0, .int .i64 0, .int .i64 0, .int .i64 0, .int .i64 0,
  .int .i64 0, .int .i64 0, .int .i64 0, .int .i64 0, .int .i64 0, .int .i64 0, .int .i64 0, .int .i64 0,
  .int .i64 0, .int .i64 0, .int .i64 0, .int .i64 0, .int .i64 0, .int .i64 0, .int .i64 0, .int .i64 0,
  .int .i64 0, .int .i64 0, .int .i64 0, .int .i64 0, .int .i64 0, .int .i64 0, .int .i64 0, .int .i64 0,
  .int .i64 0, .int .i64 0, .int .i64 0, .int .i64 0, .int .i64 0, .int .i64 0, .int .i64 0, .int .i64 0,
  .int .i64 0, .int .i64 0, .int .i64 0, .int .i64 0, .int .i64 0, .int .i64 0, .int .i64 0, .int .i64 0,
  .int .i64 0, .int .i64 0, .int .i64 0, .int .i64 0, .int .i64 0, .int .i64 0, .int .i64 0, .int .i64 0,
  .int .i64 0]
  none false none)
  fun (b1 : Nat) (S1 : St) =>
  loopW
  (fun (k1 : Int → St → Prop) (n1 : Int) (S2 : St) =>
  ifW (ltI n1 64)
  (ptrW (some ⟨b1, 0, none⟩) fun (b2 b3 : Nat) =>
  ptrW (some ⟨b2, b3, none⟩) fun (b4 b5 : Nat) =>
  idxW (some ⟨b4, b5 + 1, none⟩) 64 n1 fun (b6 b7 : Nat) =>
  evS (storeV E0 S2 3 (.pointer (some ⟨b6, b7 + Int.toNat n1 * 1, none⟩)) (.int .i64 (-1))) fun (S3 : St) => k1 (wrapI .i64 (n1 + 1)) S3)
  (k (.pointer (some ⟨b1, 0, none⟩)) S2))
  0 S1
theorem w28  {S : St} {k : Value → St → Prop} (h : c28  S k) : WC E0 28 [] S k :=
  WC_den h28 rfl (by kernel_rfl) (by kernel_rfl : Try.f28.body = some (bodyOf Try.f28)) (by rw [show (denF E0 h28 Try.f28 (bodyOf Try.f28) [] S k) = c28  S k by kernel_rfl]; exact h)

/-! 29 (*wagonway/wagonwayref17.Holder).Own -/
noncomputable def h29 : Hn := .no
def c29 (h_0 : Option Addr) (prio_1 : Int) (S : St) (k : Value → St → Prop) : Prop :=
  ifW (ltI prio_1 0) (k (.tuple #[.bool false, .int .i64 2]) S)
  (ifW (ltI 15 prio_1) (k (.tuple #[.bool false, .int .i64 2]) S)
  (evC E0 tI 54 [.pointer h_0] S fun (n1 : Int) (S1 : St) =>
  ptrW h_0 fun (b1 b2 : Nat) =>
  ptrW (some ⟨b1, b2, none⟩) fun (b3 b4 : Nat) =>
  evS (storeV E0 S1 3 (.pointer (some ⟨b3, b4 + 0, none⟩)) (.int .i64 prio_1)) fun (S2 : St) =>
  evC E0 tI 54 [.pointer h_0] S2 fun (n2 : Int) (S3 : St) => k (.tuple #[.bool !eqI n2 n1, .int .i64 0]) S3))
theorem w29 (h_0 : Option Addr) (prio_1 : Int) {S : St} {k : Value → St → Prop} (h : c29 h_0 prio_1 S k) : WC E0 29 [.pointer h_0, .int .i64 prio_1] S k :=
  WC_den h29 rfl (by kernel_rfl) (by kernel_rfl : Try.f29.body = some (bodyOf Try.f29)) (by rw [show (denF E0 h29 Try.f29 (bodyOf Try.f29) [.pointer h_0, .int .i64 prio_1] S k) = c29 h_0 prio_1 S k by kernel_rfl]; exact h)

/-! 32 (*wagonway/claim.Claims).All -/
noncomputable def h32 : Hn := .no
def c32 (c_0 : Option Addr) (S : St) (k : Value → St → Prop) : Prop :=
  eqW E0 S 91 (.pointer c_0) (.pointer none) fun (t1 : Bool) =>
  ifW t1 (k (.slice none 0 0) S)
  (ptrW c_0 fun (b1 b2 : Nat) =>
  ptrW (some ⟨b1, b2, none⟩) fun (b3 b4 : Nat) =>
  evV tS (loadV E0 S 47 (.pointer (some ⟨b3, b4 + 0, none⟩))) fun (s1 : Sl) => evC E0 tS 55 [.slice s1.a s1.len s1.cap] S fun (s2 : Sl) (S1 : St) => k (.slice s2.a s2.len s2.cap) S1)
theorem w32 (c_0 : Option Addr) {S : St} {k : Value → St → Prop} (h : c32 c_0 S k) : WC E0 32 [.pointer c_0] S k :=
  WC_den h32 rfl (by kernel_rfl) (by kernel_rfl : Try.f32.body = some (bodyOf Try.f32)) (by rw [show (denF E0 h32 Try.f32 (bodyOf Try.f32) [.pointer c_0] S k) = c32 c_0 S k by kernel_rfl]; exact h)

/-! 40 wagonway/claim.known -/
noncomputable def h40 : Hn := .no
def c40 (cell_0 : Int) (S : St) (k : Value → St → Prop) : Prop :=
  ifW (leI 0 cell_0) (k (.bool (ltI cell_0 1024)) S) (k (.bool false) S)
theorem w40 (cell_0 : Int) {S : St} {k : Value → St → Prop} (h : c40 cell_0 S k) : WC E0 40 [.int .i64 cell_0] S k :=
  WC_den h40 rfl (by kernel_rfl) (by kernel_rfl : Try.f40.body = some (bodyOf Try.f40)) (by rw [show (denF E0 h40 Try.f40 (bodyOf Try.f40) [.int .i64 cell_0] S k) = c40 cell_0 S k by kernel_rfl]; exact h)

/-! 41 (*wagonway/claim.Claims).find -/
noncomputable def h41 : Hn := .no
def c41 (c_0 : Option Addr) (cell_1 : Int) (S : St) (k : Value → St → Prop) : Prop :=
  eqW E0 S 91 (.pointer c_0) (.pointer none) fun (t1 : Bool) =>
  ifW t1 (k (.tuple #[.int .i64 0, .bool false]) S)
  (ptrW c_0 fun (b1 b2 : Nat) =>
  ptrW (some ⟨b1, b2, none⟩) fun (b3 b4 : Nat) =>
  evV tS (loadV E0 S 47 (.pointer (some ⟨b3, b4 + 0, none⟩))) fun (s1 : Sl) =>
  evC E0 (TT.tup [Ty.sc (Sc.int .i64), Ty.sc Sc.bool]) 60 [.slice s1.a s1.len s1.cap, .int .i64 cell_1, .func (Fn.func 61) #[] #[]] S fun (x1 : Int × Bool) (S1 : St) =>
  k (.tuple #[.int .i64 x1.1, .bool x1.2]) S1)
theorem w41 (c_0 : Option Addr) (cell_1 : Int) {S : St} {k : Value → St → Prop} (h : c41 c_0 cell_1 S k) : WC E0 41 [.pointer c_0, .int .i64 cell_1] S k :=
  WC_den h41 rfl (by kernel_rfl) (by kernel_rfl : Try.f41.body = some (bodyOf Try.f41)) (by rw [show (denF E0 h41 Try.f41 (bodyOf Try.f41) [.pointer c_0, .int .i64 cell_1] S k) = c41 c_0 cell_1 S k by kernel_rfl]; exact h)

/-! 43 wagonway/ledger.New -/
noncomputable def h43 : Hn := .no
def c43 (home_0 : Int) (robots_1 : Int) (cells_2 : Int) (S : St) (k : Value → St → Prop) : Prop :=
  ifW (ltI robots_1 1) (k (.tuple #[.pointer none, .int .i64 2]) S)
  (ifW (ltI 64 robots_1) (k (.tuple #[.pointer none, .int .i64 2]) S)
  (ifW (ltI home_0 0) (k (.tuple #[.pointer none, .int .i64 2]) S)
  (ifW (leI robots_1 home_0) (k (.tuple #[.pointer none, .int .i64 2]) S)
  (ifW (ltI cells_2 1) (k (.tuple #[.pointer none, .int .i64 2]) S)
  (ifW (ltI 1024 cells_2) (k (.tuple #[.pointer none, .int .i64 2]) S)
  (newW S (DObj.map [] 0) fun (b1 : Nat) (S1 : St) =>
  newW S1 (DObj.map [] 0) fun (b2 : Nat) (S2 : St) =>
  newW S2 (DObj.map [] 0) fun (b3 : Nat) (S3 : St) =>
  evS (mapUpdateD E0 S3 106 (.map (some b3)) (.int .i64 home_0) (.int .i64 1)) fun (S4 : St) =>
  newW S4 (.cells [.int .i64 home_0, .int .i64 robots_1, .int .i64 cells_2, .map (some b1), .map (some b2), .map (some b3)] none false none)
  fun (b4 : Nat) (S5 : St) => k (.tuple #[.pointer (some ⟨b4, 0, none⟩), .int .i64 0]) S5))))))
theorem w43 (home_0 : Int) (robots_1 : Int) (cells_2 : Int) {S : St} {k : Value → St → Prop} (h : c43 home_0 robots_1 cells_2 S k) : WC E0 43 [.int .i64 home_0, .int .i64 robots_1, .int .i64 cells_2] S k :=
  WC_den h43 rfl (by kernel_rfl) (by kernel_rfl : Try.f43.body = some (bodyOf Try.f43)) (by rw [show (denF E0 h43 Try.f43 (bodyOf Try.f43) [.int .i64 home_0, .int .i64 robots_1, .int .i64 cells_2] S k) = c43 home_0 robots_1 cells_2 S k by kernel_rfl]; exact h)

/-! 44 wagonway/ledger.read -/
noncomputable def h44 : Hn := (.n .no (.n .no (.n .no (.n .no (.n (.n .no (.n (.n .no .no (some ⟨[2, 4, 26, 27], [(28, .sc (.int .i64))], false⟩)) .no none) none) .no none) (some ⟨[1, 2, 4], [], false⟩)) none) none) none)
def c44 (r_0 : Int × Int × Sl) (S : St) (k : Value → St → Prop) : Prop :=
  newW S (.cells [.int .i64 r_0.1, .int .i64 r_0.2.1, .slice r_0.2.2.a r_0.2.2.len r_0.2.2.cap] none false none) fun (b1 : Nat) (S1 : St) =>
  newW S1 (.cells [.int .i64 0, .int .u32 0] none false none) fun (b2 : Nat) (S2 : St) =>
  ptrW (some ⟨b1, 0, none⟩) fun (b3 b4 : Nat) =>
  evV tS (loadV E0 S2 64 (.pointer (some ⟨b3, b4 + 2, none⟩))) fun (s1 : Sl) =>
  ifW (!eqI (↑s1.len : Int) 5)
  (evS (storeV E0 S2 153 (.pointer (some ⟨b2, 0, none⟩)) (.agg #[.int .i64 0, .int .u32 0])) fun (S3 : St) =>
  evV (TT.one (Ty.agg G131)) (loadV E0 S3 153 (.pointer (some ⟨b2, 0, none⟩))) fun (x1 : Int × Int) => k (.tuple #[sv G131 x1, .bool false]) S3)
  (ptrW (some ⟨b1, 0, none⟩) fun (b5 b6 : Nat) =>
  evV tS (loadV E0 S2 64 (.pointer (some ⟨b5, b6 + 2, none⟩))) fun (s2 : Sl) =>
  idxW s2.a s2.len 0 fun (b7 b8 : Nat) =>
  evV tU8 (loadV E0 S2 5 (.pointer (some ⟨b7, b8 + Int.toNat 0 * 1, none⟩))) fun (n1 : Int) =>
  newW S2 (.cells [.int .i64 0, .int .u32 0] none false none) fun (b9 : Nat) (S4 : St) =>
  evS (storeV E0 S4 153 (.pointer (some ⟨b9, 0, none⟩)) (.agg #[.int .i64 (wrapI .i64 n1), .int .u32 0])) fun (S5 : St) =>
  joinW
  (fun (x2 : PUnit) (S6 : St) =>
  ptrW (some ⟨b1, 0, none⟩) fun (b10 b11 : Nat) =>
  evV tS (loadV E0 S6 64 (.pointer (some ⟨b10, b11 + 2, none⟩))) fun (s3 : Sl) =>
  evV tS (sliceD E0 S6 64 (.slice s3.a s3.len s3.cap) (some (.int .i64 1)) none none) fun (s4 : Sl) =>
  loopW
  (fun (k1 : Int → St → Prop) (n2 : Int) (S7 : St) =>
  ifW (ltI n2 (↑s4.len : Int))
  (idxW s4.a s4.len n2 fun (b12 b13 : Nat) =>
  evV tU8 (loadV E0 S7 5 (.pointer (some ⟨b12, b13 + Int.toNat n2 * 1, none⟩))) fun (n3 : Int) =>
  ptrW (some ⟨b9, 0, none⟩) fun (b14 b15 : Nat) =>
  evV tU32 (loadV E0 S7 27 (.pointer (some ⟨b14, b15 + 1, none⟩))) fun (n4 : Int) =>
  needW true
  (ptrW (some ⟨b9, 0, none⟩) fun (b16 b17 : Nat) =>
  evS
  (storeV E0 S7 27 (.pointer (some ⟨b16, b17 + 1, none⟩))
  (.int .u32 (orI .u32 (wrapI .u32 (n4 * (↑(2 ^ min (Int.toNat 8) 32) : Int))) (wrapI .u32 n3))))
  fun (S8 : St) => k1 (wrapI .i64 (n2 + 1)) S8))
  (evV (TT.one (Ty.agg G131)) (loadV E0 S7 153 (.pointer (some ⟨b9, 0, none⟩))) fun (x3 : Int × Int) =>
  evV (TT.one (Ty.agg G131)) (loadV E0 S7 153 (.pointer (some ⟨b9, 0, none⟩))) fun (x4 : Int × Int) =>
  evC E0 (TT.one (Ty.agg G131)) 65 [] S7 fun (x5 : Int × Int) (S9 : St) =>
  evV (TT.one (Ty.agg G131)) (loadV E0 S9 153 (.pointer (some ⟨b9, 0, none⟩))) fun (x6 : Int × Int) =>
  sameV (sv G131 x6) (sv G131 x4)
  (evV (TT.one (Ty.agg G131)) (loadV E0 S9 153 (.pointer (some ⟨b9, 0, none⟩))) fun (x7 : Int × Int) =>
  sameV (sv G131 x7) (sv G131 x3)
  (eqW E0 S9 153 (sv G131 x4) (sv G131 x5) fun (t1 : Bool) =>
  evS (storeV E0 S9 153 (.pointer (some ⟨b2, 0, none⟩)) (sv G131 x3)) fun (S10 : St) =>
  eqW E0 S10 153 (sv G131 x4) (sv G131 x5) fun (t2 : Bool) =>
  sameV (.bool !t2) (.bool !t1)
  (evV (TT.one (Ty.agg G131)) (loadV E0 S10 153 (.pointer (some ⟨b9, 0, none⟩))) fun (x8 : Int × Int) =>
  sameV (sv G131 x8) (sv G131 x4)
  (evV (TT.one (Ty.agg G131)) (loadV E0 S10 153 (.pointer (some ⟨b2, 0, none⟩))) fun (x9 : Int × Int) =>
  k (.tuple #[sv G131 x9, .bool !t1]) S10))))))
  0 S6)
  fun (k2 : PUnit → St → Prop) =>
  ptrW (some ⟨b1, 0, none⟩) fun (b18 b19 : Nat) =>
  evV tS (loadV E0 S5 64 (.pointer (some ⟨b18, b19 + 2, none⟩))) fun (s5 : Sl) =>
  idxW s5.a s5.len 0 fun (b20 b21 : Nat) =>
  evV tU8 (loadV E0 S5 5 (.pointer (some ⟨b20, b21 + Int.toNat 0 * 1, none⟩))) fun (n5 : Int) =>
  ifW (eqI n5 255)
  (ptrW (some ⟨b9, 0, none⟩) fun (b22 b23 : Nat) =>
  evS (storeV E0 S5 3 (.pointer (some ⟨b22, b23 + 0, none⟩)) (.int .i64 (-1))) fun (S11 : St) => k2 PUnit.unit S11)
  (k2 PUnit.unit S5))
theorem w44 (r_0 : Int × Int × Sl) {S : St} {k : Value → St → Prop} (h : c44 r_0 S k) : WC E0 44 [sv G145 r_0] S k :=
  WC_den h44 rfl (by kernel_rfl) (by kernel_rfl : Try.f44.body = some (bodyOf Try.f44)) (by rw [show (denF E0 h44 Try.f44 (bodyOf Try.f44) [sv G145 r_0] S k) = c44 r_0 S k by kernel_rfl]; exact h)

/-! 45 (*wagonway/ledger.Ledger).Is -/
noncomputable def h45 : Hn := .no
def c45 (l_0 : Option Addr) (cell_1 : Int) (S : St) (k : Value → St → Prop) : Prop :=
  evC E0 tB 66 [.pointer l_0] S fun (t1 : Bool) (S1 : St) =>
  ifW (!t1)
  (ifW (leI 0 cell_1)
  (ptrW l_0 fun (b1 b2 : Nat) =>
  ptrW (some ⟨b1, b2, none⟩) fun (b3 b4 : Nat) =>
  evV tI (loadV E0 S1 3 (.pointer (some ⟨b3, b4 + 2, none⟩))) fun (n1 : Int) =>
  ifW (ltI cell_1 n1)
  (ptrW l_0 fun (b5 b6 : Nat) =>
  ptrW (some ⟨b5, b6, none⟩) fun (b7 b8 : Nat) =>
  evV tI (loadV E0 S1 3 (.pointer (some ⟨b7, b8 + 1, none⟩))) fun (n2 : Int) =>
  needW (!decide (n2 = 0))
  (ptrW l_0 fun (b9 b10 : Nat) =>
  ptrW (some ⟨b9, b10, none⟩) fun (b11 b12 : Nat) =>
  evV tI (loadV E0 S1 3 (.pointer (some ⟨b11, b12 + 0, none⟩))) fun (n3 : Int) => k (.bool (eqI (Int.tmod cell_1 n2) n3)) S1))
  (k (.bool false) S1))
  (k (.bool false) S1))
  (k (.bool false) S1)
theorem w45 (l_0 : Option Addr) (cell_1 : Int) {S : St} {k : Value → St → Prop} (h : c45 l_0 cell_1 S k) : WC E0 45 [.pointer l_0, .int .i64 cell_1] S k :=
  WC_den h45 rfl (by kernel_rfl) (by kernel_rfl : Try.f45.body = some (bodyOf Try.f45)) (by rw [show (denF E0 h45 Try.f45 (bodyOf Try.f45) [.pointer l_0, .int .i64 cell_1] S k) = c45 l_0 cell_1 S k by kernel_rfl]; exact h)

/-! 48 wagonway/inherit.may -/
noncomputable def h48 : Hn := .no
def c48 (prio_0 : Int) (S : St) (k : Value → St → Prop) : Prop :=
  ifW (leI 0 prio_0) (k (.bool (leI prio_0 15)) S) (k (.bool false) S)
theorem w48 (prio_0 : Int) {S : St} {k : Value → St → Prop} (h : c48 prio_0 S k) : WC E0 48 [.int .i64 prio_0] S k :=
  WC_den h48 rfl (by kernel_rfl) (by kernel_rfl : Try.f48.body = some (bodyOf Try.f48)) (by rw [show (denF E0 h48 Try.f48 (bodyOf Try.f48) [.int .i64 prio_0] S k) = c48 prio_0 S k by kernel_rfl]; exact h)

/-! 49 (*wagonway/inherit.Holder).turned -/
noncomputable def h49 : Hn := .no
def c49 (h_0 : Option Addr) (do_1 : Value) (S : St) (k : Value → St → Prop) : Prop :=
  evC E0 tI 67 [.pointer h_0] S fun (n1 : Int) (S1 : St) => evY E0 (TT.tup []) do_1 [] S1 fun (x1 : PUnit) (S2 : St) => evC E0 tI 67 [.pointer h_0] S2 fun (n2 : Int) (S3 : St) => k (.bool !eqI n2 n1) S3
theorem w49 (h_0 : Option Addr) (do_1 : Value) {S : St} {k : Value → St → Prop} (h : c49 h_0 do_1 S k) : WC E0 49 [.pointer h_0, do_1] S k :=
  WC_den h49 rfl (by kernel_rfl) (by kernel_rfl : Try.f49.body = some (bodyOf Try.f49)) (by rw [show (denF E0 h49 Try.f49 (bodyOf Try.f49) [.pointer h_0, do_1] S k) = c49 h_0 do_1 S k by kernel_rfl]; exact h)

/-! 50 (*wagonway/inherit.Holder).Own$1 -/
noncomputable def h50 : Hn := .no
def c50 (c0 : Nat) (c1 : Nat) (S : St) (k : Value → St → Prop) : Prop :=
  evV tP (loadV E0 S 105 (.pointer (some ⟨c1, 0, none⟩))) fun (p1 : Option Addr) =>
  evV tI (loadV E0 S 3 (.pointer (some ⟨c0, 0, none⟩))) fun (n1 : Int) =>
  ptrW p1 fun (b1 b2 : Nat) =>
  ptrW (some ⟨b1, b2, none⟩) fun (b3 b4 : Nat) => evS (storeV E0 S 3 (.pointer (some ⟨b3, b4 + 0, none⟩)) (.int .i64 n1)) fun (S1 : St) => k (.tuple #[]) S1
theorem w50 (c0 : Nat) (c1 : Nat) {S : St} {k : Value → St → Prop} (h : c50 c0 c1 S k) : WC E0 50 [.pointer (some ⟨c0, 0, none⟩), .pointer (some ⟨c1, 0, none⟩)] S k :=
  WC_den h50 rfl (by kernel_rfl) (by kernel_rfl : Try.f50.body = some (bodyOf Try.f50)) (by rw [show (denF E0 h50 Try.f50 (bodyOf Try.f50) [.pointer (some ⟨c0, 0, none⟩), .pointer (some ⟨c1, 0, none⟩)] S k) = c50 c0 c1 S k by kernel_rfl]; exact h)

/-! 51 wagonway/wagonwayref15.Known -/
noncomputable def h51 : Hn := .no
def c51 (cell_0 : Int) (S : St) (k : Value → St → Prop) : Prop :=
  ifW (leI 0 cell_0) (k (.bool (ltI cell_0 1024)) S) (k (.bool false) S)
theorem w51 (cell_0 : Int) {S : St} {k : Value → St → Prop} (h : c51 cell_0 S k) : WC E0 51 [.int .i64 cell_0] S k :=
  WC_den h51 rfl (by kernel_rfl) (by kernel_rfl : Try.f51.body = some (bodyOf Try.f51)) (by rw [show (denF E0 h51 Try.f51 (bodyOf Try.f51) [.int .i64 cell_0] S k) = c51 cell_0 S k by kernel_rfl]; exact h)

/-! 52 wagonway/wagonwayref14.New -/
noncomputable def h52 : Hn := (.n .no (.n .no (.n .no (.n (.n .no (.n (.n .no .no (some ⟨[0, 2, 8], [(9, .sc (.int .i64))], false⟩)) .no none) none) .no none) none) none) none)
def c52 (home_0 : Int) (robots_1 : Int) (cells_2 : Int) (S : St) (k : Value → St → Prop) : Prop :=
  ifW (ltI robots_1 1) (k (.tuple #[.pointer none, .int .i64 2]) S)
  (ifW (ltI 64 robots_1) (k (.tuple #[.pointer none, .int .i64 2]) S)
  (ifW (ltI home_0 0) (k (.tuple #[.pointer none, .int .i64 2]) S)
  (ifW (leI robots_1 home_0) (k (.tuple #[.pointer none, .int .i64 2]) S)
  (ifW (ltI cells_2 1) (k (.tuple #[.pointer none, .int .i64 2]) S)
  (ifW (ltI 1024 cells_2) (k (.tuple #[.pointer none, .int .i64 2]) S)
  (evO (rowD E0 169 (.int .i64 cells_2) (.int .i64 cells_2)) fun (o1 : DObj) =>
  newW S o1 fun (b1 : Nat) (S1 : St) =>
  evO (rowD E0 84 (.int .i64 robots_1) (.int .i64 robots_1)) fun (o2 : DObj) =>
  newW S1 o2 fun (b2 : Nat) (S2 : St) =>
  evO (rowD E0 169 (.int .i64 cells_2) (.int .i64 cells_2)) fun (o3 : DObj) =>
  sameOW o3 o1
  (evO (rowD E0 84 (.int .i64 robots_1) (.int .i64 robots_1)) fun (o4 : DObj) =>
  sameOW o4 o2
  (newW S2
  (.cells
  [.int .i64 home_0, .int .i64 robots_1, .slice (some ⟨b1, 0, none⟩) (Int.toNat cells_2) (Int.toNat cells_2),
  .slice (some ⟨b2, 0, none⟩) (Int.toNat robots_1) (Int.toNat robots_1)]
  none false none)
  fun (b3 : Nat) (S3 : St) =>
  loopW
  (fun (k1 : Int → St → Prop) (n1 : Int) (S4 : St) =>
  ifW (ltI n1 cells_2)
  (ptrW (some ⟨b3, 0, none⟩) fun (b4 b5 : Nat) =>
  ptrW (some ⟨b4, b5, none⟩) fun (b6 b7 : Nat) =>
  evV tS (loadV E0 S4 169 (.pointer (some ⟨b6, b7 + 2, none⟩))) fun (s1 : Sl) =>
  idxW s1.a s1.len n1 fun (b8 b9 : Nat) =>
  ptrW (some ⟨b8, b9 + Int.toNat n1 * 3, none⟩) fun (b10 b11 : Nat) =>
  evS (storeV E0 S4 3 (.pointer (some ⟨b10, b11 + 0, none⟩)) (.int .i64 (-1))) fun (S5 : St) => k1 (wrapI .i64 (n1 + 1)) S5)
  (ptrW (some ⟨b3, 0, none⟩) fun (b12 b13 : Nat) =>
  ptrW (some ⟨b12, b13, none⟩) fun (b14 b15 : Nat) =>
  evV tS (loadV E0 S4 84 (.pointer (some ⟨b14, b15 + 3, none⟩))) fun (s2 : Sl) =>
  idxW s2.a s2.len home_0 fun (b16 b17 : Nat) =>
  evS (storeV E0 S4 3 (.pointer (some ⟨b16, b17 + Int.toNat home_0 * 1, none⟩)) (.int .i64 1)) fun (S6 : St) =>
  k (.tuple #[.pointer (some ⟨b3, 0, none⟩), .int .i64 0]) S6))
  0 S3))))))))
theorem w52 (home_0 : Int) (robots_1 : Int) (cells_2 : Int) {S : St} {k : Value → St → Prop} (h : c52 home_0 robots_1 cells_2 S k) : WC E0 52 [.int .i64 home_0, .int .i64 robots_1, .int .i64 cells_2] S k :=
  WC_den h52 rfl (by kernel_rfl) (by kernel_rfl : Try.f52.body = some (bodyOf Try.f52)) (by rw [show (denF E0 h52 Try.f52 (bodyOf Try.f52) [.int .i64 home_0, .int .i64 robots_1, .int .i64 cells_2] S k) = c52 home_0 robots_1 cells_2 S k by kernel_rfl]; exact h)

/-! 53 (*wagonway/wagonwayref14.Ledger).Is -/
noncomputable def h53 : Hn := .no
def c53 (l_0 : Option Addr) (cell_1 : Int) (S : St) (k : Value → St → Prop) : Prop :=
  ifW (leI 0 cell_1)
  (ptrW l_0 fun (b1 b2 : Nat) =>
  ptrW (some ⟨b1, b2, none⟩) fun (b3 b4 : Nat) =>
  evV tS (loadV E0 S 169 (.pointer (some ⟨b3, b4 + 2, none⟩))) fun (s1 : Sl) =>
  ifW (ltI cell_1 (↑s1.len : Int))
  (ptrW l_0 fun (b5 b6 : Nat) =>
  ptrW (some ⟨b5, b6, none⟩) fun (b7 b8 : Nat) =>
  evV tI (loadV E0 S 3 (.pointer (some ⟨b7, b8 + 1, none⟩))) fun (n1 : Int) =>
  needW (!decide (n1 = 0))
  (ptrW l_0 fun (b9 b10 : Nat) =>
  ptrW (some ⟨b9, b10, none⟩) fun (b11 b12 : Nat) =>
  evV tI (loadV E0 S 3 (.pointer (some ⟨b11, b12 + 0, none⟩))) fun (n2 : Int) => k (.bool (eqI (Int.tmod cell_1 n1) n2)) S))
  (k (.bool false) S))
  (k (.bool false) S)
theorem w53 (l_0 : Option Addr) (cell_1 : Int) {S : St} {k : Value → St → Prop} (h : c53 l_0 cell_1 S k) : WC E0 53 [.pointer l_0, .int .i64 cell_1] S k :=
  WC_den h53 rfl (by kernel_rfl) (by kernel_rfl : Try.f53.body = some (bodyOf Try.f53)) (by rw [show (denF E0 h53 Try.f53 (bodyOf Try.f53) [.pointer l_0, .int .i64 cell_1] S k) = c53 l_0 cell_1 S k by kernel_rfl]; exact h)

/-! 54 (*wagonway/wagonwayref17.Holder).Now -/
noncomputable def h54 : Hn := (.n .no (.n .no (.n (.n .no (.n (.n .no .no (some ⟨[0], [(3, .sc (.int .i64)), (4, .sc (.int .i64))], false⟩)) .no none) none) .no none) none) none)
def c54 (h_0 : Option Addr) (S : St) (k : Value → St → Prop) : Prop :=
  ptrW h_0 fun (b1 b2 : Nat) =>
  ptrW (some ⟨b1, b2, none⟩) fun (b3 b4 : Nat) =>
  evV tI (loadV E0 S 3 (.pointer (some ⟨b3, b4 + 0, none⟩))) fun (n1 : Int) =>
  loopW
  (fun (k1 : Int × Int → St → Prop) (x1 : Int × Int) (S1 : St) =>
  ifW (ltI x1.2 64)
  (ptrW h_0 fun (b5 b6 : Nat) =>
  ptrW (some ⟨b5, b6, none⟩) fun (b7 b8 : Nat) =>
  idxW (some ⟨b7, b8 + 1, none⟩) 64 x1.2 fun (b9 b10 : Nat) =>
  evV tI (loadV E0 S1 3 (.pointer (some ⟨b9, b10 + Int.toNat x1.2 * 1, none⟩))) fun (n2 : Int) =>
  ifW (ltI x1.1 n2)
  (ptrW h_0 fun (b11 b12 : Nat) =>
  ptrW (some ⟨b11, b12, none⟩) fun (b13 b14 : Nat) =>
  idxW (some ⟨b13, b14 + 1, none⟩) 64 x1.2 fun (b15 b16 : Nat) =>
  evV tI (loadV E0 S1 3 (.pointer (some ⟨b15, b16 + Int.toNat x1.2 * 1, none⟩))) fun (n3 : Int) => k1 (n3, wrapI .i64 (x1.2 + 1)) S1)
  (k1 (x1.1, wrapI .i64 (x1.2 + 1)) S1))
  (k (.int .i64 x1.1) S1))
  (n1, 0) S
theorem w54 (h_0 : Option Addr) {S : St} {k : Value → St → Prop} (h : c54 h_0 S k) : WC E0 54 [.pointer h_0] S k :=
  WC_den h54 rfl (by kernel_rfl) (by kernel_rfl : Try.f54.body = some (bodyOf Try.f54)) (by rw [show (denF E0 h54 Try.f54 (bodyOf Try.f54) [.pointer h_0] S k) = c54 h_0 S k by kernel_rfl]; exact h)

/-! 55 slices.Clone[[]wagonway/api.Claim,wagonway/api.Claim] -/
noncomputable def h55 : Hn := .no
def c55 (s_0 : Sl) (S : St) (k : Value → St → Prop) : Prop :=
  eqW E0 S 47 (.slice s_0.a s_0.len s_0.cap) (.slice none 0 0) fun (t1 : Bool) =>
  ifW t1 (k (.slice none 0 0) S)
  (newW S (.cells [] none false none) fun (b1 : Nat) (S1 : St) =>
  evP tS (appendD E0 S1 47 47 (.slice (some ⟨b1, 0, none⟩) 0 0) (.slice s_0.a s_0.len s_0.cap)) fun (s1 : Sl) (S2 : St) => k (.slice s1.a s1.len s1.cap) S2)
theorem w55 (s_0 : Sl) {S : St} {k : Value → St → Prop} (h : c55 s_0 S k) : WC E0 55 [.slice s_0.a s_0.len s_0.cap] S k :=
  WC_den h55 rfl (by kernel_rfl) (by kernel_rfl : Try.f55.body = some (bodyOf Try.f55)) (by rw [show (denF E0 h55 Try.f55 (bodyOf Try.f55) [.slice s_0.a s_0.len s_0.cap] S k) = c55 s_0 S k by kernel_rfl]; exact h)

/-! 60 slices.BinarySearchFunc[[]wagonway/api.Claim,wagonway/api.Claim,int] -/
noncomputable def h60 : Hn := (.n .no (.n .no (.n .no (.n (.n (.n .no .no (some ⟨[0, 1, 2, 8], [(9, .sc (.int .i64)), (10, .sc (.int .i64))], false⟩)) .no none) .no none) none) none) none)
def c60 (x_0 : Sl) (target_1 : Int) (cmp_2 : Value) (S : St) (k : Value → St → Prop) : Prop :=
  loopW
  (fun (k1 : Int × Int → St → Prop) (x1 : Int × Int) (S1 : St) =>
  ifW (ltI x1.1 x1.2)
  (needW true
  (idxW x_0.a x_0.len (wrapI .i64 (Int.fdiv (wrapI .u64 (wrapI .i64 (x1.1 + x1.2))) (↑(2 ^ min (Int.toNat 1) 64) : Int))) fun (b1 b2 : Nat) =>
  evV (TT.one (Ty.agg G131))
  (loadV E0 S1 132 (.pointer (some ⟨b1, b2 + Int.toNat (wrapI .i64 (Int.fdiv (wrapI .u64 (wrapI .i64 (x1.1 + x1.2))) (↑(2 ^ min (Int.toNat 1) 64) : Int))) * 2, none⟩)))
  fun (x2 : Int × Int) =>
  evY E0 tI cmp_2 [sv G131 x2, .int .i64 target_1] S1 fun (n1 : Int) (S2 : St) =>
  ifW (ltI n1 0) (k1 (wrapI .i64 (wrapI .i64 (Int.fdiv (wrapI .u64 (wrapI .i64 (x1.1 + x1.2))) (↑(2 ^ min (Int.toNat 1) 64) : Int)) + 1), x1.2) S2)
  (k1 (x1.1, wrapI .i64 (Int.fdiv (wrapI .u64 (wrapI .i64 (x1.1 + x1.2))) (↑(2 ^ min (Int.toNat 1) 64) : Int))) S2)))
  (ifW (ltI x1.1 (↑x_0.len : Int))
  (idxW x_0.a x_0.len x1.1 fun (b3 b4 : Nat) =>
  evV (TT.one (Ty.agg G131)) (loadV E0 S1 132 (.pointer (some ⟨b3, b4 + Int.toNat x1.1 * 2, none⟩))) fun (x3 : Int × Int) =>
  evY E0 tI cmp_2 [sv G131 x3, .int .i64 target_1] S1 fun (n2 : Int) (S3 : St) => k (.tuple #[.int .i64 x1.1, .bool (eqI n2 0)]) S3)
  (k (.tuple #[.int .i64 x1.1, .bool false]) S1)))
  (0, (↑x_0.len : Int)) S
theorem w60 (x_0 : Sl) (target_1 : Int) (cmp_2 : Value) {S : St} {k : Value → St → Prop} (h : c60 x_0 target_1 cmp_2 S k) : WC E0 60 [.slice x_0.a x_0.len x_0.cap, .int .i64 target_1, cmp_2] S k :=
  WC_den h60 rfl (by kernel_rfl) (by kernel_rfl : Try.f60.body = some (bodyOf Try.f60)) (by rw [show (denF E0 h60 Try.f60 (bodyOf Try.f60) [.slice x_0.a x_0.len x_0.cap, .int .i64 target_1, cmp_2] S k) = c60 x_0 target_1 cmp_2 S k by kernel_rfl]; exact h)

/-! 61 (*wagonway/claim.Claims).find$1 -/
noncomputable def h61 : Hn := .no
def c61 (x_0 : Int × Int) (n_1 : Int) (S : St) (k : Value → St → Prop) : Prop :=
  newW S (.cells [.int .i64 x_0.1, .int .u32 x_0.2] none false none) fun (b1 : Nat) (S1 : St) =>
  ptrW (some ⟨b1, 0, none⟩) fun (b2 b3 : Nat) =>
  evV tI (loadV E0 S1 3 (.pointer (some ⟨b2, b3 + 0, none⟩))) fun (n1 : Int) =>
  evC E0 tI 62 [.int .i64 n1, .int .i64 n_1] S1 fun (n2 : Int) (S2 : St) => k (.int .i64 n2) S2
theorem w61 (x_0 : Int × Int) (n_1 : Int) {S : St} {k : Value → St → Prop} (h : c61 x_0 n_1 S k) : WC E0 61 [sv G131 x_0, .int .i64 n_1] S k :=
  WC_den h61 rfl (by kernel_rfl) (by kernel_rfl : Try.f61.body = some (bodyOf Try.f61)) (by rw [show (denF E0 h61 Try.f61 (bodyOf Try.f61) [sv G131 x_0, .int .i64 n_1] S k) = c61 x_0 n_1 S k by kernel_rfl]; exact h)

/-! 62 cmp.Compare[int] -/
noncomputable def h62 : Hn := .no
def c62 (x_0 : Int) (y_1 : Int) (S : St) (k : Value → St → Prop) : Prop :=
  evC E0 tB 69 [.int .i64 x_0] S fun (t1 : Bool) (S1 : St) =>
  evC E0 tB 69 [.int .i64 y_1] S1 fun (t2 : Bool) (S2 : St) =>
  ifW t1 (ifW t2 (k (.int .i64 0) S2) (k (.int .i64 (-1)) S2))
  (ifW t2 (k (.int .i64 1) S2) (ifW (ltI x_0 y_1) (k (.int .i64 (-1)) S2) (ifW (ltI y_1 x_0) (k (.int .i64 1) S2) (k (.int .i64 0) S2))))
theorem w62 (x_0 : Int) (y_1 : Int) {S : St} {k : Value → St → Prop} (h : c62 x_0 y_1 S k) : WC E0 62 [.int .i64 x_0, .int .i64 y_1] S k :=
  WC_den h62 rfl (by kernel_rfl) (by kernel_rfl : Try.f62.body = some (bodyOf Try.f62)) (by rw [show (denF E0 h62 Try.f62 (bodyOf Try.f62) [.int .i64 x_0, .int .i64 y_1] S k) = c62 x_0 y_1 S k by kernel_rfl]; exact h)

/-! 65 wagonway/ledger.first -/
noncomputable def h65 : Hn := .no
def c65  (S : St) (k : Value → St → Prop) : Prop :=
  newW S (.cells [.int .i64 0, .int .u32 0] none false none) fun (b1 : Nat) (S1 : St) =>
  evS (storeV E0 S1 153 (.pointer (some ⟨b1, 0, none⟩)) (.agg #[.int .i64 (-1), .int .u32 0])) fun (S2 : St) =>
  evV (TT.one (Ty.agg G131)) (loadV E0 S2 153 (.pointer (some ⟨b1, 0, none⟩))) fun (x1 : Int × Int) => k (sv G131 x1) S2
theorem w65  {S : St} {k : Value → St → Prop} (h : c65  S k) : WC E0 65 [] S k :=
  WC_den h65 rfl (by kernel_rfl) (by kernel_rfl : Try.f65.body = some (bodyOf Try.f65)) (by rw [show (denF E0 h65 Try.f65 (bodyOf Try.f65) [] S k) = c65  S k by kernel_rfl]; exact h)

/-! 66 (*wagonway/ledger.Ledger).none -/
noncomputable def h66 : Hn := .no
def c66 (l_0 : Option Addr) (S : St) (k : Value → St → Prop) : Prop :=
  eqW E0 S 94 (.pointer l_0) (.pointer none) fun (t1 : Bool) =>
  ifW t1 (k (.bool true) S)
  (ptrW l_0 fun (b1 b2 : Nat) => ptrW (some ⟨b1, b2, none⟩) fun (b3 b4 : Nat) => evV tI (loadV E0 S 3 (.pointer (some ⟨b3, b4 + 1, none⟩))) fun (n1 : Int) => k (.bool (eqI n1 0)) S)
theorem w66 (l_0 : Option Addr) {S : St} {k : Value → St → Prop} (h : c66 l_0 S k) : WC E0 66 [.pointer l_0] S k :=
  WC_den h66 rfl (by kernel_rfl) (by kernel_rfl : Try.f66.body = some (bodyOf Try.f66)) (by rw [show (denF E0 h66 Try.f66 (bodyOf Try.f66) [.pointer l_0] S k) = c66 l_0 S k by kernel_rfl]; exact h)

/-! 67 (*wagonway/inherit.Holder).Now -/
noncomputable def h67 : Hn := (.n .no (.n .no (.n .no (.n (.n .no (.n (.n .no .no (some ⟨[16], [(3, .sc (.int .i64))], false⟩)) .no none) none) .no none) none) none) none)
def c67 (h_0 : Option Addr) (S : St) (k : Value → St → Prop) : Prop :=
  eqW E0 S 105 (.pointer h_0) (.pointer none) fun (t1 : Bool) =>
  ifW t1 (k (.int .i64 0) S)
  (ptrW h_0 fun (b1 b2 : Nat) =>
  ptrW (some ⟨b1, b2, none⟩) fun (b3 b4 : Nat) =>
  evV tI (loadV E0 S 3 (.pointer (some ⟨b3, b4 + 0, none⟩))) fun (n1 : Int) =>
  ptrW h_0 fun (b5 b6 : Nat) =>
  ptrW (some ⟨b5, b6, none⟩) fun (b7 b8 : Nat) =>
  evV tM (loadV E0 S 106 (.pointer (some ⟨b7, b8 + 1, none⟩))) fun (p1 : Option Nat) =>
  evP tP (rangeD E0 S 106 (.map p1)) fun (p2 : Option Addr) (S1 : St) =>
  loopW
  (fun (k1 : Int → St → Prop) (n2 : Int) (S2 : St) =>
  (∃ (S3 : St), nextD S2 (.pointer p2) false = some (.tuple #[.bool false], S3) ∧ k (.int .i64 n2) S3) ∨
  evP (TT.tup []) (nextD S2 (.pointer p2) false) fun (x1 : PUnit) (S4 : St) => False)
  n1 S1)
theorem w67 (h_0 : Option Addr) {S : St} {k : Value → St → Prop} (h : c67 h_0 S k) : WC E0 67 [.pointer h_0] S k :=
  WC_den h67 rfl (by kernel_rfl) (by kernel_rfl : Try.f67.body = some (bodyOf Try.f67)) (by rw [show (denF E0 h67 Try.f67 (bodyOf Try.f67) [.pointer h_0] S k) = c67 h_0 S k by kernel_rfl]; exact h)

/-! 69 cmp.isNaN[int] -/
noncomputable def h69 : Hn := .no
def c69 (x_0 : Int) (S : St) (k : Value → St → Prop) : Prop :=
  k (.bool !eqI x_0 x_0) S
theorem w69 (x_0 : Int) {S : St} {k : Value → St → Prop} (h : c69 x_0 S k) : WC E0 69 [.int .i64 x_0] S k :=
  WC_den h69 rfl (by kernel_rfl) (by kernel_rfl : Try.f69.body = some (bodyOf Try.f69)) (by rw [show (denF E0 h69 Try.f69 (bodyOf Try.f69) [.int .i64 x_0] S k) = c69 x_0 S k by kernel_rfl]; exact h)

end
end Go.Proofs.Ytgdijpcopdgapaa
