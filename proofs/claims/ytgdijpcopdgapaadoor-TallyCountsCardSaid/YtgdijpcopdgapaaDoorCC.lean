/- Parts of the proof, put together. -/
import Derived.Test.YtgdijpcopdgapaaDoorCA
/- The conditions of functions (printed by GenDen.lean). -/
namespace Go.Proofs.YtgdijpcopdgapaaDoor
open Go Go.Proofs.YtgdijpcopdgapaaDoor.D
set_option linter.unusedVariables false
noncomputable section

/-! 55 wagonway/wagonwayref07.MayMessage -/
noncomputable def h55 : Hn := (.n .no (.n .no (.n .no (.n (.n (.r [(8, ⟨[1, 3], [(20, .sc .bool)], false⟩), (5, ⟨[1, 3], [(25, .sc .bool)], false⟩), (5, ⟨[1, 3], [(30, .sc .bool)], false⟩), (5, ⟨[1, 3], [(35, .sc .bool)], false⟩), (5, ⟨[1, 3], [(40, .sc .bool)], false⟩), (5, ⟨[1, 3], [(45, .sc .bool)], false⟩), (5, ⟨[1, 3], [(50, .sc .bool)], false⟩), (5, ⟨[1, 3], [(55, .sc .bool)], false⟩), (5, ⟨[1, 3], [(60, .sc .bool)], false⟩)]) .no none) (.n (.n (.r [(8, ⟨[1, 3], [(74, .sc .bool)], false⟩), (10, ⟨[1, 3], [(84, .sc .bool)], false⟩), (10, ⟨[1, 3], [(94, .sc .bool)], false⟩), (10, ⟨[1, 3], [(104, .sc .bool)], false⟩), (10, ⟨[1, 3], [(114, .sc .bool)], false⟩), (10, ⟨[1, 3], [(124, .sc .bool)], false⟩), (10, ⟨[1, 3], [(134, .sc .bool)], false⟩)]) .no none) (.n (.n .no (.n (.n .no .no (some ⟨[1], [(4, .sc (.int .i64))], false⟩)) .no none) none) .no none) none) none) none) none) none)
def c55 (m_0 : Int × Int × Int × Int × Int × Int × Int × Int × Sl) (S : St) (k : Value → St → Prop) : Prop :=
  newW S
  (.cells
  [.int .i64 m_0.1, .int .i64 m_0.2.1, .int .u32 m_0.2.2.1, .int .u64 m_0.2.2.2.1, .int .i64 m_0.2.2.2.2.1,
  .int .i64 m_0.2.2.2.2.2.1, .int .i64 m_0.2.2.2.2.2.2.1, .int .i64 m_0.2.2.2.2.2.2.2.1,
  .slice m_0.2.2.2.2.2.2.2.2.a m_0.2.2.2.2.2.2.2.2.len m_0.2.2.2.2.2.2.2.2.cap]
  none false none)
  fun (b1 : Nat) (S1 : St) =>
  ptrW (some ⟨b1, 0, none⟩) fun (b2 b3 : Nat) =>
  evV tI (loadV E0 S1 3 (.pointer (some ⟨b2, b3 + 0, none⟩))) fun (n1 : Int) =>
  evC E0 tT 20 [.int .i64 n1] S1 fun (l1 : List UInt8) (S2 : St) =>
  ifW (l1 == []) (k (.bool false) S2)
  (ptrW (some ⟨b1, 0, none⟩) fun (b4 b5 : Nat) =>
  evV tI (loadV E0 S2 3 (.pointer (some ⟨b4, b5 + 0, none⟩))) fun (n2 : Int) =>
  evC E0 tT 42 [.int .i64 n2] S2 fun (l2 : List UInt8) (S3 : St) =>
  joinW
  (fun (t1 : Bool) (S4 : St) =>
  joinW
  (fun (t2 : Bool) (S5 : St) =>
  joinW
  (fun (t3 : Bool) (S6 : St) =>
  joinW
  (fun (t4 : Bool) (S7 : St) =>
  joinW
  (fun (t5 : Bool) (S8 : St) =>
  joinW
  (fun (t6 : Bool) (S9 : St) =>
  joinW
  (fun (t7 : Bool) (S10 : St) =>
  joinW
  (fun (t8 : Bool) (S11 : St) =>
  joinW
  (fun (t9 : Bool) (S12 : St) =>
  ifW t9 (k (.bool false) S12)
  (ptrW (some ⟨b1, 0, none⟩) fun (b6 b7 : Nat) =>
  evV tS (loadV E0 S12 52 (.pointer (some ⟨b6, b7 + 8, none⟩))) fun (s1 : Sl) =>
  ifW (ltI 16 (↑s1.len : Int)) (k (.bool false) S12)
  (joinW
  (fun (t10 : Bool) (S13 : St) =>
  joinW
  (fun (t11 : Bool) (S14 : St) =>
  joinW
  (fun (t12 : Bool) (S15 : St) =>
  joinW
  (fun (t13 : Bool) (S16 : St) =>
  joinW
  (fun (t14 : Bool) (S17 : St) =>
  joinW
  (fun (t15 : Bool) (S18 : St) =>
  joinW
  (fun (t16 : Bool) (S19 : St) =>
  ifW t16 (k (.bool false) S19)
  (evC E0 tB 63 [.string { data := List.toArray l2 }, .int .u8 108] S19 fun (t17 : Bool) (S20 : St) =>
  ifW (!t17)
  (ptrW (some ⟨b1, 0, none⟩) fun (b8 b9 : Nat) =>
  evV tS (loadV E0 S20 52 (.pointer (some ⟨b8, b9 + 8, none⟩))) fun (s2 : Sl) =>
  ifW (ltI 0 (↑s2.len : Int)) (k (.bool false) S20)
  (loopW
  (fun (k1 : Int → St → Prop) (n3 : Int) (S21 : St) =>
  ptrW (some ⟨b1, 0, none⟩) fun (b10 b11 : Nat) =>
  evV tS (loadV E0 S21 52 (.pointer (some ⟨b10, b11 + 8, none⟩))) fun (s3 : Sl) =>
  ifW (ltI n3 (↑s3.len : Int))
  (ptrW (some ⟨b1, 0, none⟩) fun (b12 b13 : Nat) =>
  evV tS (loadV E0 S21 52 (.pointer (some ⟨b12, b13 + 8, none⟩))) fun (s4 : Sl) =>
  idxW s4.a s4.len n3 fun (b14 b15 : Nat) =>
  ptrW (some ⟨b14, b15 + Int.toNat n3 * 2, none⟩) fun (b16 b17 : Nat) =>
  evV tI (loadV E0 S21 3 (.pointer (some ⟨b16, b17 + 0, none⟩))) fun (n4 : Int) =>
  ifW (ltI n4 0) (k (.bool false) S21)
  (ifW (ltI 1023 n4) (k (.bool false) S21)
  (ifW (ltI 0 n3)
  (ptrW (some ⟨b1, 0, none⟩) fun (b18 b19 : Nat) =>
  evV tS (loadV E0 S21 52 (.pointer (some ⟨b18, b19 + 8, none⟩)))
  fun (s5 : Sl) =>
  idxW s5.a s5.len (wrapI .i64 (n3 - 1)) fun (b20 b21 : Nat) =>
  ptrW (some ⟨b20, b21 + Int.toNat (wrapI .i64 (n3 - 1)) * 2, none⟩)
  fun (b22 b23 : Nat) =>
  evV tI (loadV E0 S21 3 (.pointer (some ⟨b22, b23 + 0, none⟩)))
  fun (n5 : Int) =>
  ifW (leI n4 n5) (k (.bool false) S21) (k1 (wrapI .i64 (n3 + 1)) S21))
  (k1 (wrapI .i64 (n3 + 1)) S21))))
  (k (.bool true) S21))
  0 S20))
  (loopW
  (fun (k2 : Int → St → Prop) (n6 : Int) (S22 : St) =>
  ptrW (some ⟨b1, 0, none⟩) fun (b24 b25 : Nat) =>
  evV tS (loadV E0 S22 52 (.pointer (some ⟨b24, b25 + 8, none⟩))) fun (s6 : Sl) =>
  ifW (ltI n6 (↑s6.len : Int))
  (ptrW (some ⟨b1, 0, none⟩) fun (b26 b27 : Nat) =>
  evV tS (loadV E0 S22 52 (.pointer (some ⟨b26, b27 + 8, none⟩))) fun (s7 : Sl) =>
  idxW s7.a s7.len n6 fun (b28 b29 : Nat) =>
  ptrW (some ⟨b28, b29 + Int.toNat n6 * 2, none⟩) fun (b30 b31 : Nat) =>
  evV tI (loadV E0 S22 3 (.pointer (some ⟨b30, b31 + 0, none⟩))) fun (n7 : Int) =>
  ifW (ltI n7 0) (k (.bool false) S22)
  (ifW (ltI 1023 n7) (k (.bool false) S22)
  (ifW (ltI 0 n6)
  (ptrW (some ⟨b1, 0, none⟩) fun (b32 b33 : Nat) =>
  evV tS (loadV E0 S22 52 (.pointer (some ⟨b32, b33 + 8, none⟩))) fun (s8 : Sl) =>
  idxW s8.a s8.len (wrapI .i64 (n6 - 1)) fun (b34 b35 : Nat) =>
  ptrW (some ⟨b34, b35 + Int.toNat (wrapI .i64 (n6 - 1)) * 2, none⟩)
  fun (b36 b37 : Nat) =>
  evV tI (loadV E0 S22 3 (.pointer (some ⟨b36, b37 + 0, none⟩)))
  fun (n8 : Int) =>
  ifW (leI n7 n8) (k (.bool false) S22) (k2 (wrapI .i64 (n6 + 1)) S22))
  (k2 (wrapI .i64 (n6 + 1)) S22))))
  (k (.bool true) S22))
  0 S20)))
  fun (k3 : Bool → St → Prop) =>
  ifW t15 (k3 true S18)
  (evC E0 tB 63 [.string { data := List.toArray l2 }, .int .u8 119] S18 fun (t18 : Bool) (S23 : St) =>
  ifW (!t18)
  (ptrW (some ⟨b1, 0, none⟩) fun (b38 b39 : Nat) =>
  evV tI (loadV E0 S23 3 (.pointer (some ⟨b38, b39 + 7, none⟩))) fun (n9 : Int) => k3 (!eqI n9 0) S23)
  (k3 false S23)))
  fun (k4 : Bool → St → Prop) =>
  ifW t14 (k4 true S17)
  (evC E0 tB 63 [.string { data := List.toArray l2 }, .int .u8 111] S17 fun (t19 : Bool) (S24 : St) =>
  ifW (!t19)
  (ptrW (some ⟨b1, 0, none⟩) fun (b40 b41 : Nat) =>
  evV tI (loadV E0 S24 3 (.pointer (some ⟨b40, b41 + 6, none⟩))) fun (n10 : Int) => k4 (!eqI n10 0) S24)
  (k4 false S24)))
  fun (k5 : Bool → St → Prop) =>
  ifW t13 (k5 true S16)
  (evC E0 tB 63 [.string { data := List.toArray l2 }, .int .u8 104] S16 fun (t20 : Bool) (S25 : St) =>
  ifW (!t20)
  (ptrW (some ⟨b1, 0, none⟩) fun (b42 b43 : Nat) =>
  evV tI (loadV E0 S25 3 (.pointer (some ⟨b42, b43 + 5, none⟩))) fun (n11 : Int) => k5 (!eqI n11 0) S25)
  (k5 false S25)))
  fun (k6 : Bool → St → Prop) =>
  ifW t12 (k6 true S15)
  (evC E0 tB 63 [.string { data := List.toArray l2 }, .int .u8 112] S15 fun (t21 : Bool) (S26 : St) =>
  ifW (!t21)
  (ptrW (some ⟨b1, 0, none⟩) fun (b44 b45 : Nat) =>
  evV tI (loadV E0 S26 3 (.pointer (some ⟨b44, b45 + 4, none⟩))) fun (n12 : Int) => k6 (!eqI n12 0) S26)
  (k6 false S26)))
  fun (k7 : Bool → St → Prop) =>
  ifW t11 (k7 true S14)
  (evC E0 tB 63 [.string { data := List.toArray l2 }, .int .u8 115] S14 fun (t22 : Bool) (S27 : St) =>
  ifW (!t22)
  (ptrW (some ⟨b1, 0, none⟩) fun (b46 b47 : Nat) =>
  evV tU (loadV E0 S27 28 (.pointer (some ⟨b46, b47 + 3, none⟩))) fun (n13 : Int) => k7 (!eqI n13 0) S27)
  (k7 false S27)))
  fun (k8 : Bool → St → Prop) =>
  ifW t10 (k8 true S13)
  (evC E0 tB 63 [.string { data := List.toArray l2 }, .int .u8 103] S13 fun (t23 : Bool) (S28 : St) =>
  ifW (!t23)
  (ptrW (some ⟨b1, 0, none⟩) fun (b48 b49 : Nat) =>
  evV tU32 (loadV E0 S28 51 (.pointer (some ⟨b48, b49 + 2, none⟩))) fun (n14 : Int) => k8 (!eqI n14 0) S28)
  (k8 false S28)))
  fun (k9 : Bool → St → Prop) =>
  evC E0 tB 63 [.string { data := List.toArray l2 }, .int .u8 99] S12 fun (t24 : Bool) (S29 : St) =>
  ifW (!t24)
  (ptrW (some ⟨b1, 0, none⟩) fun (b50 b51 : Nat) =>
  evV tI (loadV E0 S29 3 (.pointer (some ⟨b50, b51 + 1, none⟩))) fun (n15 : Int) => k9 (!eqI n15 0) S29)
  (k9 false S29))))
  fun (k10 : Bool → St → Prop) =>
  ifW t8 (k10 true S11)
  (ptrW (some ⟨b1, 0, none⟩) fun (b52 b53 : Nat) =>
  evV tI (loadV E0 S11 3 (.pointer (some ⟨b52, b53 + 7, none⟩))) fun (n16 : Int) => k10 (ltI 63 n16) S11))
  fun (k11 : Bool → St → Prop) =>
  ifW t7 (k11 true S10)
  (ptrW (some ⟨b1, 0, none⟩) fun (b54 b55 : Nat) =>
  evV tI (loadV E0 S10 3 (.pointer (some ⟨b54, b55 + 7, none⟩))) fun (n17 : Int) => k11 (ltI n17 (-1)) S10))
  fun (k12 : Bool → St → Prop) =>
  ifW t6 (k12 true S9)
  (ptrW (some ⟨b1, 0, none⟩) fun (b56 b57 : Nat) =>
  evV tI (loadV E0 S9 3 (.pointer (some ⟨b56, b57 + 6, none⟩))) fun (n18 : Int) => k12 (ltI 63 n18) S9))
  fun (k13 : Bool → St → Prop) =>
  ifW t5 (k13 true S8)
  (ptrW (some ⟨b1, 0, none⟩) fun (b58 b59 : Nat) => evV tI (loadV E0 S8 3 (.pointer (some ⟨b58, b59 + 6, none⟩))) fun (n19 : Int) => k13 (ltI n19 0) S8))
  fun (k14 : Bool → St → Prop) =>
  ifW t4 (k14 true S7)
  (ptrW (some ⟨b1, 0, none⟩) fun (b60 b61 : Nat) => evV tI (loadV E0 S7 3 (.pointer (some ⟨b60, b61 + 5, none⟩))) fun (n20 : Int) => k14 (ltI 64 n20) S7))
  fun (k15 : Bool → St → Prop) =>
  ifW t3 (k15 true S6)
  (ptrW (some ⟨b1, 0, none⟩) fun (b62 b63 : Nat) => evV tI (loadV E0 S6 3 (.pointer (some ⟨b62, b63 + 5, none⟩))) fun (n21 : Int) => k15 (ltI n21 0) S6))
  fun (k16 : Bool → St → Prop) =>
  ifW t2 (k16 true S5)
  (ptrW (some ⟨b1, 0, none⟩) fun (b64 b65 : Nat) => evV tI (loadV E0 S5 3 (.pointer (some ⟨b64, b65 + 4, none⟩))) fun (n22 : Int) => k16 (ltI 15 n22) S5))
  fun (k17 : Bool → St → Prop) =>
  ifW t1 (k17 true S4)
  (ptrW (some ⟨b1, 0, none⟩) fun (b66 b67 : Nat) => evV tI (loadV E0 S4 3 (.pointer (some ⟨b66, b67 + 4, none⟩))) fun (n23 : Int) => k17 (ltI n23 0) S4))
  fun (k18 : Bool → St → Prop) =>
  ptrW (some ⟨b1, 0, none⟩) fun (b68 b69 : Nat) =>
  evV tI (loadV E0 S3 3 (.pointer (some ⟨b68, b69 + 1, none⟩))) fun (n24 : Int) =>
  ifW (ltI n24 0) (k18 true S3)
  (ptrW (some ⟨b1, 0, none⟩) fun (b70 b71 : Nat) => evV tI (loadV E0 S3 3 (.pointer (some ⟨b70, b71 + 1, none⟩))) fun (n25 : Int) => k18 (ltI 1023 n25) S3))
theorem w55 (m_0 : Int × Int × Int × Int × Int × Int × Int × Int × Sl) {S : St} {k : Value → St → Prop} (h : c55 m_0 S k) : WC E0 55 [sv G53 m_0] S k :=
  WC_den h55 rfl (by kernel_rfl) (by kernel_rfl : Tryd.f55.body = some (bodyOf Tryd.f55)) (by rw [show (denF E0 h55 Tryd.f55 (bodyOf Tryd.f55) [sv G53 m_0] S k) = c55 m_0 S k by kernel_rfl]; exact h)

end
end Go.Proofs.YtgdijpcopdgapaaDoor

/- The conditions of functions (printed by GenDen.lean). -/
namespace Go.Proofs.YtgdijpcopdgapaaDoor
open Go Go.Proofs.YtgdijpcopdgapaaDoor.D
set_option linter.unusedVariables false
noncomputable section

/-! 32 wagonway/wagonwayref07.guess -/
noncomputable def h32 : Hn := (.n .no (.n .no (.n .no (.n .no (.n .no (.n (.n .no (.n (.n (.n .no (.n (.n (.n .no (.n (.n .no (.n .no (.n .no (.n .no (.n .no (.n .no (.n .no (.n .no (.n .no (.n .no (.n .no (.n .no (.n .no (.n .no (.n .no (.n (.n .no (.n .no (.n .no (.n (.n .no .no (some ⟨[0, 2, 3, 4, 5, 7, 8], [(6, .sc (.int .i64)), (9, .sc (.int .i64))], false⟩)) .no none) none) none) none) .no none) none) none) none) none) none) none) none) none) none) none) none) none) none) none) none) .no none) none) .no none) .no none) none) .no (some ⟨[0, 2, 3, 4, 5], [(6, .sc (.int .i64)), (7, .sc (.int .i64))], false⟩)) .no none) none) .no none) none) none) none) none) none)
def c32 (b_0 : Sl) (S : St) (k : Value → St → Prop) : Prop :=
  newW S
  (.cells
  [.int .i64 0, .int .i64 0, .int .u32 0, .int .u32 0, .int .u32 0, .int .u32 0, .int .i64 0, .int .i64 0,
  .int .u32 0, .int .u64 0, .int .i64 0, .int .i64 0, .int .i64 0, .int .i64 0, .slice none 0 0]
  none false none)
  fun (b1 : Nat) (S1 : St) =>
  evC E0 tU 41 [.slice b_0.a b_0.len b_0.cap, .int .i64 0, .int .i64 1] S1 fun (n1 : Int) (S2 : St) =>
  evC E0 tU 41 [.slice b_0.a b_0.len b_0.cap, .int .i64 1, .int .i64 1] S2 fun (n2 : Int) (S3 : St) =>
  evC E0 tU 41 [.slice b_0.a b_0.len b_0.cap, .int .i64 2, .int .i64 4] S3 fun (n3 : Int) (S4 : St) =>
  evC E0 tU 41 [.slice b_0.a b_0.len b_0.cap, .int .i64 6, .int .i64 4] S4 fun (n4 : Int) (S5 : St) =>
  evC E0 tU 41 [.slice b_0.a b_0.len b_0.cap, .int .i64 10, .int .i64 4] S5 fun (n5 : Int) (S6 : St) =>
  evC E0 tU 41 [.slice b_0.a b_0.len b_0.cap, .int .i64 14, .int .i64 4] S6 fun (n6 : Int) (S7 : St) =>
  newW S7
  (.cells
  [.int .i64 0, .int .i64 0, .int .u32 0, .int .u32 0, .int .u32 0, .int .u32 0, .int .i64 0, .int .i64 0,
  .int .u32 0, .int .u64 0, .int .i64 0, .int .i64 0, .int .i64 0, .int .i64 0, .slice none 0 0]
  none false none)
  fun (b2 : Nat) (S8 : St) =>
  evS
  (storeV E0 S8 56 (.pointer (some ⟨b2, 0, none⟩))
  (.agg
  #[.int .i64 (wrapI .i64 n1), .int .i64 (wrapI .i64 n2), .int .u32 (wrapI .u32 n3), .int .u32 (wrapI .u32 n4),
  .int .u32 (wrapI .u32 n5), .int .u32 (wrapI .u32 n6), .int .i64 0, .int .i64 0, .int .u32 0, .int .u64 0,
  .int .i64 0, .int .i64 0, .int .i64 0, .int .i64 0, .slice none 0 0]))
  fun (S9 : St) =>
  evC E0 tU 41 [.slice b_0.a b_0.len b_0.cap, .int .i64 18, .int .i64 1] S9 fun (n7 : Int) (S10 : St) =>
  newW S10
  (.cells
  [.int .i64 0, .int .i64 0, .int .u32 0, .int .u64 0, .int .i64 0, .int .i64 0, .int .i64 0,
  .int .i64 0, .slice none 0 0]
  none false none)
  fun (b3 : Nat) (S11 : St) =>
  evS
  (storeV E0 S11 54 (.pointer (some ⟨b3, 0, none⟩))
  (.agg
  #[.int .i64 (wrapI .i64 n7), .int .i64 0, .int .u32 0, .int .u64 0, .int .i64 0, .int .i64 0,
  .int .i64 0, .int .i64 0, .slice none 0 0]))
  fun (S12 : St) =>
  ptrW (some ⟨b3, 0, none⟩) fun (b4 b5 : Nat) =>
  evV tI (loadV E0 S12 3 (.pointer (some ⟨b4, b5 + 0, none⟩))) fun (n8 : Int) =>
  evC E0 tT 42 [.int .i64 n8] S12 fun (l1 : List UInt8) (S13 : St) =>
  loopW
  (fun (k1 : Int × Int → St → Prop) (x1 : Int × Int) (S14 : St) =>
  ifW (ltI x1.2 (↑(List.length l1) : Int))
  (evV tU8 (indexD E0 9 (.string { data := List.toArray l1 }) (.int .i64 x1.2)) fun (n9 : Int) =>
  ifW (eqI n9 99)
  (evC E0 tU 41 [.slice b_0.a b_0.len b_0.cap, .int .i64 x1.1, .int .i64 2] S14 fun (n10 : Int) (S15 : St) =>
  ptrW (some ⟨b3, 0, none⟩) fun (b6 b7 : Nat) =>
  evS (storeV E0 S15 3 (.pointer (some ⟨b6, b7 + 1, none⟩)) (.int .i64 (wrapI .i64 n10))) fun (S16 : St) =>
  k1 (wrapI .i64 (x1.1 + 2), wrapI .i64 (x1.2 + 1)) S16)
  (ifW (eqI n9 103)
  (evC E0 tU 41 [.slice b_0.a b_0.len b_0.cap, .int .i64 x1.1, .int .i64 4] S14 fun (n11 : Int) (S17 : St) =>
  ptrW (some ⟨b3, 0, none⟩) fun (b8 b9 : Nat) =>
  evS (storeV E0 S17 51 (.pointer (some ⟨b8, b9 + 2, none⟩)) (.int .u32 (wrapI .u32 n11))) fun (S18 : St) =>
  k1 (wrapI .i64 (x1.1 + 4), wrapI .i64 (x1.2 + 1)) S18)
  (ifW (eqI n9 115)
  (evC E0 tU 41 [.slice b_0.a b_0.len b_0.cap, .int .i64 x1.1, .int .i64 8] S14 fun (n12 : Int) (S19 : St) =>
  ptrW (some ⟨b3, 0, none⟩) fun (b10 b11 : Nat) =>
  evS (storeV E0 S19 28 (.pointer (some ⟨b10, b11 + 3, none⟩)) (.int .u64 n12)) fun (S20 : St) =>
  k1 (wrapI .i64 (x1.1 + 8), wrapI .i64 (x1.2 + 1)) S20)
  (ifW (eqI n9 112)
  (evC E0 tU 41 [.slice b_0.a b_0.len b_0.cap, .int .i64 x1.1, .int .i64 1] S14 fun (n13 : Int) (S21 : St) =>
  ptrW (some ⟨b3, 0, none⟩) fun (b12 b13 : Nat) =>
  evS (storeV E0 S21 3 (.pointer (some ⟨b12, b13 + 4, none⟩)) (.int .i64 (wrapI .i64 n13))) fun (S22 : St) =>
  k1 (wrapI .i64 (x1.1 + 1), wrapI .i64 (x1.2 + 1)) S22)
  (ifW (eqI n9 104)
  (evC E0 tU 41 [.slice b_0.a b_0.len b_0.cap, .int .i64 x1.1, .int .i64 1] S14 fun (n14 : Int) (S23 : St) =>
  ptrW (some ⟨b3, 0, none⟩) fun (b14 b15 : Nat) =>
  evS (storeV E0 S23 3 (.pointer (some ⟨b14, b15 + 5, none⟩)) (.int .i64 (wrapI .i64 n14))) fun (S24 : St) =>
  k1 (wrapI .i64 (x1.1 + 1), wrapI .i64 (x1.2 + 1)) S24)
  (ifW (eqI n9 111)
  (evC E0 tU 41 [.slice b_0.a b_0.len b_0.cap, .int .i64 x1.1, .int .i64 1] S14 fun (n15 : Int) (S25 : St) =>
  ptrW (some ⟨b3, 0, none⟩) fun (b16 b17 : Nat) =>
  evS (storeV E0 S25 3 (.pointer (some ⟨b16, b17 + 6, none⟩)) (.int .i64 (wrapI .i64 n15))) fun (S26 : St) =>
  k1 (wrapI .i64 (x1.1 + 1), wrapI .i64 (x1.2 + 1)) S26)
  (ifW (eqI n9 119)
  (evC E0 tU 41 [.slice b_0.a b_0.len b_0.cap, .int .i64 x1.1, .int .i64 1] S14 fun (n16 : Int) (S27 : St) =>
  ptrW (some ⟨b3, 0, none⟩) fun (b18 b19 : Nat) =>
  evS (storeV E0 S27 3 (.pointer (some ⟨b18, b19 + 7, none⟩)) (.int .i64 (wrapI .i64 n16))) fun (S28 : St) =>
  ptrW (some ⟨b3, 0, none⟩) fun (b20 b21 : Nat) =>
  evV tI (loadV E0 S28 3 (.pointer (some ⟨b20, b21 + 7, none⟩))) fun (n17 : Int) =>
  ifW (eqI n17 255)
  (ptrW (some ⟨b3, 0, none⟩) fun (b22 b23 : Nat) =>
  evS (storeV E0 S28 3 (.pointer (some ⟨b22, b23 + 7, none⟩)) (.int .i64 (-1))) fun (S29 : St) =>
  k1 (wrapI .i64 (x1.1 + 1), wrapI .i64 (x1.2 + 1)) S29)
  (k1 (wrapI .i64 (x1.1 + 1), wrapI .i64 (x1.2 + 1)) S28))
  (ifW (eqI n9 108)
  (evC E0 tU 41 [.slice b_0.a b_0.len b_0.cap, .int .i64 x1.1, .int .i64 1] S14 fun (n18 : Int) (S30 : St) =>
  loopW
  (fun (k2 : Int × Int → St → Prop) (x2 : Int × Int) (S31 : St) =>
  ifW (ltI x2.2 (wrapI .i64 n18))
  (ptrW (some ⟨b3, 0, none⟩) fun (b24 b25 : Nat) =>
  evV tS (loadV E0 S31 52 (.pointer (some ⟨b24, b25 + 8, none⟩))) fun (s1 : Sl) =>
  evC E0 tU 41 [.slice b_0.a b_0.len b_0.cap, .int .i64 x2.1, .int .i64 2] S31 fun (n19 : Int) (S32 : St) =>
  evV tS (loadV E0 S32 52 (.pointer (some ⟨b24, b25 + 8, none⟩))) fun (s2 : Sl) =>
  sameV (.slice s2.a s2.len s2.cap) (.slice s1.a s1.len s1.cap)
  (evC E0 tU 41 [.slice b_0.a b_0.len b_0.cap, .int .i64 (wrapI .i64 (x2.1 + 2)), .int .i64 4] S32
  fun (n20 : Int) (S33 : St) =>
  evV tS (loadV E0 S33 52 (.pointer (some ⟨b24, b25 + 8, none⟩))) fun (s3 : Sl) =>
  sameV (.slice s3.a s3.len s3.cap) (.slice s1.a s1.len s1.cap)
  (newW S33 (.cells [.int .i64 (wrapI .i64 n19), .int .u32 (wrapI .u32 n20)] none false none)
  fun (b26 : Nat) (S34 : St) =>
  evV tS (loadV E0 S34 52 (.pointer (some ⟨b24, b25 + 8, none⟩))) fun (s4 : Sl) =>
  sameV (.slice s4.a s4.len s4.cap) (.slice s1.a s1.len s1.cap)
  (evP tS (appendD E0 S34 52 52 (.slice s1.a s1.len s1.cap) (.slice (some ⟨b26, 0, none⟩) 1 1))
  fun (s5 : Sl) (S35 : St) =>
  ptrW (some ⟨b3, 0, none⟩) fun (b27 b28 : Nat) =>
  evS (storeV E0 S35 52 (.pointer (some ⟨b27, b28 + 8, none⟩)) (.slice s5.a s5.len s5.cap)) fun (S36 : St) =>
  k2 (wrapI .i64 (x2.1 + 6), wrapI .i64 (x2.2 + 1)) S36))))
  (k1 (x2.1, wrapI .i64 (x1.2 + 1)) S31))
  (wrapI .i64 (x1.1 + 1), 0) S30)
  (k1 (x1.1, wrapI .i64 (x1.2 + 1)) S14)))))))))
  (evV (TT.one (Ty.agg G53)) (loadV E0 S14 54 (.pointer (some ⟨b3, 0, none⟩))) fun (x3 : Int × Int × Int × Int × Int × Int × Int × Int × Sl) =>
  ptrW (some ⟨b2, 0, none⟩) fun (b29 b30 : Nat) =>
  evS (storeV E0 S14 54 (.pointer (some ⟨b29, b30 + 6, none⟩)) (sv G53 x3)) fun (S37 : St) =>
  evV (TT.one (Ty.agg G55)) (loadV E0 S37 56 (.pointer (some ⟨b2, 0, none⟩)))
  fun (x4 : Int × Int × Int × Int × Int × Int × Int × Int × Int × Int × Int × Int × Int × Int × Sl) =>
  evS (storeV E0 S37 56 (.pointer (some ⟨b1, 0, none⟩)) (sv G55 x4)) fun (S38 : St) =>
  evV (TT.one (Ty.agg G55)) (loadV E0 S38 56 (.pointer (some ⟨b1, 0, none⟩)))
  fun (x5 : Int × Int × Int × Int × Int × Int × Int × Int × Int × Int × Int × Int × Int × Int × Sl) => k (sv G55 x5) S38))
  (19, 0) S13
theorem w32 (b_0 : Sl) {S : St} {k : Value → St → Prop} (h : c32 b_0 S k) : WC E0 32 [.slice b_0.a b_0.len b_0.cap] S k :=
  WC_den h32 rfl (by kernel_rfl) (by kernel_rfl : Tryd.f32.body = some (bodyOf Tryd.f32)) (by rw [show (denF E0 h32 Tryd.f32 (bodyOf Tryd.f32) [.slice b_0.a b_0.len b_0.cap] S k) = c32 b_0 S k by kernel_rfl]; exact h)

/-! 33 wagonway/wagonwayref07.Bytes -/
noncomputable def h33 : Hn := (.n .no (.n .no (.n .no (.n .no (.n .no (.n .no (.n .no (.n .no (.n .no (.n .no (.n .no (.n (.n .no (.n (.n (.n .no (.n (.n (.n .no (.n (.n .no (.n .no (.n .no (.n .no (.n .no (.n .no (.n .no (.n .no (.n .no (.n .no (.n .no (.n .no (.n .no (.n .no (.n .no (.n (.n .no (.n .no (.n (.n .no .no (some ⟨[6, 7, 8], [(5, .sc .sl), (9, .sc (.int .i64))], false⟩)) .no none) none) none) .no none) none) none) none) none) none) none) none) none) none) none) none) none) none) none) none) .no none) none) .no none) .no none) none) .no (some ⟨[6, 7], [(5, .sc .sl), (8, .sc (.int .i64))], false⟩)) .no none) none) (.n .no (.n (.n .no (.n (.n .no .no (some ⟨[5], [(10, .sc .sl), (11, .sc (.int .i64))], false⟩)) .no none) none) .no none) none) none) none) none) none) none) none) none) none) none) none) none) none)
def c33 (p_0 : Int × Int × Int × Int × Int × Int × Int × Int × Int × Int × Int × Int × Int × Int × Sl) (S : St) (k : Value → St → Prop) : Prop :=
  newW S
  (.cells
  [.int .i64 p_0.1, .int .i64 p_0.2.1, .int .u32 p_0.2.2.1, .int .u32 p_0.2.2.2.1, .int .u32 p_0.2.2.2.2.1,
  .int .u32 p_0.2.2.2.2.2.1, .int .i64 p_0.2.2.2.2.2.2.1, .int .i64 p_0.2.2.2.2.2.2.2.1,
  .int .u32 p_0.2.2.2.2.2.2.2.2.1, .int .u64 p_0.2.2.2.2.2.2.2.2.2.1, .int .i64 p_0.2.2.2.2.2.2.2.2.2.2.1,
  .int .i64 p_0.2.2.2.2.2.2.2.2.2.2.2.1, .int .i64 p_0.2.2.2.2.2.2.2.2.2.2.2.2.1,
  .int .i64 p_0.2.2.2.2.2.2.2.2.2.2.2.2.2.1,
  .slice p_0.2.2.2.2.2.2.2.2.2.2.2.2.2.2.a p_0.2.2.2.2.2.2.2.2.2.2.2.2.2.2.len p_0.2.2.2.2.2.2.2.2.2.2.2.2.2.2.cap]
  none false none)
  fun (b1 : Nat) (S1 : St) =>
  evV (TT.one (Ty.agg G55)) (loadV E0 S1 56 (.pointer (some ⟨b1, 0, none⟩))) fun (x1 : Int × Int × Int × Int × Int × Int × Int × Int × Int × Int × Int × Int × Int × Int × Sl) =>
  evC E0 tB 43 [sv G55 x1] S1 fun (t1 : Bool) (S2 : St) =>
  ifW (!t1) (k (.tuple #[.slice none 0 0, .int .i64 71]) S2)
  (ptrW (some ⟨b1, 0, none⟩) fun (b2 b3 : Nat) =>
  evV tI (loadV E0 S2 3 (.pointer (some ⟨b2, b3 + 0, none⟩))) fun (n1 : Int) =>
  ptrW (some ⟨b1, 0, none⟩) fun (b4 b5 : Nat) =>
  evV tI (loadV E0 S2 3 (.pointer (some ⟨b4, b5 + 1, none⟩))) fun (n2 : Int) =>
  newW S2 (.cells [.int .u8 (wrapI .u8 n1), .int .u8 (wrapI .u8 n2)] none false none) fun (b6 : Nat) (S3 : St) =>
  ptrW (some ⟨b1, 0, none⟩) fun (b7 b8 : Nat) =>
  evV tU32 (loadV E0 S3 51 (.pointer (some ⟨b7, b8 + 2, none⟩))) fun (n3 : Int) =>
  evC E0 tS 44 [.int .u64 (wrapI .u64 n3), .int .i64 4] S3 fun (s1 : Sl) (S4 : St) =>
  evP tS (appendD E0 S4 36 36 (.slice (some ⟨b6, 0, none⟩) 2 2) (.slice s1.a s1.len s1.cap)) fun (s2 : Sl) (S5 : St) =>
  ptrW (some ⟨b1, 0, none⟩) fun (b9 b10 : Nat) =>
  evV tU32 (loadV E0 S5 51 (.pointer (some ⟨b9, b10 + 3, none⟩))) fun (n4 : Int) =>
  evC E0 tS 44 [.int .u64 (wrapI .u64 n4), .int .i64 4] S5 fun (s3 : Sl) (S6 : St) =>
  evP tS (appendD E0 S6 36 36 (.slice s2.a s2.len s2.cap) (.slice s3.a s3.len s3.cap)) fun (s4 : Sl) (S7 : St) =>
  ptrW (some ⟨b1, 0, none⟩) fun (b11 b12 : Nat) =>
  evV tU32 (loadV E0 S7 51 (.pointer (some ⟨b11, b12 + 4, none⟩))) fun (n5 : Int) =>
  evC E0 tS 44 [.int .u64 (wrapI .u64 n5), .int .i64 4] S7 fun (s5 : Sl) (S8 : St) =>
  evP tS (appendD E0 S8 36 36 (.slice s4.a s4.len s4.cap) (.slice s5.a s5.len s5.cap)) fun (s6 : Sl) (S9 : St) =>
  ptrW (some ⟨b1, 0, none⟩) fun (b13 b14 : Nat) =>
  evV tU32 (loadV E0 S9 51 (.pointer (some ⟨b13, b14 + 5, none⟩))) fun (n6 : Int) =>
  evC E0 tS 44 [.int .u64 (wrapI .u64 n6), .int .i64 4] S9 fun (s7 : Sl) (S10 : St) =>
  evP tS (appendD E0 S10 36 36 (.slice s6.a s6.len s6.cap) (.slice s7.a s7.len s7.cap)) fun (s8 : Sl) (S11 : St) =>
  ptrW (some ⟨b1, 0, none⟩) fun (b15 b16 : Nat) =>
  evV (TT.one (Ty.agg G53)) (loadV E0 S11 54 (.pointer (some ⟨b15, b16 + 6, none⟩))) fun (x2 : Int × Int × Int × Int × Int × Int × Int × Int × Sl) =>
  newW S11
  (.cells
  [.int .i64 0, .int .i64 0, .int .u32 0, .int .u64 0, .int .i64 0, .int .i64 0,
  .int .i64 0, .int .i64 0, .slice none 0 0]
  none false none)
  fun (b17 : Nat) (S12 : St) =>
  evS (storeV E0 S12 54 (.pointer (some ⟨b17, 0, none⟩)) (sv G53 x2)) fun (S13 : St) =>
  ptrW (some ⟨b17, 0, none⟩) fun (b18 b19 : Nat) =>
  evV tI (loadV E0 S13 3 (.pointer (some ⟨b18, b19 + 0, none⟩))) fun (n7 : Int) =>
  newW S13 (.cells [.int .u8 (wrapI .u8 n7)] none false none) fun (b20 : Nat) (S14 : St) =>
  evP tS (appendD E0 S14 36 36 (.slice s8.a s8.len s8.cap) (.slice (some ⟨b20, 0, none⟩) 1 1)) fun (s9 : Sl) (S15 : St) =>
  ptrW (some ⟨b17, 0, none⟩) fun (b21 b22 : Nat) =>
  evV tI (loadV E0 S15 3 (.pointer (some ⟨b21, b22 + 0, none⟩))) fun (n8 : Int) =>
  evC E0 tT 42 [.int .i64 n8] S15 fun (l1 : List UInt8) (S16 : St) =>
  loopW
  (fun (k1 : Sl × Int → St → Prop) (x3 : Sl × Int) (S17 : St) =>
  ifW (ltI x3.2 (↑(List.length l1) : Int))
  (evV tU8 (indexD E0 9 (.string { data := List.toArray l1 }) (.int .i64 x3.2)) fun (n9 : Int) =>
  ifW (eqI n9 99)
  (ptrW (some ⟨b17, 0, none⟩) fun (b23 b24 : Nat) =>
  evV tI (loadV E0 S17 3 (.pointer (some ⟨b23, b24 + 1, none⟩))) fun (n10 : Int) =>
  evC E0 tS 44 [.int .u64 (wrapI .u64 n10), .int .i64 2] S17 fun (s10 : Sl) (S18 : St) =>
  evP tS (appendD E0 S18 36 36 (.slice x3.1.a x3.1.len x3.1.cap) (.slice s10.a s10.len s10.cap))
  fun (s11 : Sl) (S19 : St) => k1 ({ a := s11.a, len := s11.len, cap := s11.cap }, wrapI .i64 (x3.2 + 1)) S19)
  (ifW (eqI n9 103)
  (ptrW (some ⟨b17, 0, none⟩) fun (b25 b26 : Nat) =>
  evV tU32 (loadV E0 S17 51 (.pointer (some ⟨b25, b26 + 2, none⟩))) fun (n11 : Int) =>
  evC E0 tS 44 [.int .u64 (wrapI .u64 n11), .int .i64 4] S17 fun (s12 : Sl) (S20 : St) =>
  evP tS (appendD E0 S20 36 36 (.slice x3.1.a x3.1.len x3.1.cap) (.slice s12.a s12.len s12.cap))
  fun (s13 : Sl) (S21 : St) => k1 ({ a := s13.a, len := s13.len, cap := s13.cap }, wrapI .i64 (x3.2 + 1)) S21)
  (ifW (eqI n9 115)
  (ptrW (some ⟨b17, 0, none⟩) fun (b27 b28 : Nat) =>
  evV tU (loadV E0 S17 28 (.pointer (some ⟨b27, b28 + 3, none⟩))) fun (n12 : Int) =>
  evC E0 tS 44 [.int .u64 n12, .int .i64 8] S17 fun (s14 : Sl) (S22 : St) =>
  evP tS (appendD E0 S22 36 36 (.slice x3.1.a x3.1.len x3.1.cap) (.slice s14.a s14.len s14.cap))
  fun (s15 : Sl) (S23 : St) => k1 ({ a := s15.a, len := s15.len, cap := s15.cap }, wrapI .i64 (x3.2 + 1)) S23)
  (ifW (eqI n9 112)
  (ptrW (some ⟨b17, 0, none⟩) fun (b29 b30 : Nat) =>
  evV tI (loadV E0 S17 3 (.pointer (some ⟨b29, b30 + 4, none⟩))) fun (n13 : Int) =>
  newW S17 (.cells [.int .u8 (wrapI .u8 n13)] none false none) fun (b31 : Nat) (S24 : St) =>
  evP tS (appendD E0 S24 36 36 (.slice x3.1.a x3.1.len x3.1.cap) (.slice (some ⟨b31, 0, none⟩) 1 1))
  fun (s16 : Sl) (S25 : St) => k1 ({ a := s16.a, len := s16.len, cap := s16.cap }, wrapI .i64 (x3.2 + 1)) S25)
  (ifW (eqI n9 104)
  (ptrW (some ⟨b17, 0, none⟩) fun (b32 b33 : Nat) =>
  evV tI (loadV E0 S17 3 (.pointer (some ⟨b32, b33 + 5, none⟩))) fun (n14 : Int) =>
  newW S17 (.cells [.int .u8 (wrapI .u8 n14)] none false none) fun (b34 : Nat) (S26 : St) =>
  evP tS
  (appendD E0 S26 36 36 (.slice x3.1.a x3.1.len x3.1.cap) (.slice (some ⟨b34, 0, none⟩) 1 1))
  fun (s17 : Sl) (S27 : St) => k1 ({ a := s17.a, len := s17.len, cap := s17.cap }, wrapI .i64 (x3.2 + 1)) S27)
  (ifW (eqI n9 111)
  (ptrW (some ⟨b17, 0, none⟩) fun (b35 b36 : Nat) =>
  evV tI (loadV E0 S17 3 (.pointer (some ⟨b35, b36 + 6, none⟩))) fun (n15 : Int) =>
  newW S17 (.cells [.int .u8 (wrapI .u8 n15)] none false none) fun (b37 : Nat) (S28 : St) =>
  evP tS
  (appendD E0 S28 36 36 (.slice x3.1.a x3.1.len x3.1.cap) (.slice (some ⟨b37, 0, none⟩) 1 1))
  fun (s18 : Sl) (S29 : St) => k1 ({ a := s18.a, len := s18.len, cap := s18.cap }, wrapI .i64 (x3.2 + 1)) S29)
  (ifW (eqI n9 119)
  (ptrW (some ⟨b17, 0, none⟩) fun (b38 b39 : Nat) =>
  evV tI (loadV E0 S17 3 (.pointer (some ⟨b38, b39 + 7, none⟩))) fun (n16 : Int) =>
  needW true
  (newW S17
  (.cells [.int .u8 (wrapI .u8 (Int.tmod (wrapI .i64 (n16 + 256)) 256))] none false none)
  fun (b40 : Nat) (S30 : St) =>
  evP tS
  (appendD E0 S30 36 36 (.slice x3.1.a x3.1.len x3.1.cap)
  (.slice (some ⟨b40, 0, none⟩) 1 1))
  fun (s19 : Sl) (S31 : St) =>
  k1 ({ a := s19.a, len := s19.len, cap := s19.cap }, wrapI .i64 (x3.2 + 1)) S31))
  (ifW (eqI n9 108)
  (ptrW (some ⟨b17, 0, none⟩) fun (b41 b42 : Nat) =>
  evV tS (loadV E0 S17 52 (.pointer (some ⟨b41, b42 + 8, none⟩))) fun (s20 : Sl) =>
  newW S17 (.cells [.int .u8 (wrapI .u8 (↑s20.len : Int))] none false none)
  fun (b43 : Nat) (S32 : St) =>
  evP tS
  (appendD E0 S32 36 36 (.slice x3.1.a x3.1.len x3.1.cap)
  (.slice (some ⟨b43, 0, none⟩) 1 1))
  fun (s21 : Sl) (S33 : St) =>
  loopW
  (fun (k2 : Sl × Int → St → Prop) (x4 : Sl × Int) (S34 : St) =>
  ptrW (some ⟨b17, 0, none⟩) fun (b44 b45 : Nat) =>
  evV tS (loadV E0 S34 52 (.pointer (some ⟨b44, b45 + 8, none⟩))) fun (s22 : Sl) =>
  ifW (ltI x4.2 (↑s22.len : Int))
  (ptrW (some ⟨b17, 0, none⟩) fun (b46 b47 : Nat) =>
  evV tS (loadV E0 S34 52 (.pointer (some ⟨b46, b47 + 8, none⟩))) fun (s23 : Sl) =>
  idxW s23.a s23.len x4.2 fun (b48 b49 : Nat) =>
  ptrW (some ⟨b48, b49 + Int.toNat x4.2 * 2, none⟩) fun (b50 b51 : Nat) =>
  evV tI (loadV E0 S34 3 (.pointer (some ⟨b50, b51 + 0, none⟩))) fun (n17 : Int) =>
  evC E0 tS 44 [.int .u64 (wrapI .u64 n17), .int .i64 2] S34
  fun (s24 : Sl) (S35 : St) =>
  evP tS
  (appendD E0 S35 36 36 (.slice x4.1.a x4.1.len x4.1.cap)
  (.slice s24.a s24.len s24.cap))
  fun (s25 : Sl) (S36 : St) =>
  ptrW (some ⟨b17, 0, none⟩) fun (b52 b53 : Nat) =>
  evV tS (loadV E0 S36 52 (.pointer (some ⟨b52, b53 + 8, none⟩)))
  fun (s26 : Sl) =>
  idxW s26.a s26.len x4.2 fun (b54 b55 : Nat) =>
  ptrW (some ⟨b54, b55 + Int.toNat x4.2 * 2, none⟩) fun (b56 b57 : Nat) =>
  evV tU32 (loadV E0 S36 51 (.pointer (some ⟨b56, b57 + 1, none⟩)))
  fun (n18 : Int) =>
  evC E0 tS 44
  [.int .u64 (wrapI .u64 n18), .int .i64 4] S36
  fun (s27 : Sl) (S37 : St) =>
  evP tS
  (appendD E0 S37 36 36 (.slice s25.a s25.len s25.cap)
  (.slice s27.a s27.len s27.cap))
  fun (s28 : Sl) (S38 : St) =>
  k2
  ({ a := s28.a, len := s28.len, cap := s28.cap },
  wrapI .i64 (x4.2 + 1))
  S38)
  (k1 ({ a := x4.1.a, len := x4.1.len, cap := x4.1.cap }, wrapI .i64 (x3.2 + 1)) S34))
  ({ a := s21.a, len := s21.len, cap := s21.cap }, 0) S33)
  (k1 ({ a := x3.1.a, len := x3.1.len, cap := x3.1.cap }, wrapI .i64 (x3.2 + 1)) S17)))))))))
  (loopW
  (fun (k3 : Sl × Int → St → Prop) (x5 : Sl × Int) (S39 : St) =>
  ifW (ltI x5.2 (↑x3.1.len : Int))
  (idxW x3.1.a x3.1.len x5.2 fun (b58 b59 : Nat) =>
  evV tU8 (loadV E0 S39 5 (.pointer (some ⟨b58, b59 + Int.toNat x5.2 * 1, none⟩))) fun (n19 : Int) =>
  idxW x3.1.a x3.1.len x5.2 fun (b60 b61 : Nat) =>
  evV tU8 (loadV E0 S39 5 (.pointer (some ⟨b60, b61 + Int.toNat x5.2 * 1, none⟩))) fun (n20 : Int) =>
  newW S39 (.cells [.int .u8 n19, .int .u8 (wrapI .u8 (255 - n20))] none false none)
  fun (b62 : Nat) (S40 : St) =>
  evP tS (appendD E0 S40 36 36 (.slice x5.1.a x5.1.len x5.1.cap) (.slice (some ⟨b62, 0, none⟩) 2 2))
  fun (s29 : Sl) (S41 : St) => k3 ({ a := s29.a, len := s29.len, cap := s29.cap }, wrapI .i64 (x5.2 + 1)) S41)
  (k (.tuple #[.slice x5.1.a x5.1.len x5.1.cap, .int .i64 0]) S39))
  ({ a := none, len := 0, cap := 0 }, 0) S17))
  ({ a := s9.a, len := s9.len, cap := s9.cap }, 0) S16)
theorem w33 (p_0 : Int × Int × Int × Int × Int × Int × Int × Int × Int × Int × Int × Int × Int × Int × Sl) {S : St} {k : Value → St → Prop} (h : c33 p_0 S k) : WC E0 33 [sv G55 p_0] S k :=
  WC_den h33 rfl (by kernel_rfl) (by kernel_rfl : Tryd.f33.body = some (bodyOf Tryd.f33)) (by rw [show (denF E0 h33 Tryd.f33 (bodyOf Tryd.f33) [sv G55 p_0] S k) = c33 p_0 S k by kernel_rfl]; exact h)

end
end Go.Proofs.YtgdijpcopdgapaaDoor
