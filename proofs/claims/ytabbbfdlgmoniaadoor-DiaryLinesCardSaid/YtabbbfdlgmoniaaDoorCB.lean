/- Parts of the proof, put together. -/
import Derived.Test.YtabbbfdlgmoniaaDoorCA
/- The conditions of functions (printed by GenDen.lean). -/
namespace Go.Proofs.YtabbbfdlgmoniaaDoor
open Go Go.Proofs.YtabbbfdlgmoniaaDoor.D
set_option linter.unusedVariables false
noncomputable section

/-! 8 wagonway/wagonwaylaw28.DiaryLines -/
noncomputable def h8 : Hn := .no
def c8 (x_0 : Int × Int × Int × Int × Int × Int × Int × Sl) (s_1 : List UInt8) (S : St) (k : Value → St → Prop) : Prop :=
  newW S
  (.cells
  [.int .i64 x_0.1, .int .i64 x_0.2.1, .int .i64 x_0.2.2.1, .int .i64 x_0.2.2.2.1, .int .i64 x_0.2.2.2.2.1,
  .int .u64 x_0.2.2.2.2.2.1, .int .i64 x_0.2.2.2.2.2.2.1,
  .slice x_0.2.2.2.2.2.2.2.a x_0.2.2.2.2.2.2.2.len x_0.2.2.2.2.2.2.2.cap]
  none false none)
  fun (b1 : Nat) (S1 : St) =>
  evV (TT.one (Ty.agg G67)) (loadV E0 S1 68 (.pointer (some ⟨b1, 0, none⟩))) fun (x1 : Int × Int × Int × Int × Int × Int × Int × Sl) =>
  newW S1
  (.cells
  [.int .i64 x1.1, .int .i64 x1.2.1, .int .i64 x1.2.2.1, .int .i64 x1.2.2.2.1, .int .i64 x1.2.2.2.2.1,
  .int .u64 x1.2.2.2.2.2.1, .int .i64 x1.2.2.2.2.2.2.1,
  .slice x1.2.2.2.2.2.2.2.a x1.2.2.2.2.2.2.2.len x1.2.2.2.2.2.2.2.cap]
  none false none)
  fun (b2 : Nat) (S2 : St) =>
  evC E0 tI 29 [.slice (some ⟨b2, 0, none⟩) 1 1] S2 fun (n1 : Int) (S3 : St) =>
  ifW (ltI 0 n1) (k (.bool true) S3)
  (ifW (ltI 600 (↑(List.length s_1) : Int)) (k (.bool true) S3)
  (evV (TT.one (Ty.agg G67)) (loadV E0 S3 68 (.pointer (some ⟨b1, 0, none⟩))) fun (x2 : Int × Int × Int × Int × Int × Int × Int × Sl) =>
  evC E0 (TT.tup [Ty.sc Sc.str, Ty.sc (Sc.int .i64)]) 30 [sv G67 x2] S3 fun (x3 : List UInt8 × Int) (S4 : St) =>
  evV (TT.one (Ty.agg G67)) (loadV E0 S4 68 (.pointer (some ⟨b1, 0, none⟩))) fun (x4 : Int × Int × Int × Int × Int × Int × Int × Sl) =>
  evC E0 (TT.tup [Ty.sc Sc.str, Ty.sc (Sc.int .i64)]) 31 [sv G67 x4] S4 fun (x5 : List UInt8 × Int) (S5 : St) =>
  evC E0 (TT.tup [Ty.agg G67, Ty.sc (Sc.int .i64)]) 32 [.string { data := List.toArray s_1 }] S5 fun (x6 : (Int × Int × Int × Int × Int × Int × Int × Sl) × Int) (S6 : St) =>
  newW S6
  (.cells
  [.int .i64 0, .int .i64 0, .int .i64 0, .int .i64 0, .int .i64 0, .int .u64 0, .int .i64 0,
  .slice none 0 0]
  none false none)
  fun (b3 : Nat) (S7 : St) =>
  evS (storeV E0 S7 68 (.pointer (some ⟨b3, 0, none⟩)) (sv G67 x6.1)) fun (S8 : St) =>
  evC E0 (TT.tup [Ty.agg G67, Ty.sc (Sc.int .i64)]) 33 [.string { data := List.toArray s_1 }] S8 fun (x7 : (Int × Int × Int × Int × Int × Int × Int × Sl) × Int) (S9 : St) =>
  newW S9
  (.cells
  [.int .i64 0, .int .i64 0, .int .i64 0, .int .i64 0, .int .i64 0, .int .u64 0, .int .i64 0,
  .slice none 0 0]
  none false none)
  fun (b4 : Nat) (S10 : St) =>
  evS (storeV E0 S10 68 (.pointer (some ⟨b4, 0, none⟩)) (sv G67 x7.1)) fun (S11 : St) =>
  evV (TT.one (Ty.agg G67)) (loadV E0 S11 68 (.pointer (some ⟨b1, 0, none⟩))) fun (x8 : Int × Int × Int × Int × Int × Int × Int × Sl) =>
  evC E0 tI 34 [sv G67 x8] S11 fun (n2 : Int) (S12 : St) =>
  ifW (x3.1 == x5.1)
  (ifW (eqI x3.2 x5.2)
  (evV (TT.one (Ty.agg G67)) (loadV E0 S12 68 (.pointer (some ⟨b3, 0, none⟩))) fun (x9 : Int × Int × Int × Int × Int × Int × Int × Sl) =>
  evV (TT.one (Ty.agg G67)) (loadV E0 S12 68 (.pointer (some ⟨b4, 0, none⟩))) fun (x10 : Int × Int × Int × Int × Int × Int × Int × Sl) =>
  evC E0 tB 35 [sv G67 x9, sv G67 x10] S12 fun (t1 : Bool) (S13 : St) =>
  ifW t1
  (ifW (eqI x6.2 x7.2)
  (ifW (eqI n2 x5.2)
  (evV (TT.one (Ty.agg G67)) (loadV E0 S13 68 (.pointer (some ⟨b1, 0, none⟩))) fun (x11 : Int × Int × Int × Int × Int × Int × Int × Sl) =>
  evV (TT.one (Ty.agg G67)) (loadV E0 S13 68 (.pointer (some ⟨b3, 0, none⟩))) fun (x12 : Int × Int × Int × Int × Int × Int × Int × Sl) =>
  evC E0 tB 36 [sv G67 x11, sv G67 x12] S13 fun (t2 : Bool) (S14 : St) =>
  evV (TT.one (Ty.agg G67)) (loadV E0 S14 68 (.pointer (some ⟨b1, 0, none⟩))) fun (x13 : Int × Int × Int × Int × Int × Int × Int × Sl) =>
  evV (TT.one (Ty.agg G67)) (loadV E0 S13 68 (.pointer (some ⟨b1, 0, none⟩))) fun (x14 : Int × Int × Int × Int × Int × Int × Int × Sl) =>
  sameV (sv G67 x14) (sv G67 x13)
  (evV (TT.one (Ty.agg G67)) (loadV E0 S14 68 (.pointer (some ⟨b3, 0, none⟩))) fun (x15 : Int × Int × Int × Int × Int × Int × Int × Sl) =>
  evV (TT.one (Ty.agg G67)) (loadV E0 S13 68 (.pointer (some ⟨b3, 0, none⟩))) fun (x16 : Int × Int × Int × Int × Int × Int × Int × Sl) =>
  sameV (sv G67 x16) (sv G67 x15)
  (evC E0 tB 35 [sv G67 x13, sv G67 x15] S14 fun (t3 : Bool) (S15 : St) =>
  eqW E0 S15 4 (.bool t2) (.bool t3) fun (t4 : Bool) => k (.bool t4) S15)))
  (k (.bool false) S13))
  (k (.bool false) S13))
  (k (.bool false) S13))
  (k (.bool false) S12))
  (k (.bool false) S12)))
theorem w8 (x_0 : Int × Int × Int × Int × Int × Int × Int × Sl) (s_1 : List UInt8) {S : St} {k : Value → St → Prop} (h : c8 x_0 s_1 S k) : WC E0 8 [sv G67 x_0, .string ⟨s_1.toArray⟩] S k :=
  WC_den h8 rfl (by kernel_rfl) (by kernel_rfl : Tryd.f8.body = some (bodyOf Tryd.f8)) (by rw [show (denF E0 h8 Tryd.f8 (bodyOf Tryd.f8) [sv G67 x_0, .string ⟨s_1.toArray⟩] S k) = c8 x_0 s_1 S k by kernel_rfl]; exact h)

/-! 29 wagonway/wagonwaylaw28.Great -/
noncomputable def h29 : Hn := (.n .no (.n .no (.n (.n .no (.n (.n .no .no (some ⟨[0, 8], [(9, .sc (.int .i64))], false⟩)) .no none) none) .no none) none) none)
def c29 (l_0 : Sl) (S : St) (k : Value → St → Prop) : Prop :=
  ifW (ltI 60 (↑l_0.len : Int)) (k (.int .i64 1) S)
  (loopW
  (fun (k1 : Int → St → Prop) (n1 : Int) (S1 : St) =>
  ifW (ltI n1 (↑l_0.len : Int))
  (idxW l_0.a l_0.len n1 fun (b1 b2 : Nat) =>
  ptrW (some ⟨b1, b2 + Int.toNat n1 * 8, none⟩) fun (b3 b4 : Nat) =>
  evV tS (loadV E0 S1 66 (.pointer (some ⟨b3, b4 + 7, none⟩))) fun (s1 : Sl) =>
  ifW (ltI 30 (↑s1.len : Int))
  (idxW l_0.a l_0.len n1 fun (b5 b6 : Nat) =>
  ptrW (some ⟨b5, b6 + Int.toNat n1 * 8, none⟩) fun (b7 b8 : Nat) =>
  evV tS (loadV E0 S1 66 (.pointer (some ⟨b7, b8 + 7, none⟩))) fun (s2 : Sl) => ifW (!eqI (↑s2.len : Int) 1001) (k (.int .i64 1) S1) (k1 (wrapI .i64 (n1 + 1)) S1))
  (k1 (wrapI .i64 (n1 + 1)) S1))
  (k (.int .i64 0) S1))
  0 S)
theorem w29 (l_0 : Sl) {S : St} {k : Value → St → Prop} (h : c29 l_0 S k) : WC E0 29 [.slice l_0.a l_0.len l_0.cap] S k :=
  WC_den h29 rfl (by kernel_rfl) (by kernel_rfl : Tryd.f29.body = some (bodyOf Tryd.f29)) (by rw [show (denF E0 h29 Tryd.f29 (bodyOf Tryd.f29) [.slice l_0.a l_0.len l_0.cap] S k) = c29 l_0 S k by kernel_rfl]; exact h)

/-! 30 wagonway/diary.Line -/
noncomputable def h30 : Hn := (.n .no (.n .no (.n .no (.n .no (.n (.n .no (.n (.n .no .no (some ⟨[27, 28], [(7, .sc .sl), (29, .sc (.int .i64))], false⟩)) .no none) none) .no none) none) none) none) none)
def c30 (x_0 : Int × Int × Int × Int × Int × Int × Int × Sl) (S : St) (k : Value → St → Prop) : Prop :=
  newW S
  (.cells
  [.int .i64 x_0.1, .int .i64 x_0.2.1, .int .i64 x_0.2.2.1, .int .i64 x_0.2.2.2.1, .int .i64 x_0.2.2.2.2.1,
  .int .u64 x_0.2.2.2.2.2.1, .int .i64 x_0.2.2.2.2.2.2.1,
  .slice x_0.2.2.2.2.2.2.2.a x_0.2.2.2.2.2.2.2.len x_0.2.2.2.2.2.2.2.cap]
  none false none)
  fun (b1 : Nat) (S1 : St) =>
  evV (TT.one (Ty.agg G67)) (loadV E0 S1 68 (.pointer (some ⟨b1, 0, none⟩))) fun (x1 : Int × Int × Int × Int × Int × Int × Int × Sl) =>
  evC E0 tI 34 [sv G67 x1] S1 fun (n1 : Int) (S2 : St) =>
  ifW (!eqI n1 0) (k (.tuple #[.string { data := #[] }, .int .i64 n1]) S2)
  (ptrW (some ⟨b1, 0, none⟩) fun (b2 b3 : Nat) =>
  evV (TT.one (Ty.agg G23)) (loadV E0 S2 24 (.pointer (some ⟨b2, b3 + 0, none⟩))) fun (x2 : Int × Int × Int × Int × Int × Int) =>
  evC E0 (TT.tup [Ty.sc Sc.str, Ty.sc (Sc.int .i64)]) 11 [sv G23 x2] S2 fun (x3 : List UInt8 × Int) (S3 : St) =>
  ptrW (some ⟨b1, 0, none⟩) fun (b4 b5 : Nat) =>
  evV tI (loadV E0 S3 25 (.pointer (some ⟨b4, b5 + 6, none⟩))) fun (n2 : Int) =>
  evC E0 tT 40 [.int .i64 n2] S3 fun (l1 : List UInt8) (S4 : St) =>
  newW S4 (.cells [.string { data := List.toArray x3.1 }, .string { data := #[UInt8.ofNat 61] }, .string { data := List.toArray l1 }] none false none) fun (b6 : Nat) (S5 : St) =>
  ptrW (some ⟨b1, 0, none⟩) fun (b7 b8 : Nat) =>
  evV tS (loadV E0 S5 66 (.pointer (some ⟨b7, b8 + 7, none⟩))) fun (s1 : Sl) =>
  loopW
  (fun (k1 : Sl × Int → St → Prop) (x4 : Sl × Int) (S6 : St) =>
  ifW (ltI x4.2 (↑s1.len : Int))
  (idxW s1.a s1.len x4.2 fun (b9 b10 : Nat) =>
  evV (TT.one (Ty.agg G58)) (loadV E0 S6 127 (.pointer (some ⟨b9, b10 + Int.toNat x4.2 * 3, none⟩))) fun (x5 : Int × Int × Int) =>
  newW S6 (.cells [.int .i64 0, .int .i64 0, .int .i64 0] none false none) fun (b11 : Nat) (S7 : St) =>
  evS (storeV E0 S7 127 (.pointer (some ⟨b11, 0, none⟩)) (sv G58 x5)) fun (S8 : St) =>
  ptrW (some ⟨b11, 0, none⟩) fun (b12 b13 : Nat) =>
  evV tI (loadV E0 S8 3 (.pointer (some ⟨b12, b13 + 0, none⟩))) fun (n3 : Int) =>
  idxW (some ⟨2, 0, none⟩) 4 n3 fun (b14 b15 : Nat) =>
  evV tT (loadV E0 S8 9 (.pointer (some ⟨b14, b15 + Int.toNat n3 * 1, none⟩))) fun (l2 : List UInt8) =>
  evV tT (catD { data := List.toArray l2 } { data := #[UInt8.ofNat 58] }) fun (l3 : List UInt8) =>
  ptrW (some ⟨b11, 0, none⟩) fun (b16 b17 : Nat) =>
  evV tI (loadV E0 S8 3 (.pointer (some ⟨b16, b17 + 1, none⟩))) fun (n4 : Int) =>
  evC E0 tT 40 [.int .i64 n4] S8 fun (l4 : List UInt8) (S9 : St) =>
  evV tT (loadV E0 S9 9 (.pointer (some ⟨b14, b15 + Int.toNat n3 * 1, none⟩))) fun (l5 : List UInt8) =>
  sameV (.string { data := List.toArray l5 }) (.string { data := List.toArray l2 })
  (evV tI (loadV E0 S9 3 (.pointer (some ⟨b12, b13 + 0, none⟩))) fun (n5 : Int) =>
  sameV (.int .i64 n5) (.int .i64 n3)
  (evV tT (catD { data := List.toArray l3 } { data := List.toArray l4 }) fun (l6 : List UInt8) =>
  evV tT (catD { data := List.toArray l6 } { data := #[UInt8.ofNat 58] }) fun (l7 : List UInt8) =>
  ptrW (some ⟨b11, 0, none⟩) fun (b18 b19 : Nat) =>
  evV tI (loadV E0 S9 3 (.pointer (some ⟨b18, b19 + 2, none⟩))) fun (n6 : Int) =>
  evV tI (loadV E0 S8 3 (.pointer (some ⟨b18, b19 + 2, none⟩))) fun (n7 : Int) =>
  sameV (.int .i64 n7) (.int .i64 n6)
  (evC E0 tT 40 [.int .i64 n6] S9 fun (l8 : List UInt8) (S10 : St) =>
  evV tT (loadV E0 S10 9 (.pointer (some ⟨b14, b15 + Int.toNat n3 * 1, none⟩))) fun (l9 : List UInt8) =>
  sameV (.string { data := List.toArray l9 }) (.string { data := List.toArray l2 })
  (evV tI (loadV E0 S10 3 (.pointer (some ⟨b12, b13 + 0, none⟩))) fun (n8 : Int) =>
  sameV (.int .i64 n8) (.int .i64 n3)
  (evV tT (catD { data := List.toArray l7 } { data := List.toArray l8 }) fun (l10 : List UInt8) =>
  newW S10 (.cells [.string { data := List.toArray l10 }] none false none) fun (b20 : Nat) (S11 : St) =>
  evP tS (appendD E0 S11 80 80 (.slice x4.1.a x4.1.len x4.1.cap) (.slice (some ⟨b20, 0, none⟩) 1 1))
  fun (s2 : Sl) (S12 : St) => k1 ({ a := s2.a, len := s2.len, cap := s2.cap }, wrapI .i64 (x4.2 + 1)) S12))))))
  (evC E0 tT 42 [.slice x4.1.a x4.1.len x4.1.cap, .string { data := #[UInt8.ofNat 32] }] S6 fun (l11 : List UInt8) (S13 : St) =>
  k (.tuple #[.string { data := List.toArray l11 }, .int .i64 0]) S13))
  ({ a := some ⟨b6, 0, none⟩, len := 3, cap := 3 }, 0) S5)
theorem w30 (x_0 : Int × Int × Int × Int × Int × Int × Int × Sl) {S : St} {k : Value → St → Prop} (h : c30 x_0 S k) : WC E0 30 [sv G67 x_0] S k :=
  WC_den h30 rfl (by kernel_rfl) (by kernel_rfl : Tryd.f30.body = some (bodyOf Tryd.f30)) (by rw [show (denF E0 h30 Tryd.f30 (bodyOf Tryd.f30) [sv G67 x_0] S k) = c30 x_0 S k by kernel_rfl]; exact h)

/-! 31 wagonway/wagonwayref28.Line -/
noncomputable def h31 : Hn := (.n .no (.n .no (.n .no (.n .no (.n .no (.n (.n .no (.n (.n .no .no (some ⟨[1], [(5, .sc .str), (7, .sc (.int .i64))], false⟩)) .no none) none) .no none) none) none) none) none) none)
def c31 (x_0 : Int × Int × Int × Int × Int × Int × Int × Sl) (S : St) (k : Value → St → Prop) : Prop :=
  newW S
  (.cells
  [.int .i64 x_0.1, .int .i64 x_0.2.1, .int .i64 x_0.2.2.1, .int .i64 x_0.2.2.2.1, .int .i64 x_0.2.2.2.2.1,
  .int .u64 x_0.2.2.2.2.2.1, .int .i64 x_0.2.2.2.2.2.2.1,
  .slice x_0.2.2.2.2.2.2.2.a x_0.2.2.2.2.2.2.2.len x_0.2.2.2.2.2.2.2.cap]
  none false none)
  fun (b1 : Nat) (S1 : St) =>
  evV (TT.one (Ty.agg G67)) (loadV E0 S1 68 (.pointer (some ⟨b1, 0, none⟩))) fun (x1 : Int × Int × Int × Int × Int × Int × Int × Sl) =>
  evC E0 tB 69 [sv G67 x1] S1 fun (t1 : Bool) (S2 : St) =>
  ifW (!t1) (k (.tuple #[.string { data := #[] }, .int .i64 280]) S2)
  (ptrW (some ⟨b1, 0, none⟩) fun (b2 b3 : Nat) =>
  evV (TT.one (Ty.agg G23)) (loadV E0 S2 24 (.pointer (some ⟨b2, b3 + 0, none⟩))) fun (x2 : Int × Int × Int × Int × Int × Int) =>
  evC E0 (TT.tup [Ty.sc Sc.str, Ty.sc (Sc.int .i64)]) 12 [sv G23 x2] S2 fun (x3 : List UInt8 × Int) (S3 : St) =>
  evV tT (catD { data := List.toArray x3.1 } { data := #[UInt8.ofNat 32, UInt8.ofNat 61, UInt8.ofNat 32] }) fun (l1 : List UInt8) =>
  ptrW (some ⟨b1, 0, none⟩) fun (b4 b5 : Nat) =>
  evV tI (loadV E0 S3 25 (.pointer (some ⟨b4, b5 + 6, none⟩))) fun (n1 : Int) =>
  evC E0 tT 70 [.int .i64 n1] S3 fun (l2 : List UInt8) (S4 : St) =>
  evV tT (catD { data := List.toArray l1 } { data := List.toArray l2 }) fun (l3 : List UInt8) =>
  loopW
  (fun (k1 : List UInt8 × Int → St → Prop) (x4 : List UInt8 × Int) (S5 : St) =>
  ptrW (some ⟨b1, 0, none⟩) fun (b6 b7 : Nat) =>
  evV tS (loadV E0 S5 66 (.pointer (some ⟨b6, b7 + 7, none⟩))) fun (s1 : Sl) =>
  ifW (ltI x4.2 (↑s1.len : Int))
  (evV tT (catD { data := List.toArray x4.1 } { data := #[UInt8.ofNat 32] }) fun (l4 : List UInt8) =>
  ptrW (some ⟨b1, 0, none⟩) fun (b8 b9 : Nat) =>
  evV tS (loadV E0 S5 66 (.pointer (some ⟨b8, b9 + 7, none⟩))) fun (s2 : Sl) =>
  idxW s2.a s2.len x4.2 fun (b10 b11 : Nat) =>
  ptrW (some ⟨b10, b11 + Int.toNat x4.2 * 3, none⟩) fun (b12 b13 : Nat) =>
  evV tI (loadV E0 S5 3 (.pointer (some ⟨b12, b13 + 0, none⟩))) fun (n2 : Int) =>
  evC E0 tT 71 [.int .i64 n2] S5 fun (l5 : List UInt8) (S6 : St) =>
  evV tT (catD { data := List.toArray l4 } { data := List.toArray l5 }) fun (l6 : List UInt8) =>
  evV tT (catD { data := List.toArray l6 } { data := #[UInt8.ofNat 58] }) fun (l7 : List UInt8) =>
  ptrW (some ⟨b1, 0, none⟩) fun (b14 b15 : Nat) =>
  evV tS (loadV E0 S6 66 (.pointer (some ⟨b14, b15 + 7, none⟩))) fun (s3 : Sl) =>
  evV tS (loadV E0 S5 66 (.pointer (some ⟨b14, b15 + 7, none⟩))) fun (s4 : Sl) =>
  sameV (.slice s4.a s4.len s4.cap) (.slice s3.a s3.len s3.cap)
  (idxW s3.a s3.len x4.2 fun (b16 b17 : Nat) =>
  ptrW (some ⟨b16, b17 + Int.toNat x4.2 * 3, none⟩) fun (b18 b19 : Nat) =>
  evV tI (loadV E0 S6 3 (.pointer (some ⟨b18, b19 + 1, none⟩))) fun (n3 : Int) =>
  evV tI (loadV E0 S5 3 (.pointer (some ⟨b18, b19 + 1, none⟩))) fun (n4 : Int) =>
  sameV (.int .i64 n4) (.int .i64 n3)
  (evC E0 tT 70 [.int .i64 n3] S6 fun (l8 : List UInt8) (S7 : St) =>
  evV tT (catD { data := List.toArray l7 } { data := List.toArray l8 }) fun (l9 : List UInt8) =>
  evV tT (catD { data := List.toArray l9 } { data := #[UInt8.ofNat 58] }) fun (l10 : List UInt8) =>
  ptrW (some ⟨b1, 0, none⟩) fun (b20 b21 : Nat) =>
  evV tS (loadV E0 S7 66 (.pointer (some ⟨b20, b21 + 7, none⟩))) fun (s5 : Sl) =>
  evV tS (loadV E0 S6 66 (.pointer (some ⟨b20, b21 + 7, none⟩))) fun (s6 : Sl) =>
  sameV (.slice s6.a s6.len s6.cap) (.slice s5.a s5.len s5.cap)
  (evV tS (loadV E0 S5 66 (.pointer (some ⟨b20, b21 + 7, none⟩))) fun (s7 : Sl) =>
  sameV (.slice s7.a s7.len s7.cap) (.slice s5.a s5.len s5.cap)
  (idxW s5.a s5.len x4.2 fun (b22 b23 : Nat) =>
  ptrW (some ⟨b22, b23 + Int.toNat x4.2 * 3, none⟩) fun (b24 b25 : Nat) =>
  evV tI (loadV E0 S7 3 (.pointer (some ⟨b24, b25 + 2, none⟩))) fun (n5 : Int) =>
  evV tI (loadV E0 S6 3 (.pointer (some ⟨b24, b25 + 2, none⟩))) fun (n6 : Int) =>
  sameV (.int .i64 n6) (.int .i64 n5)
  (evV tI (loadV E0 S5 3 (.pointer (some ⟨b24, b25 + 2, none⟩))) fun (n7 : Int) =>
  sameV (.int .i64 n7) (.int .i64 n5)
  (evC E0 tT 70 [.int .i64 n5] S7 fun (l11 : List UInt8) (S8 : St) =>
  evV tT (catD { data := List.toArray l10 } { data := List.toArray l11 }) fun (l12 : List UInt8) =>
  k1 (l12, wrapI .i64 (x4.2 + 1)) S8)))))))
  (k (.tuple #[.string { data := List.toArray x4.1 }, .int .i64 0]) S5))
  (l3, 0) S4)
theorem w31 (x_0 : Int × Int × Int × Int × Int × Int × Int × Sl) {S : St} {k : Value → St → Prop} (h : c31 x_0 S k) : WC E0 31 [sv G67 x_0] S k :=
  WC_den h31 rfl (by kernel_rfl) (by kernel_rfl : Tryd.f31.body = some (bodyOf Tryd.f31)) (by rw [show (denF E0 h31 Tryd.f31 (bodyOf Tryd.f31) [sv G67 x_0] S k) = c31 x_0 S k by kernel_rfl]; exact h)

/-! 32 wagonway/diary.Read -/
noncomputable def h32 : Hn := (.n .no (.n (.n .no (.n .no (.n .no (.n .no (.n .no (.n .no (.n .no (.n .no (.n (.n .no (.n (.n .no .no (some ⟨[], [(43, .agg [(.int .i64), (.int .i64), (.int .i64)])], false⟩)) .no none) none) .no (some ⟨[0, 2, 8, 11], [], true⟩)) none) none) none) none) none) none) none) none) .no none) none)
def c32 (s_0 : List UInt8) (S : St) (k : Value → St → Prop) : Prop :=
  newW S
  (.cells [.int .i64 0, .int .i64 0, .int .i64 0, .int .i64 0, .int .i64 0, .int .u64 0, .int .i64 0, .slice none 0 0] none
  false none)
  fun (b1 : Nat) (S1 : St) =>
  evC E0 (TT.tup [Ty.sc Sc.str, Ty.sc Sc.str, Ty.sc Sc.bool]) 72 [.string { data := List.toArray s_0 }, .string { data := #[UInt8.ofNat 32, UInt8.ofNat 61, UInt8.ofNat 32] }] S1
  fun (x1 : List UInt8 × List UInt8 × Bool) (S2 : St) =>
  ifW (!x1.2.2)
  (evS
  (storeV E0 S2 68 (.pointer (some ⟨b1, 0, none⟩))
  (.agg
  #[.int .i64 0, .int .i64 0, .int .i64 0, .int .i64 0, .int .i64 0, .int .u64 0, .int .i64 0, .slice none 0 0]))
  fun (S3 : St) =>
  evV (TT.one (Ty.agg G67)) (loadV E0 S3 68 (.pointer (some ⟨b1, 0, none⟩))) fun (x2 : Int × Int × Int × Int × Int × Int × Int × Sl) => k (.tuple #[sv G67 x2, .int .i64 280]) S3)
  (evC E0 tS 45 [.string { data := List.toArray x1.2.1 }, .string { data := #[UInt8.ofNat 32] }] S2 fun (s1 : Sl) (S4 : St) =>
  idxW s1.a s1.len 0 fun (b2 b3 : Nat) =>
  evV tT (loadV E0 S4 9 (.pointer (some ⟨b2, b3 + Int.toNat 0 * 1, none⟩))) fun (l1 : List UInt8) =>
  evC E0 tI 73 [.string { data := List.toArray l1 }] S4 fun (n1 : Int) (S5 : St) =>
  newW S5
  (.cells
  [.int .i64 0, .int .i64 0, .int .i64 0, .int .i64 0, .int .i64 0, .int .u64 0, .int .i64 0, .slice none 0 0] none
  false none)
  fun (b4 : Nat) (S6 : St) =>
  evS
  (storeV E0 S6 68 (.pointer (some ⟨b4, 0, none⟩))
  (.agg
  #[.int .i64 0, .int .i64 0, .int .i64 0, .int .i64 0, .int .i64 0, .int .u64 0, .int .i64 n1,
  .slice none 0 0]))
  fun (S7 : St) =>
  evC E0 (TT.tup [Ty.agg G23, Ty.sc (Sc.int .i64)]) 13 [.string { data := List.toArray x1.1 }] S7 fun (x3 : (Int × Int × Int × Int × Int × Int) × Int) (S8 : St) =>
  newW S8 (.cells [.int .i64 0, .int .i64 0, .int .i64 0, .int .i64 0, .int .i64 0, .int .u64 0] none false none)
  fun (b5 : Nat) (S9 : St) =>
  evS (storeV E0 S9 24 (.pointer (some ⟨b5, 0, none⟩)) (sv G23 x3.1)) fun (S10 : St) =>
  evV (TT.one (Ty.agg G23)) (loadV E0 S10 24 (.pointer (some ⟨b5, 0, none⟩))) fun (x4 : Int × Int × Int × Int × Int × Int) =>
  ptrW (some ⟨b4, 0, none⟩) fun (b6 b7 : Nat) =>
  evS (storeV E0 S10 24 (.pointer (some ⟨b6, b7 + 0, none⟩)) (sv G23 x4)) fun (S11 : St) =>
  newW S11 (.cells [.bool false] none false none) fun (b8 : Nat) (S12 : St) =>
  evS (storeV E0 S12 4 (.pointer (some ⟨b8, 0, none⟩)) (.bool (eqI x3.2 0))) fun (S13 : St) =>
  joinW
  (fun (x5 : List Nat × PUnit) (S14 : St) =>
  evV (TT.one (Ty.agg G67)) (loadV E0 S14 68 (.pointer (some ⟨b4, 0, none⟩))) fun (x6 : Int × Int × Int × Int × Int × Int × Int × Sl) =>
  evC E0 (TT.tup [Ty.sc Sc.str, Ty.sc (Sc.int .i64)]) 30 [sv G67 x6] S14 fun (x7 : List UInt8 × Int) (S15 : St) =>
  evV tB (loadV E0 S15 4 (.pointer (some ⟨b8, 0, none⟩))) fun (t1 : Bool) =>
  ifW (!t1)
  (evS
  (storeV E0 S15 68 (.pointer (some ⟨b1, 0, none⟩))
  (.agg
  #[.int .i64 0, .int .i64 0, .int .i64 0, .int .i64 0, .int .i64 0, .int .u64 0,
  .int .i64 0, .slice none 0 0]))
  fun (S16 : St) =>
  shutW x5.1 S16 fun (S17 : St) =>
  evV (TT.one (Ty.agg G67)) (loadV E0 S17 68 (.pointer (some ⟨b1, 0, none⟩))) fun (x8 : Int × Int × Int × Int × Int × Int × Int × Sl) =>
  k (.tuple #[sv G67 x8, .int .i64 280]) S17)
  (ifW (!eqI x7.2 0)
  (evS
  (storeV E0 S15 68 (.pointer (some ⟨b1, 0, none⟩))
  (.agg
  #[.int .i64 0, .int .i64 0, .int .i64 0, .int .i64 0, .int .i64 0, .int .u64 0,
  .int .i64 0, .slice none 0 0]))
  fun (S18 : St) =>
  shutW x5.1 S18 fun (S19 : St) =>
  evV (TT.one (Ty.agg G67)) (loadV E0 S19 68 (.pointer (some ⟨b1, 0, none⟩))) fun (x9 : Int × Int × Int × Int × Int × Int × Int × Sl) =>
  k (.tuple #[sv G67 x9, .int .i64 280]) S19)
  (ifW (!x7.1 == s_0)
  (evS
  (storeV E0 S15 68 (.pointer (some ⟨b1, 0, none⟩))
  (.agg
  #[.int .i64 0, .int .i64 0, .int .i64 0, .int .i64 0, .int .i64 0, .int .u64 0,
  .int .i64 0, .slice none 0 0]))
  fun (S20 : St) =>
  shutW x5.1 S20 fun (S21 : St) =>
  evV (TT.one (Ty.agg G67)) (loadV E0 S21 68 (.pointer (some ⟨b1, 0, none⟩))) fun (x10 : Int × Int × Int × Int × Int × Int × Int × Sl) =>
  k (.tuple #[sv G67 x10, .int .i64 280]) S21)
  (evV (TT.one (Ty.agg G67)) (loadV E0 S15 68 (.pointer (some ⟨b4, 0, none⟩))) fun (x11 : Int × Int × Int × Int × Int × Int × Int × Sl) =>
  evS (storeV E0 S15 68 (.pointer (some ⟨b1, 0, none⟩)) (sv G67 x11)) fun (S22 : St) =>
  shutW x5.1 S22 fun (S23 : St) =>
  evV (TT.one (Ty.agg G67)) (loadV E0 S23 68 (.pointer (some ⟨b1, 0, none⟩))) fun (x12 : Int × Int × Int × Int × Int × Int × Int × Sl) =>
  k (.tuple #[sv G67 x12, .int .i64 0]) S23))))
  fun (k1 : List Nat × PUnit → St → Prop) =>
  evV tS (sliceD E0 S13 80 (.slice s1.a s1.len s1.cap) (some (.int .i64 1)) none none) fun (s2 : Sl) =>
  evC E0 tA 74 [.slice s2.a s2.len s2.cap] S13 fun (v1 : Value) (S24 : St) =>
  newW S24 DObj.deferred fun (b9 : Nat) (S25 : St) =>
  ∀ (b10 : Nat) (S26 : St) (k2 : LoopState → Option Code → DObj),
  b10 = S25.next →
  S26 = (St.alloc S25 (k2 LoopState.ready none)).2 →
  (LoopL fun (x13 : LoopState) (p1 : Option Code) => k2 x13 p1) →
  (RoundH E0 b10 [Ty.agg [Sc.int .i64, Sc.int .i64, Sc.int .i64]] fun (x14 : Int × Int × Int) (S27 : St) (k3 : Bool → St → Prop) =>
  hasW S27 b10 (k2 LoopState.ready none)
  (newW S27 (.cells [.int .i64 0, .int .i64 0, .int .i64 0] none false none) fun (b11 : Nat) (S28 : St) =>
  evS (storeV E0 S28 127 (.pointer (some ⟨b11, 0, none⟩)) (sv G58 x14)) fun (S29 : St) =>
  hasW S29 b10 (k2 LoopState.ready none)
  (updW S29 b10 (k2 LoopState.busy none) fun (S30 : St) =>
  evV tB (loadV E0 S30 4 (.pointer (some ⟨b8, 0, none⟩))) fun (t2 : Bool) =>
  ifW t2
  (evV (TT.one (Ty.agg G58)) (loadV E0 S30 127 (.pointer (some ⟨b11, 0, none⟩))) fun (x15 : Int × Int × Int) =>
  evC E0 tB 75 [sv G58 x15] S30 fun (t3 : Bool) (S31 : St) =>
  evS (storeV E0 S31 4 (.pointer (some ⟨b8, 0, none⟩)) (.bool t3)) fun (S32 : St) =>
  evV tB (loadV E0 S32 4 (.pointer (some ⟨b8, 0, none⟩))) fun (t4 : Bool) =>
  ifW (!t4) (hasW S32 b10 (k2 LoopState.busy none) (updW S32 b10 (k2 LoopState.done (some (Code.exit 0))) fun (S33 : St) => k3 false S33))
  (ptrW (some ⟨b4, 0, none⟩) fun (b12 b13 : Nat) =>
  evV tS (loadV E0 S32 66 (.pointer (some ⟨b12, b13 + 7, none⟩))) fun (s3 : Sl) =>
  evV (TT.one (Ty.agg G58)) (loadV E0 S32 127 (.pointer (some ⟨b11, 0, none⟩))) fun (x16 : Int × Int × Int) =>
  newW S32
  (.cells [.int .i64 x16.1, .int .i64 x16.2.1, .int .i64 x16.2.2] none false none)
  fun (b14 : Nat) (S34 : St) =>
  evP tS (appendD E0 S34 66 66 (.slice s3.a s3.len s3.cap) (.slice (some ⟨b14, 0, none⟩) 1 1))
  fun (s4 : Sl) (S35 : St) =>
  ptrW (some ⟨b4, 0, none⟩) fun (b15 b16 : Nat) =>
  evS (storeV E0 S35 66 (.pointer (some ⟨b15, b16 + 7, none⟩)) (.slice s4.a s4.len s4.cap)) fun (S36 : St) =>
  hasW S36 b10 (k2 LoopState.busy none) (updW S36 b10 (k2 LoopState.ready none) fun (S37 : St) => k3 true S37)))
  (evS (storeV E0 S30 4 (.pointer (some ⟨b8, 0, none⟩)) (.bool false)) fun (S38 : St) =>
  evV tB (loadV E0 S38 4 (.pointer (some ⟨b8, 0, none⟩))) fun (t5 : Bool) =>
  ifW (!t5) (hasW S38 b10 (k2 LoopState.busy none) (updW S38 b10 (k2 LoopState.done (some (Code.exit 0))) fun (S39 : St) => k3 false S39))
  (ptrW (some ⟨b4, 0, none⟩) fun (b17 b18 : Nat) =>
  evV tS (loadV E0 S38 66 (.pointer (some ⟨b17, b18 + 7, none⟩))) fun (s5 : Sl) =>
  evV (TT.one (Ty.agg G58)) (loadV E0 S38 127 (.pointer (some ⟨b11, 0, none⟩))) fun (x17 : Int × Int × Int) =>
  newW S38 (.cells [.int .i64 x17.1, .int .i64 x17.2.1, .int .i64 x17.2.2] none false none)
  fun (b19 : Nat) (S40 : St) =>
  evP tS (appendD E0 S40 66 66 (.slice s5.a s5.len s5.cap) (.slice (some ⟨b19, 0, none⟩) 1 1))
  fun (s6 : Sl) (S41 : St) =>
  ptrW (some ⟨b4, 0, none⟩) fun (b20 b21 : Nat) =>
  evS (storeV E0 S41 66 (.pointer (some ⟨b20, b21 + 7, none⟩)) (.slice s6.a s6.len s6.cap)) fun (S42 : St) =>
  hasW S42 b10 (k2 LoopState.busy none) (updW S42 b10 (k2 LoopState.ready none) fun (S43 : St) => k3 true S43)))))) →
  WG E0 v1 b10 S26 fun (S44 : St) =>
  hasW S44 b10 (k2 LoopState.ready none) (updW S44 b10 (k2 LoopState.exhausted none) fun (S45 : St) => k1 ([b9], PUnit.unit) S45) ∨
  hasW S44 b10 (k2 LoopState.done (some (Code.exit 0))) (updW S44 b10 (k2 LoopState.exhausted (some (Code.exit 0))) fun (S46 : St) => k1 ([b9], PUnit.unit) S46) ∨
  False)
theorem w32 (s_0 : List UInt8) {S : St} {k : Value → St → Prop} (h : c32 s_0 S k) : WC E0 32 [.string ⟨s_0.toArray⟩] S k :=
  WC_den h32 rfl (by kernel_rfl) (by kernel_rfl : Tryd.f32.body = some (bodyOf Tryd.f32)) (by rw [show (denF E0 h32 Tryd.f32 (bodyOf Tryd.f32) [.string ⟨s_0.toArray⟩] S k) = c32 s_0 S k by kernel_rfl]; exact h)

/-! 34 wagonway/diary.Check -/
noncomputable def h34 : Hn := .no
def c34 (x_0 : Int × Int × Int × Int × Int × Int × Int × Sl) (S : St) (k : Value → St → Prop) : Prop :=
  newW S
  (.cells
  [.int .i64 x_0.1, .int .i64 x_0.2.1, .int .i64 x_0.2.2.1, .int .i64 x_0.2.2.2.1, .int .i64 x_0.2.2.2.2.1,
  .int .u64 x_0.2.2.2.2.2.1, .int .i64 x_0.2.2.2.2.2.2.1,
  .slice x_0.2.2.2.2.2.2.2.a x_0.2.2.2.2.2.2.2.len x_0.2.2.2.2.2.2.2.cap]
  none false none)
  fun (b1 : Nat) (S1 : St) =>
  ptrW (some ⟨b1, 0, none⟩) fun (b2 b3 : Nat) =>
  evV (TT.one (Ty.agg G23)) (loadV E0 S1 24 (.pointer (some ⟨b2, b3 + 0, none⟩))) fun (x1 : Int × Int × Int × Int × Int × Int) =>
  evC E0 tI 15 [sv G23 x1] S1 fun (n1 : Int) (S2 : St) =>
  ifW (!eqI n1 0) (k (.int .i64 280) S2)
  (ptrW (some ⟨b1, 0, none⟩) fun (b4 b5 : Nat) =>
  evV tI (loadV E0 S2 25 (.pointer (some ⟨b4, b5 + 6, none⟩))) fun (n2 : Int) =>
  ifW (ltI n2 0) (k (.int .i64 280) S2)
  (ptrW (some ⟨b1, 0, none⟩) fun (b6 b7 : Nat) =>
  evV tI (loadV E0 S2 25 (.pointer (some ⟨b6, b7 + 6, none⟩))) fun (n3 : Int) =>
  ifW (ltI 999 n3) (k (.int .i64 280) S2)
  (ptrW (some ⟨b1, 0, none⟩) fun (b8 b9 : Nat) =>
  evV tS (loadV E0 S2 66 (.pointer (some ⟨b8, b9 + 7, none⟩))) fun (s1 : Sl) =>
  ifW (ltI 1000 (↑s1.len : Int)) (k (.int .i64 280) S2)
  (ptrW (some ⟨b1, 0, none⟩) fun (b10 b11 : Nat) =>
  evV tI (loadV E0 S2 25 (.pointer (some ⟨b10, b11 + 6, none⟩))) fun (n4 : Int) =>
  ifW (!eqI n4 0)
  (ptrW (some ⟨b1, 0, none⟩) fun (b12 b13 : Nat) =>
  evV tS (loadV E0 S2 66 (.pointer (some ⟨b12, b13 + 7, none⟩))) fun (s2 : Sl) =>
  ifW (ltI 0 (↑s2.len : Int)) (k (.int .i64 280) S2)
  (ptrW (some ⟨b1, 0, none⟩) fun (b14 b15 : Nat) =>
  evV tS (loadV E0 S2 66 (.pointer (some ⟨b14, b15 + 7, none⟩))) fun (s3 : Sl) =>
  evC E0 tB 79 [.slice s3.a s3.len s3.cap, .func (Fn.func 78) #[] #[]] S2 fun (t1 : Bool) (S3 : St) =>
  ifW t1 (k (.int .i64 280) S3) (k (.int .i64 0) S3)))
  (ptrW (some ⟨b1, 0, none⟩) fun (b16 b17 : Nat) =>
  evV tS (loadV E0 S2 66 (.pointer (some ⟨b16, b17 + 7, none⟩))) fun (s4 : Sl) =>
  evC E0 tB 79 [.slice s4.a s4.len s4.cap, .func (Fn.func 78) #[] #[]] S2 fun (t2 : Bool) (S4 : St) =>
  ifW t2 (k (.int .i64 280) S4) (k (.int .i64 0) S4))))))
theorem w34 (x_0 : Int × Int × Int × Int × Int × Int × Int × Sl) {S : St} {k : Value → St → Prop} (h : c34 x_0 S k) : WC E0 34 [sv G67 x_0] S k :=
  WC_den h34 rfl (by kernel_rfl) (by kernel_rfl : Tryd.f34.body = some (bodyOf Tryd.f34)) (by rw [show (denF E0 h34 Tryd.f34 (bodyOf Tryd.f34) [sv G67 x_0] S k) = c34 x_0 S k by kernel_rfl]; exact h)

/-! 35 wagonway/wagonwayref28.Same -/
noncomputable def h35 : Hn := (.n .no (.n .no (.n (.n .no (.n (.n .no .no (some ⟨[2, 3], [(5, .sc (.int .i64))], false⟩)) .no none) none) .no none) none) none)
def c35 (a_0 : Int × Int × Int × Int × Int × Int × Int × Sl) (b_1 : Int × Int × Int × Int × Int × Int × Int × Sl) (S : St) (k : Value → St → Prop) : Prop :=
  newW S
  (.cells
  [.int .i64 a_0.1, .int .i64 a_0.2.1, .int .i64 a_0.2.2.1, .int .i64 a_0.2.2.2.1, .int .i64 a_0.2.2.2.2.1,
  .int .u64 a_0.2.2.2.2.2.1, .int .i64 a_0.2.2.2.2.2.2.1,
  .slice a_0.2.2.2.2.2.2.2.a a_0.2.2.2.2.2.2.2.len a_0.2.2.2.2.2.2.2.cap]
  none false none)
  fun (b1 : Nat) (S1 : St) =>
  newW S1
  (.cells
  [.int .i64 b_1.1, .int .i64 b_1.2.1, .int .i64 b_1.2.2.1, .int .i64 b_1.2.2.2.1, .int .i64 b_1.2.2.2.2.1,
  .int .u64 b_1.2.2.2.2.2.1, .int .i64 b_1.2.2.2.2.2.2.1,
  .slice b_1.2.2.2.2.2.2.2.a b_1.2.2.2.2.2.2.2.len b_1.2.2.2.2.2.2.2.cap]
  none false none)
  fun (b2 : Nat) (S2 : St) =>
  ptrW (some ⟨b1, 0, none⟩) fun (b3 b4 : Nat) =>
  evV (TT.one (Ty.agg G23)) (loadV E0 S2 24 (.pointer (some ⟨b3, b4 + 0, none⟩))) fun (x1 : Int × Int × Int × Int × Int × Int) =>
  ptrW (some ⟨b2, 0, none⟩) fun (b5 b6 : Nat) =>
  evV (TT.one (Ty.agg G23)) (loadV E0 S2 24 (.pointer (some ⟨b5, b6 + 0, none⟩))) fun (x2 : Int × Int × Int × Int × Int × Int) =>
  eqW E0 S2 24 (sv G23 x1) (sv G23 x2) fun (t1 : Bool) =>
  ifW (!t1) (k (.bool false) S2)
  (ptrW (some ⟨b1, 0, none⟩) fun (b7 b8 : Nat) =>
  evV tI (loadV E0 S2 25 (.pointer (some ⟨b7, b8 + 6, none⟩))) fun (n1 : Int) =>
  ptrW (some ⟨b2, 0, none⟩) fun (b9 b10 : Nat) =>
  evV tI (loadV E0 S2 25 (.pointer (some ⟨b9, b10 + 6, none⟩))) fun (n2 : Int) =>
  ifW (!eqI n1 n2) (k (.bool false) S2)
  (ptrW (some ⟨b1, 0, none⟩) fun (b11 b12 : Nat) =>
  evV tS (loadV E0 S2 66 (.pointer (some ⟨b11, b12 + 7, none⟩))) fun (s1 : Sl) =>
  ptrW (some ⟨b2, 0, none⟩) fun (b13 b14 : Nat) =>
  evV tS (loadV E0 S2 66 (.pointer (some ⟨b13, b14 + 7, none⟩))) fun (s2 : Sl) =>
  ifW (!eqI (↑s1.len : Int) (↑s2.len : Int)) (k (.bool false) S2)
  (loopW
  (fun (k1 : Int → St → Prop) (n3 : Int) (S3 : St) =>
  ptrW (some ⟨b1, 0, none⟩) fun (b15 b16 : Nat) =>
  evV tS (loadV E0 S3 66 (.pointer (some ⟨b15, b16 + 7, none⟩))) fun (s3 : Sl) =>
  ifW (ltI n3 (↑s3.len : Int))
  (ptrW (some ⟨b1, 0, none⟩) fun (b17 b18 : Nat) =>
  evV tS (loadV E0 S3 66 (.pointer (some ⟨b17, b18 + 7, none⟩))) fun (s4 : Sl) =>
  idxW s4.a s4.len n3 fun (b19 b20 : Nat) =>
  evV (TT.one (Ty.agg G58)) (loadV E0 S3 127 (.pointer (some ⟨b19, b20 + Int.toNat n3 * 3, none⟩))) fun (x3 : Int × Int × Int) =>
  ptrW (some ⟨b2, 0, none⟩) fun (b21 b22 : Nat) =>
  evV tS (loadV E0 S3 66 (.pointer (some ⟨b21, b22 + 7, none⟩))) fun (s5 : Sl) =>
  idxW s5.a s5.len n3 fun (b23 b24 : Nat) =>
  evV (TT.one (Ty.agg G58)) (loadV E0 S3 127 (.pointer (some ⟨b23, b24 + Int.toNat n3 * 3, none⟩))) fun (x4 : Int × Int × Int) =>
  eqW E0 S3 127 (sv G58 x3) (sv G58 x4) fun (t2 : Bool) => ifW (!t2) (k (.bool false) S3) (k1 (wrapI .i64 (n3 + 1)) S3))
  (k (.bool true) S3))
  0 S2)))
theorem w35 (a_0 : Int × Int × Int × Int × Int × Int × Int × Sl) (b_1 : Int × Int × Int × Int × Int × Int × Int × Sl) {S : St} {k : Value → St → Prop} (h : c35 a_0 b_1 S k) : WC E0 35 [sv G67 a_0, sv G67 b_1] S k :=
  WC_den h35 rfl (by kernel_rfl) (by kernel_rfl : Tryd.f35.body = some (bodyOf Tryd.f35)) (by rw [show (denF E0 h35 Tryd.f35 (bodyOf Tryd.f35) [sv G67 a_0, sv G67 b_1] S k) = c35 a_0 b_1 S k by kernel_rfl]; exact h)

/-! 36 wagonway/diary.Same -/
noncomputable def h36 : Hn := .no
def c36 (a_0 : Int × Int × Int × Int × Int × Int × Int × Sl) (b_1 : Int × Int × Int × Int × Int × Int × Int × Sl) (S : St) (k : Value → St → Prop) : Prop :=
  newW S
  (.cells
  [.int .i64 a_0.1, .int .i64 a_0.2.1, .int .i64 a_0.2.2.1, .int .i64 a_0.2.2.2.1, .int .i64 a_0.2.2.2.2.1,
  .int .u64 a_0.2.2.2.2.2.1, .int .i64 a_0.2.2.2.2.2.2.1,
  .slice a_0.2.2.2.2.2.2.2.a a_0.2.2.2.2.2.2.2.len a_0.2.2.2.2.2.2.2.cap]
  none false none)
  fun (b1 : Nat) (S1 : St) =>
  newW S1
  (.cells
  [.int .i64 b_1.1, .int .i64 b_1.2.1, .int .i64 b_1.2.2.1, .int .i64 b_1.2.2.2.1, .int .i64 b_1.2.2.2.2.1,
  .int .u64 b_1.2.2.2.2.2.1, .int .i64 b_1.2.2.2.2.2.2.1,
  .slice b_1.2.2.2.2.2.2.2.a b_1.2.2.2.2.2.2.2.len b_1.2.2.2.2.2.2.2.cap]
  none false none)
  fun (b2 : Nat) (S2 : St) =>
  ptrW (some ⟨b1, 0, none⟩) fun (b3 b4 : Nat) =>
  evV (TT.one (Ty.agg G23)) (loadV E0 S2 24 (.pointer (some ⟨b3, b4 + 0, none⟩))) fun (x1 : Int × Int × Int × Int × Int × Int) =>
  ptrW (some ⟨b2, 0, none⟩) fun (b5 b6 : Nat) =>
  evV (TT.one (Ty.agg G23)) (loadV E0 S2 24 (.pointer (some ⟨b5, b6 + 0, none⟩))) fun (x2 : Int × Int × Int × Int × Int × Int) =>
  eqW E0 S2 24 (sv G23 x1) (sv G23 x2) fun (t1 : Bool) =>
  ifW t1
  (ptrW (some ⟨b1, 0, none⟩) fun (b7 b8 : Nat) =>
  evV tI (loadV E0 S2 25 (.pointer (some ⟨b7, b8 + 6, none⟩))) fun (n1 : Int) =>
  ptrW (some ⟨b2, 0, none⟩) fun (b9 b10 : Nat) =>
  evV tI (loadV E0 S2 25 (.pointer (some ⟨b9, b10 + 6, none⟩))) fun (n2 : Int) =>
  ifW (eqI n1 n2)
  (ptrW (some ⟨b1, 0, none⟩) fun (b11 b12 : Nat) =>
  evV tS (loadV E0 S2 66 (.pointer (some ⟨b11, b12 + 7, none⟩))) fun (s1 : Sl) =>
  ptrW (some ⟨b2, 0, none⟩) fun (b13 b14 : Nat) =>
  evV tS (loadV E0 S2 66 (.pointer (some ⟨b13, b14 + 7, none⟩))) fun (s2 : Sl) =>
  evC E0 tB 80 [.slice s1.a s1.len s1.cap, .slice s2.a s2.len s2.cap] S2 fun (t2 : Bool) (S3 : St) => k (.bool t2) S3)
  (k (.bool false) S2))
  (k (.bool false) S2)
theorem w36 (a_0 : Int × Int × Int × Int × Int × Int × Int × Sl) (b_1 : Int × Int × Int × Int × Int × Int × Int × Sl) {S : St} {k : Value → St → Prop} (h : c36 a_0 b_1 S k) : WC E0 36 [sv G67 a_0, sv G67 b_1] S k :=
  WC_den h36 rfl (by kernel_rfl) (by kernel_rfl : Tryd.f36.body = some (bodyOf Tryd.f36)) (by rw [show (denF E0 h36 Tryd.f36 (bodyOf Tryd.f36) [sv G67 a_0, sv G67 b_1] S k) = c36 a_0 b_1 S k by kernel_rfl]; exact h)

/-! 69 wagonway/wagonwayref28.May -/
noncomputable def h69 : Hn := (.n .no (.n .no (.n .no (.n (.n .no (.n (.n .no .no (some ⟨[1], [(4, .sc (.int .i64))], false⟩)) .no none) none) .no none) none) none) none)
def c69 (x_0 : Int × Int × Int × Int × Int × Int × Int × Sl) (S : St) (k : Value → St → Prop) : Prop :=
  newW S
  (.cells
  [.int .i64 x_0.1, .int .i64 x_0.2.1, .int .i64 x_0.2.2.1, .int .i64 x_0.2.2.2.1, .int .i64 x_0.2.2.2.2.1,
  .int .u64 x_0.2.2.2.2.2.1, .int .i64 x_0.2.2.2.2.2.2.1,
  .slice x_0.2.2.2.2.2.2.2.a x_0.2.2.2.2.2.2.2.len x_0.2.2.2.2.2.2.2.cap]
  none false none)
  fun (b1 : Nat) (S1 : St) =>
  ptrW (some ⟨b1, 0, none⟩) fun (b2 b3 : Nat) =>
  evV (TT.one (Ty.agg G23)) (loadV E0 S1 24 (.pointer (some ⟨b2, b3 + 0, none⟩))) fun (x1 : Int × Int × Int × Int × Int × Int) =>
  evC E0 tB 43 [sv G23 x1] S1 fun (t1 : Bool) (S2 : St) =>
  ifW (!t1) (k (.bool false) S2)
  (ptrW (some ⟨b1, 0, none⟩) fun (b4 b5 : Nat) =>
  evV tI (loadV E0 S2 25 (.pointer (some ⟨b4, b5 + 6, none⟩))) fun (n1 : Int) =>
  ifW (ltI n1 0) (k (.bool false) S2)
  (ptrW (some ⟨b1, 0, none⟩) fun (b6 b7 : Nat) =>
  evV tI (loadV E0 S2 25 (.pointer (some ⟨b6, b7 + 6, none⟩))) fun (n2 : Int) =>
  ifW (ltI 999 n2) (k (.bool false) S2)
  (ptrW (some ⟨b1, 0, none⟩) fun (b8 b9 : Nat) =>
  evV tS (loadV E0 S2 66 (.pointer (some ⟨b8, b9 + 7, none⟩))) fun (s1 : Sl) =>
  ifW (ltI 1000 (↑s1.len : Int)) (k (.bool false) S2)
  (ptrW (some ⟨b1, 0, none⟩) fun (b10 b11 : Nat) =>
  evV tI (loadV E0 S2 25 (.pointer (some ⟨b10, b11 + 6, none⟩))) fun (n3 : Int) =>
  ifW (ltI 0 n3)
  (ptrW (some ⟨b1, 0, none⟩) fun (b12 b13 : Nat) =>
  evV tS (loadV E0 S2 66 (.pointer (some ⟨b12, b13 + 7, none⟩))) fun (s2 : Sl) =>
  ifW (ltI 0 (↑s2.len : Int)) (k (.bool false) S2)
  (loopW
  (fun (k1 : Int → St → Prop) (n4 : Int) (S3 : St) =>
  ptrW (some ⟨b1, 0, none⟩) fun (b14 b15 : Nat) =>
  evV tS (loadV E0 S3 66 (.pointer (some ⟨b14, b15 + 7, none⟩))) fun (s3 : Sl) =>
  ifW (ltI n4 (↑s3.len : Int))
  (ptrW (some ⟨b1, 0, none⟩) fun (b16 b17 : Nat) =>
  evV tS (loadV E0 S3 66 (.pointer (some ⟨b16, b17 + 7, none⟩))) fun (s4 : Sl) =>
  idxW s4.a s4.len n4 fun (b18 b19 : Nat) =>
  evV (TT.one (Ty.agg G58)) (loadV E0 S3 127 (.pointer (some ⟨b18, b19 + Int.toNat n4 * 3, none⟩))) fun (x2 : Int × Int × Int) =>
  newW S3 (.cells [.int .i64 0, .int .i64 0, .int .i64 0] none false none) fun (b20 : Nat) (S4 : St) =>
  evS (storeV E0 S4 127 (.pointer (some ⟨b20, 0, none⟩)) (sv G58 x2)) fun (S5 : St) =>
  ptrW (some ⟨b20, 0, none⟩) fun (b21 b22 : Nat) =>
  evV tI (loadV E0 S5 3 (.pointer (some ⟨b21, b22 + 0, none⟩))) fun (n5 : Int) =>
  ifW (ltI n5 1) (k (.bool false) S5)
  (ptrW (some ⟨b20, 0, none⟩) fun (b23 b24 : Nat) =>
  evV tI (loadV E0 S5 3 (.pointer (some ⟨b23, b24 + 0, none⟩))) fun (n6 : Int) =>
  ifW (ltI 3 n6) (k (.bool false) S5)
  (ptrW (some ⟨b20, 0, none⟩) fun (b25 b26 : Nat) =>
  evV tI (loadV E0 S5 3 (.pointer (some ⟨b25, b26 + 1, none⟩))) fun (n7 : Int) =>
  ifW (ltI n7 0) (k (.bool false) S5)
  (ptrW (some ⟨b20, 0, none⟩) fun (b27 b28 : Nat) =>
  evV tI (loadV E0 S5 3 (.pointer (some ⟨b27, b28 + 1, none⟩))) fun (n8 : Int) =>
  ifW (ltI 63 n8) (k (.bool false) S5)
  (ptrW (some ⟨b20, 0, none⟩) fun (b29 b30 : Nat) =>
  evV tI (loadV E0 S5 3 (.pointer (some ⟨b29, b30 + 2, none⟩))) fun (n9 : Int) =>
  ifW (ltI n9 0) (k (.bool false) S5)
  (ptrW (some ⟨b20, 0, none⟩) fun (b31 b32 : Nat) =>
  evV tI (loadV E0 S5 3 (.pointer (some ⟨b31, b32 + 2, none⟩))) fun (n10 : Int) =>
  ifW (ltI 1023 n10) (k (.bool false) S5) (k1 (wrapI .i64 (n4 + 1)) S5)))))))
  (k (.bool true) S3))
  0 S2))
  (loopW
  (fun (k2 : Int → St → Prop) (n11 : Int) (S6 : St) =>
  ptrW (some ⟨b1, 0, none⟩) fun (b33 b34 : Nat) =>
  evV tS (loadV E0 S6 66 (.pointer (some ⟨b33, b34 + 7, none⟩))) fun (s5 : Sl) =>
  ifW (ltI n11 (↑s5.len : Int))
  (ptrW (some ⟨b1, 0, none⟩) fun (b35 b36 : Nat) =>
  evV tS (loadV E0 S6 66 (.pointer (some ⟨b35, b36 + 7, none⟩))) fun (s6 : Sl) =>
  idxW s6.a s6.len n11 fun (b37 b38 : Nat) =>
  evV (TT.one (Ty.agg G58)) (loadV E0 S6 127 (.pointer (some ⟨b37, b38 + Int.toNat n11 * 3, none⟩))) fun (x3 : Int × Int × Int) =>
  newW S6 (.cells [.int .i64 0, .int .i64 0, .int .i64 0] none false none) fun (b39 : Nat) (S7 : St) =>
  evS (storeV E0 S7 127 (.pointer (some ⟨b39, 0, none⟩)) (sv G58 x3)) fun (S8 : St) =>
  ptrW (some ⟨b39, 0, none⟩) fun (b40 b41 : Nat) =>
  evV tI (loadV E0 S8 3 (.pointer (some ⟨b40, b41 + 0, none⟩))) fun (n12 : Int) =>
  ifW (ltI n12 1) (k (.bool false) S8)
  (ptrW (some ⟨b39, 0, none⟩) fun (b42 b43 : Nat) =>
  evV tI (loadV E0 S8 3 (.pointer (some ⟨b42, b43 + 0, none⟩))) fun (n13 : Int) =>
  ifW (ltI 3 n13) (k (.bool false) S8)
  (ptrW (some ⟨b39, 0, none⟩) fun (b44 b45 : Nat) =>
  evV tI (loadV E0 S8 3 (.pointer (some ⟨b44, b45 + 1, none⟩))) fun (n14 : Int) =>
  ifW (ltI n14 0) (k (.bool false) S8)
  (ptrW (some ⟨b39, 0, none⟩) fun (b46 b47 : Nat) =>
  evV tI (loadV E0 S8 3 (.pointer (some ⟨b46, b47 + 1, none⟩))) fun (n15 : Int) =>
  ifW (ltI 63 n15) (k (.bool false) S8)
  (ptrW (some ⟨b39, 0, none⟩) fun (b48 b49 : Nat) =>
  evV tI (loadV E0 S8 3 (.pointer (some ⟨b48, b49 + 2, none⟩))) fun (n16 : Int) =>
  ifW (ltI n16 0) (k (.bool false) S8)
  (ptrW (some ⟨b39, 0, none⟩) fun (b50 b51 : Nat) =>
  evV tI (loadV E0 S8 3 (.pointer (some ⟨b50, b51 + 2, none⟩))) fun (n17 : Int) =>
  ifW (ltI 1023 n17) (k (.bool false) S8) (k2 (wrapI .i64 (n11 + 1)) S8)))))))
  (k (.bool true) S6))
  0 S2)))))
theorem w69 (x_0 : Int × Int × Int × Int × Int × Int × Int × Sl) {S : St} {k : Value → St → Prop} (h : c69 x_0 S k) : WC E0 69 [sv G67 x_0] S k :=
  WC_den h69 rfl (by kernel_rfl) (by kernel_rfl : Tryd.f69.body = some (bodyOf Tryd.f69)) (by rw [show (denF E0 h69 Tryd.f69 (bodyOf Tryd.f69) [sv G67 x_0] S k) = c69 x_0 S k by kernel_rfl]; exact h)

/-! 70 wagonway/wagonwayref28.digits -/
noncomputable def h70 : Hn := (.n .no (.n .no (.n (.n (.n .no .no (some ⟨[], [(0, .sc (.int .i64)), (3, .sc .str)], false⟩)) .no none) .no none) none) none)
def c70 (n_0 : Int) (S : St) (k : Value → St → Prop) : Prop :=
  needW true
  (newW S (.cells [.int .u8 (wrapI .u8 (wrapI .i64 (48 + Int.tmod n_0 10)))] none false none) fun (b1 : Nat) (S1 : St) =>
  evP tT (convertD E0 S1 83 9 (.slice (some ⟨b1, 0, none⟩) 1 1)) fun (l1 : List UInt8) (S2 : St) =>
  loopW
  (fun (k1 : Int × List UInt8 → St → Prop) (x1 : Int × List UInt8) (S3 : St) =>
  ifW (ltI 9 x1.1)
  (needW true
  (needW true
  (newW S3 (.cells [.int .u8 (wrapI .u8 (wrapI .i64 (48 + Int.tmod (wrapI .i64 (Int.tdiv x1.1 10)) 10)))] none false none) fun (b2 : Nat) (S4 : St) =>
  evP tT (convertD E0 S4 83 9 (.slice (some ⟨b2, 0, none⟩) 1 1)) fun (l2 : List UInt8) (S5 : St) =>
  evV tT (catD { data := List.toArray l2 } { data := List.toArray x1.2 }) fun (l3 : List UInt8) => k1 (wrapI .i64 (Int.tdiv x1.1 10), l3) S5)))
  (k (.string { data := List.toArray x1.2 }) S3))
  (n_0, l1) S2)
theorem w70 (n_0 : Int) {S : St} {k : Value → St → Prop} (h : c70 n_0 S k) : WC E0 70 [.int .i64 n_0] S k :=
  WC_den h70 rfl (by kernel_rfl) (by kernel_rfl : Tryd.f70.body = some (bodyOf Tryd.f70)) (by rw [show (denF E0 h70 Tryd.f70 (bodyOf Tryd.f70) [.int .i64 n_0] S k) = c70 n_0 S k by kernel_rfl]; exact h)

/-! 71 wagonway/wagonwayref28.word -/
noncomputable def h71 : Hn := .no
def c71 (kind_0 : Int) (S : St) (k : Value → St → Prop) : Prop :=
  ifW (ltI kind_0 1) (k (.string { data := #[] }) S)
  (ifW (ltI 3 kind_0) (k (.string { data := #[] }) S)
  (newW S
  (.cells
  [.string { data := #[] }, .string { data := #[UInt8.ofNat 103, UInt8.ofNat 114, UInt8.ofNat 97, UInt8.ofNat 110, UInt8.ofNat 116] },
  .string { data := #[UInt8.ofNat 114, UInt8.ofNat 101, UInt8.ofNat 108, UInt8.ofNat 101, UInt8.ofNat 97, UInt8.ofNat 115, UInt8.ofNat 101] },
  .string { data := #[UInt8.ofNat 109, UInt8.ofNat 111, UInt8.ofNat 118, UInt8.ofNat 101] }]
  none false none)
  fun (b1 : Nat) (S1 : St) =>
  idxW (some ⟨b1, 0, none⟩) 4 kind_0 fun (b2 b3 : Nat) =>
  evV tT (loadV E0 S1 9 (.pointer (some ⟨b2, b3 + Int.toNat kind_0 * 1, none⟩))) fun (l1 : List UInt8) => k (.string { data := List.toArray l1 }) S1))
theorem w71 (kind_0 : Int) {S : St} {k : Value → St → Prop} (h : c71 kind_0 S k) : WC E0 71 [.int .i64 kind_0] S k :=
  WC_den h71 rfl (by kernel_rfl) (by kernel_rfl : Tryd.f71.body = some (bodyOf Tryd.f71)) (by rw [show (denF E0 h71 Tryd.f71 (bodyOf Tryd.f71) [.int .i64 kind_0] S k) = c71 kind_0 S k by kernel_rfl]; exact h)

/-! 73 wagonway/diary.number -/
noncomputable def h73 : Hn := .no
def c73 (s_0 : List UInt8) (S : St) (k : Value → St → Prop) : Prop :=
  evC E0 (TT.tup [Ty.sc (Sc.int .i64), Ty.sc Sc.any]) 47 [.string { data := List.toArray s_0 }] S fun (x1 : Int × Value) (S1 : St) =>
    match x1.2, Value.nilIface with
    | Value.int x2 n1, Value.int x3 n2 =>
      Bool.rec False (ifW (!eqI n1 n2) (k (.int .i64 (-1)) S1) (k (.int .i64 x1.1) S1))
        (match x2, x3 with
        | .i8, .i8 => true
        | .i16, .i16 => true
        | .i32, .i32 => true
        | .i64, .i64 => true
        | .u8, .u8 => true
        | .u16, .u16 => true
        | .u32, .u32 => true
        | .u64, .u64 => true
        | x14, x15 => false)
    | .string x16, .string x17 => ifW (!x16.data.toList == x17.data.toList) (k (.int .i64 (-1)) S1) (k (.int .i64 x1.1) S1)
    | v3, v4 =>
      needB
        (match v3, v4 with
        | Value.nilIface, Value.nilIface => true
        | .agg x19, .agg x20 => false
        | v7, v8 => true)
        (eqW E0 S1 96 v3 v4 fun (t2 : Bool) => ifW (!t2) (k (.int .i64 (-1)) S1) (k (.int .i64 x1.1) S1))
theorem w73 (s_0 : List UInt8) {S : St} {k : Value → St → Prop} (h : c73 s_0 S k) : WC E0 73 [.string ⟨s_0.toArray⟩] S k :=
  WC_den h73 rfl (by kernel_rfl) (by kernel_rfl : Tryd.f73.body = some (bodyOf Tryd.f73)) (by rw [show (denF E0 h73 Tryd.f73 (bodyOf Tryd.f73) [.string ⟨s_0.toArray⟩] S k) = c73 s_0 S k by kernel_rfl]; exact h)

/-! 74 wagonway/diary.steps -/
noncomputable def h74 : Hn := .no
def c74 (l_0 : Sl) (S : St) (k : Value → St → Prop) : Prop :=
  newW S (.cells [.slice l_0.a l_0.len l_0.cap] none false none) fun (b1 : Nat) (S1 : St) => k (.func (Fn.func 113) #[] #[.pointer (some ⟨b1, 0, none⟩)]) S1
theorem w74 (l_0 : Sl) {S : St} {k : Value → St → Prop} (h : c74 l_0 S k) : WC E0 74 [.slice l_0.a l_0.len l_0.cap] S k :=
  WC_den h74 rfl (by kernel_rfl) (by kernel_rfl : Tryd.f74.body = some (bodyOf Tryd.f74)) (by rw [show (denF E0 h74 Tryd.f74 (bodyOf Tryd.f74) [.slice l_0.a l_0.len l_0.cap] S k) = c74 l_0 S k by kernel_rfl]; exact h)

/-! 75 wagonway/diary.may -/
noncomputable def h75 : Hn := .no
def c75 (x_0 : Int × Int × Int) (S : St) (k : Value → St → Prop) : Prop :=
  newW S (.cells [.int .i64 x_0.1, .int .i64 x_0.2.1, .int .i64 x_0.2.2] none false none) fun (b1 : Nat) (S1 : St) =>
  ptrW (some ⟨b1, 0, none⟩) fun (b2 b3 : Nat) =>
  evV tI (loadV E0 S1 3 (.pointer (some ⟨b2, b3 + 0, none⟩))) fun (n1 : Int) =>
  ifW (leI 1 n1)
  (ptrW (some ⟨b1, 0, none⟩) fun (b4 b5 : Nat) =>
  evV tI (loadV E0 S1 3 (.pointer (some ⟨b4, b5 + 0, none⟩))) fun (n2 : Int) =>
  ifW (leI n2 3)
  (ptrW (some ⟨b1, 0, none⟩) fun (b6 b7 : Nat) =>
  evV tI (loadV E0 S1 3 (.pointer (some ⟨b6, b7 + 1, none⟩))) fun (n3 : Int) =>
  ifW (leI 0 n3)
  (ptrW (some ⟨b1, 0, none⟩) fun (b8 b9 : Nat) =>
  evV tI (loadV E0 S1 3 (.pointer (some ⟨b8, b9 + 1, none⟩))) fun (n4 : Int) =>
  ifW (ltI n4 64)
  (ptrW (some ⟨b1, 0, none⟩) fun (b10 b11 : Nat) =>
  evV tI (loadV E0 S1 3 (.pointer (some ⟨b10, b11 + 2, none⟩))) fun (n5 : Int) =>
  ifW (leI 0 n5)
  (ptrW (some ⟨b1, 0, none⟩) fun (b12 b13 : Nat) =>
  evV tI (loadV E0 S1 3 (.pointer (some ⟨b12, b13 + 2, none⟩))) fun (n6 : Int) => k (.bool (ltI n6 1024)) S1)
  (k (.bool false) S1))
  (k (.bool false) S1))
  (k (.bool false) S1))
  (k (.bool false) S1))
  (k (.bool false) S1)
theorem w75 (x_0 : Int × Int × Int) {S : St} {k : Value → St → Prop} (h : c75 x_0 S k) : WC E0 75 [sv G58 x_0] S k :=
  WC_den h75 rfl (by kernel_rfl) (by kernel_rfl : Tryd.f75.body = some (bodyOf Tryd.f75)) (by rw [show (denF E0 h75 Tryd.f75 (bodyOf Tryd.f75) [sv G58 x_0] S k) = c75 x_0 S k by kernel_rfl]; exact h)

/-! 76 wagonway/wagonwayref28.parts -/
noncomputable def h76 : Hn := (.n .no (.n .no (.n (.n .no (.n (.n .no .no (some ⟨[0, 1], [(5, .sc .sl), (6, .sc (.int .i64))], false⟩)) .no none) none) .no none) none) none)
def c76 (s_0 : List UInt8) (by_1 : Int) (S : St) (k : Value → St → Prop) : Prop :=
  newW S (.cells [.string { data := #[] }] none false none) fun (b1 : Nat) (S1 : St) =>
  loopW
  (fun (k1 : Sl × Int → St → Prop) (x1 : Sl × Int) (S2 : St) =>
  ifW (ltI x1.2 (↑(List.length s_0) : Int))
  (evV tU8 (indexD E0 9 (.string { data := List.toArray s_0 }) (.int .i64 x1.2)) fun (n1 : Int) =>
  ifW (eqI n1 by_1)
  (newW S2 (.cells [.string { data := #[] }] none false none) fun (b2 : Nat) (S3 : St) =>
  evP tS (appendD E0 S3 80 80 (.slice x1.1.a x1.1.len x1.1.cap) (.slice (some ⟨b2, 0, none⟩) 1 1)) fun (s1 : Sl) (S4 : St) =>
  k1 ({ a := s1.a, len := s1.len, cap := s1.cap }, wrapI .i64 (x1.2 + 1)) S4)
  (idxW x1.1.a x1.1.len (wrapI .i64 ((↑x1.1.len : Int) - 1)) fun (b3 b4 : Nat) =>
  evV tT (loadV E0 S2 9 (.pointer (some ⟨b3, b4 + Int.toNat (wrapI .i64 ((↑x1.1.len : Int) - 1)) * 1, none⟩))) fun (l1 : List UInt8) =>
  evV tT (sliceD E0 S2 9 (.string { data := List.toArray s_0 }) (some (.int .i64 x1.2)) (some (.int .i64 (wrapI .i64 (x1.2 + 1)))) none) fun (l2 : List UInt8) =>
  evV tT (catD { data := List.toArray l1 } { data := List.toArray l2 }) fun (l3 : List UInt8) =>
  idxW x1.1.a x1.1.len (wrapI .i64 ((↑x1.1.len : Int) - 1)) fun (b5 b6 : Nat) =>
  evS (storeV E0 S2 9 (.pointer (some ⟨b5, b6 + Int.toNat (wrapI .i64 ((↑x1.1.len : Int) - 1)) * 1, none⟩)) (.string { data := List.toArray l3 })) fun (S5 : St) =>
  k1 ({ a := x1.1.a, len := x1.1.len, cap := x1.1.cap }, wrapI .i64 (x1.2 + 1)) S5))
  (k (.slice x1.1.a x1.1.len x1.1.cap) S2))
  ({ a := some ⟨b1, 0, none⟩, len := 1, cap := 1 }, 0) S1
theorem w76 (s_0 : List UInt8) (by_1 : Int) {S : St} {k : Value → St → Prop} (h : c76 s_0 by_1 S k) : WC E0 76 [.string ⟨s_0.toArray⟩, .int .u8 by_1] S k :=
  WC_den h76 rfl (by kernel_rfl) (by kernel_rfl : Tryd.f76.body = some (bodyOf Tryd.f76)) (by rw [show (denF E0 h76 Tryd.f76 (bodyOf Tryd.f76) [.string ⟨s_0.toArray⟩, .int .u8 by_1] S k) = c76 s_0 by_1 S k by kernel_rfl]; exact h)

/-! 77 wagonway/wagonwayref28.value -/
noncomputable def h77 : Hn := (.n .no (.n .no (.n .no (.n (.n .no (.n (.n .no .no (some ⟨[0], [(3, .sc (.int .i64)), (4, .sc (.int .i64))], false⟩)) .no none) none) .no none) none) none) none)
def c77 (s_0 : List UInt8) (S : St) (k : Value → St → Prop) : Prop :=
  ifW (eqI (↑(List.length s_0) : Int) 0) (k (.int .i64 (-1)) S)
  (loopW
  (fun (k1 : Int × Int → St → Prop) (x1 : Int × Int) (S1 : St) =>
  ifW (ltI x1.2 (↑(List.length s_0) : Int))
  (evV tU8 (indexD E0 9 (.string { data := List.toArray s_0 }) (.int .i64 x1.2)) fun (n1 : Int) =>
  ifW (ltI n1 48) (k (.int .i64 (-1)) S1)
  (evV tU8 (indexD E0 9 (.string { data := List.toArray s_0 }) (.int .i64 x1.2)) fun (n2 : Int) =>
  ifW (ltI 57 n2) (k (.int .i64 (-1)) S1)
  (ifW (ltI 1000000 x1.1) (k (.int .i64 (-1)) S1)
  (evV tU8 (indexD E0 9 (.string { data := List.toArray s_0 }) (.int .i64 x1.2)) fun (n3 : Int) =>
  k1 (wrapI .i64 (wrapI .i64 (10 * x1.1) + wrapI .i64 (wrapI .u8 (n3 - 48))), wrapI .i64 (x1.2 + 1)) S1))))
  (k (.int .i64 x1.1) S1))
  (0, 0) S)
theorem w77 (s_0 : List UInt8) {S : St} {k : Value → St → Prop} (h : c77 s_0 S k) : WC E0 77 [.string ⟨s_0.toArray⟩] S k :=
  WC_den h77 rfl (by kernel_rfl) (by kernel_rfl : Tryd.f77.body = some (bodyOf Tryd.f77)) (by rw [show (denF E0 h77 Tryd.f77 (bodyOf Tryd.f77) [.string ⟨s_0.toArray⟩] S k) = c77 s_0 S k by kernel_rfl]; exact h)

/-! 78 wagonway/diary.Check$1 -/
noncomputable def h78 : Hn := .no
def c78 (y_0 : Int × Int × Int) (S : St) (k : Value → St → Prop) : Prop :=
  newW S (.cells [.int .i64 y_0.1, .int .i64 y_0.2.1, .int .i64 y_0.2.2] none false none) fun (b1 : Nat) (S1 : St) =>
  evV (TT.one (Ty.agg G58)) (loadV E0 S1 127 (.pointer (some ⟨b1, 0, none⟩))) fun (x1 : Int × Int × Int) => evC E0 tB 75 [sv G58 x1] S1 fun (t1 : Bool) (S2 : St) => k (.bool !t1) S2
theorem w78 (y_0 : Int × Int × Int) {S : St} {k : Value → St → Prop} (h : c78 y_0 S k) : WC E0 78 [sv G58 y_0] S k :=
  WC_den h78 rfl (by kernel_rfl) (by kernel_rfl : Tryd.f78.body = some (bodyOf Tryd.f78)) (by rw [show (denF E0 h78 Tryd.f78 (bodyOf Tryd.f78) [sv G58 y_0] S k) = c78 y_0 S k by kernel_rfl]; exact h)

/-! 79 slices.ContainsFunc[[]wagonway/api.Step,wagonway/api.Step] -/
noncomputable def h79 : Hn := .no
def c79 (s_0 : Sl) (f_1 : Value) (S : St) (k : Value → St → Prop) : Prop :=
  evC E0 tI 115 [.slice s_0.a s_0.len s_0.cap, f_1] S fun (n1 : Int) (S1 : St) => k (.bool (leI 0 n1)) S1
theorem w79 (s_0 : Sl) (f_1 : Value) {S : St} {k : Value → St → Prop} (h : c79 s_0 f_1 S k) : WC E0 79 [.slice s_0.a s_0.len s_0.cap, f_1] S k :=
  WC_den h79 rfl (by kernel_rfl) (by kernel_rfl : Tryd.f79.body = some (bodyOf Tryd.f79)) (by rw [show (denF E0 h79 Tryd.f79 (bodyOf Tryd.f79) [.slice s_0.a s_0.len s_0.cap, f_1] S k) = c79 s_0 f_1 S k by kernel_rfl]; exact h)

/-! 80 slices.Equal[[]wagonway/api.Step,wagonway/api.Step] -/
noncomputable def h80 : Hn := (.n .no (.n .no (.n (.n .no (.n (.n .no .no (some ⟨[0, 1, 12], [(13, .sc (.int .i64))], false⟩)) .no none) none) .no none) none) none)
def c80 (s1_0 : Sl) (s2_1 : Sl) (S : St) (k : Value → St → Prop) : Prop :=
  ifW (!eqI (↑s1_0.len : Int) (↑s2_1.len : Int)) (k (.bool false) S)
  (loopW
  (fun (k1 : Int → St → Prop) (n1 : Int) (S1 : St) =>
  ifW (ltI n1 (↑s1_0.len : Int))
  (idxW s1_0.a s1_0.len n1 fun (b1 b2 : Nat) =>
  evV (TT.one (Ty.agg G58)) (loadV E0 S1 127 (.pointer (some ⟨b1, b2 + Int.toNat n1 * 3, none⟩))) fun (x1 : Int × Int × Int) =>
  idxW s2_1.a s2_1.len n1 fun (b3 b4 : Nat) =>
  evV (TT.one (Ty.agg G58)) (loadV E0 S1 127 (.pointer (some ⟨b3, b4 + Int.toNat n1 * 3, none⟩))) fun (x2 : Int × Int × Int) =>
  eqW E0 S1 127 (sv G58 x1) (sv G58 x2) fun (t1 : Bool) => ifW (!t1) (k (.bool false) S1) (k1 (wrapI .i64 (n1 + 1)) S1))
  (k (.bool true) S1))
  0 S)
theorem w80 (s1_0 : Sl) (s2_1 : Sl) {S : St} {k : Value → St → Prop} (h : c80 s1_0 s2_1 S k) : WC E0 80 [.slice s1_0.a s1_0.len s1_0.cap, .slice s2_1.a s2_1.len s2_1.cap] S k :=
  WC_den h80 rfl (by kernel_rfl) (by kernel_rfl : Tryd.f80.body = some (bodyOf Tryd.f80)) (by rw [show (denF E0 h80 Tryd.f80 (bodyOf Tryd.f80) [.slice s1_0.a s1_0.len s1_0.cap, .slice s2_1.a s2_1.len s2_1.cap] S k) = c80 s1_0 s2_1 S k by kernel_rfl]; exact h)

/-! 113 wagonway/diary.steps$1 -/
noncomputable def h113 : Hn := (.n .no (.n (.n .no .no (some ⟨[0, 5, 6], [(7, .sc (.int .i64))], false⟩)) .no none) none)
def c113 (yield_0 : Value) (c1 : Nat) (S : St) (k : Value → St → Prop) : Prop :=
  evV tS (loadV E0 S 80 (.pointer (some ⟨c1, 0, none⟩))) fun (s1 : Sl) =>
  loopW
  (fun (k1 : Int → St → Prop) (n1 : Int) (S1 : St) =>
  ifW (ltI n1 (↑s1.len : Int))
  (idxW s1.a s1.len n1 fun (b1 b2 : Nat) =>
  evV tT (loadV E0 S1 9 (.pointer (some ⟨b1, b2 + Int.toNat n1 * 1, none⟩))) fun (l1 : List UInt8) =>
  evC E0 (TT.one (Ty.agg G58)) 114 [.string { data := List.toArray l1 }] S1 fun (x1 : Int × Int × Int) (S2 : St) =>
  evY E0 tB yield_0 [sv G58 x1] S2 fun (t1 : Bool) (S3 : St) => ifW (!t1) (k (.tuple #[]) S3) (k1 (wrapI .i64 (n1 + 1)) S3))
  (k (.tuple #[]) S1))
  0 S
theorem w113 (yield_0 : Value) (c1 : Nat) {S : St} {k : Value → St → Prop} (h : c113 yield_0 c1 S k) : WC E0 113 [yield_0, .pointer (some ⟨c1, 0, none⟩)] S k :=
  WC_den h113 rfl (by kernel_rfl) (by kernel_rfl : Tryd.f113.body = some (bodyOf Tryd.f113)) (by rw [show (denF E0 h113 Tryd.f113 (bodyOf Tryd.f113) [yield_0, .pointer (some ⟨c1, 0, none⟩)] S k) = c113 yield_0 c1 S k by kernel_rfl]; exact h)

/-! 114 wagonway/diary.step -/
noncomputable def h114 : Hn := (.n .no (.n .no (.n .no (.n .no (.n (.n .no (.n (.n .no .no (some ⟨[2, 3, 9], [(28, .sc (.int .i64))], false⟩)) .no none) none) .no none) none) none) none) none)
def c114 (w_0 : List UInt8) (S : St) (k : Value → St → Prop) : Prop :=
  newW S (.cells [.int .i64 0, .int .i64 0, .int .i64 0] none false none) fun (b1 : Nat) (S1 : St) =>
  evC E0 (TT.tup [Ty.sc Sc.str, Ty.sc Sc.str, Ty.sc Sc.bool]) 72 [.string { data := List.toArray w_0 }, .string { data := #[UInt8.ofNat 58] }] S1 fun (x1 : List UInt8 × List UInt8 × Bool) (S2 : St) =>
  evC E0 (TT.tup [Ty.sc Sc.str, Ty.sc Sc.str, Ty.sc Sc.bool]) 72 [.string { data := List.toArray x1.2.1 }, .string { data := #[UInt8.ofNat 58] }] S2 fun (x2 : List UInt8 × List UInt8 × Bool) (S3 : St) =>
  evC E0 tI 73 [.string { data := List.toArray x2.1 }] S3 fun (n1 : Int) (S4 : St) =>
  evC E0 tI 73 [.string { data := List.toArray x2.2.1 }] S4 fun (n2 : Int) (S5 : St) =>
  newW S5 (.cells [.int .i64 0, .int .i64 0, .int .i64 0] none false none) fun (b2 : Nat) (S6 : St) =>
  evS (storeV E0 S6 127 (.pointer (some ⟨b2, 0, none⟩)) (.agg #[.int .i64 0, .int .i64 n1, .int .i64 n2])) fun (S7 : St) =>
  loopW
  (fun (k1 : Int → St → Prop) (n3 : Int) (S8 : St) =>
  ifW (ltI n3 4)
  (ifW (ltI 0 n3)
  (idxW (some ⟨2, 0, none⟩) 4 n3 fun (b3 b4 : Nat) =>
  evV tT (loadV E0 S8 9 (.pointer (some ⟨b3, b4 + Int.toNat n3 * 1, none⟩))) fun (l1 : List UInt8) =>
  ifW (l1 == x1.1)
  (ptrW (some ⟨b2, 0, none⟩) fun (b5 b6 : Nat) =>
  evS (storeV E0 S8 3 (.pointer (some ⟨b5, b6 + 0, none⟩)) (.int .i64 n3)) fun (S9 : St) => k1 (wrapI .i64 (n3 + 1)) S9)
  (k1 (wrapI .i64 (n3 + 1)) S8))
  (k1 (wrapI .i64 (n3 + 1)) S8))
  (evV (TT.one (Ty.agg G58)) (loadV E0 S8 127 (.pointer (some ⟨b2, 0, none⟩))) fun (x3 : Int × Int × Int) =>
  evS (storeV E0 S8 127 (.pointer (some ⟨b1, 0, none⟩)) (sv G58 x3)) fun (S10 : St) =>
  evV (TT.one (Ty.agg G58)) (loadV E0 S10 127 (.pointer (some ⟨b1, 0, none⟩))) fun (x4 : Int × Int × Int) => k (sv G58 x4) S10))
  0 S7
theorem w114 (w_0 : List UInt8) {S : St} {k : Value → St → Prop} (h : c114 w_0 S k) : WC E0 114 [.string ⟨w_0.toArray⟩] S k :=
  WC_den h114 rfl (by kernel_rfl) (by kernel_rfl : Tryd.f114.body = some (bodyOf Tryd.f114)) (by rw [show (denF E0 h114 Tryd.f114 (bodyOf Tryd.f114) [.string ⟨w_0.toArray⟩] S k) = c114 w_0 S k by kernel_rfl]; exact h)

/-! 115 slices.IndexFunc[[]wagonway/api.Step,wagonway/api.Step] -/
noncomputable def h115 : Hn := (.n .no (.n (.n .no (.n (.n .no .no (some ⟨[0, 1, 7], [(8, .sc (.int .i64))], false⟩)) .no none) none) .no none) none)
def c115 (s_0 : Sl) (f_1 : Value) (S : St) (k : Value → St → Prop) : Prop :=
  loopW
  (fun (k1 : Int → St → Prop) (n1 : Int) (S1 : St) =>
  ifW (ltI n1 (↑s_0.len : Int))
  (idxW s_0.a s_0.len n1 fun (b1 b2 : Nat) =>
  evV (TT.one (Ty.agg G58)) (loadV E0 S1 127 (.pointer (some ⟨b1, b2 + Int.toNat n1 * 3, none⟩))) fun (x1 : Int × Int × Int) =>
  evY E0 tB f_1 [sv G58 x1] S1 fun (t1 : Bool) (S2 : St) => ifW t1 (k (.int .i64 n1) S2) (k1 (wrapI .i64 (n1 + 1)) S2))
  (k (.int .i64 (-1)) S1))
  0 S
theorem w115 (s_0 : Sl) (f_1 : Value) {S : St} {k : Value → St → Prop} (h : c115 s_0 f_1 S k) : WC E0 115 [.slice s_0.a s_0.len s_0.cap, f_1] S k :=
  WC_den h115 rfl (by kernel_rfl) (by kernel_rfl : Tryd.f115.body = some (bodyOf Tryd.f115)) (by rw [show (denF E0 h115 Tryd.f115 (bodyOf Tryd.f115) [.slice s_0.a s_0.len s_0.cap, f_1] S k) = c115 s_0 f_1 S k by kernel_rfl]; exact h)

/-! 33 wagonway/wagonwayref28.Read -/
noncomputable def h33 : Hn := (.n .no (.n .no (.n .no (.n (.n .no (.n (.n .no .no (some ⟨[0, 2, 4], [(5, .sc (.int .i64)), (6, .sc (.int .i64))], false⟩)) .no none) none) (.n .no (.n .no (.n (.n .no (.n (.n .no .no (some ⟨[0, 2, 4, 5], [(7, .sc .str), (8, .sc (.int .i64))], false⟩)) .no none) none) (.n .no (.n .no (.n .no (.n (.n .no (.n (.n (.n .no (.n (.n (.n .no (.n (.n (.n .no .no (some ⟨[0, 2, 4, 11, 12], [(13, .sc .sl)], false⟩)) .no none) (.n .no (.n (.n .no (.n (.n .no .no (some ⟨[0, 2, 4, 11, 12, 13, 14], [(15, .sc (.int .i64))], false⟩)) .no none) none) .no none) none) none) none) .no none) .no none) none) .no (some ⟨[0, 2, 4, 11], [(12, .sc (.int .i64))], false⟩)) .no none) none) .no none) none) none) none) none) none) none) none) none) none) none)
def c33 (s_0 : List UInt8) (S : St) (k : Value → St → Prop) : Prop :=
  newW S
  (.cells [.int .i64 0, .int .i64 0, .int .i64 0, .int .i64 0, .int .i64 0, .int .u64 0, .int .i64 0, .slice none 0 0] none
  false none)
  fun (b1 : Nat) (S1 : St) =>
  evC E0 tS 76 [.string { data := List.toArray s_0 }, .int .u8 32] S1 fun (s1 : Sl) (S2 : St) =>
  loopW
  (fun (k1 : Int × Int → St → Prop) (x1 : Int × Int) (S3 : St) =>
  ifW (ltI x1.2 (↑s1.len : Int))
  (idxW s1.a s1.len x1.2 fun (b2 b3 : Nat) =>
  evV tT (loadV E0 S3 9 (.pointer (some ⟨b2, b3 + Int.toNat x1.2 * 1, none⟩))) fun (l1 : List UInt8) =>
  ifW (l1 == [UInt8.ofNat 61]) (ifW (ltI x1.1 0) (k1 (x1.2, wrapI .i64 (x1.2 + 1)) S3) (k1 (x1.1, wrapI .i64 (x1.2 + 1)) S3)) (k1 (x1.1, wrapI .i64 (x1.2 + 1)) S3))
  (ifW (ltI x1.1 1)
  (evS
  (storeV E0 S3 68 (.pointer (some ⟨b1, 0, none⟩))
  (.agg
  #[.int .i64 0, .int .i64 0, .int .i64 0, .int .i64 0, .int .i64 0, .int .u64 0, .int .i64 0, .slice none 0 0]))
  fun (S4 : St) =>
  evV (TT.one (Ty.agg G67)) (loadV E0 S4 68 (.pointer (some ⟨b1, 0, none⟩))) fun (x2 : Int × Int × Int × Int × Int × Int × Int × Sl) =>
  k (.tuple #[sv G67 x2, .int .i64 280]) S4)
  (ifW (leI (↑s1.len : Int) (wrapI .i64 (x1.1 + 1)))
  (evS
  (storeV E0 S3 68 (.pointer (some ⟨b1, 0, none⟩))
  (.agg
  #[.int .i64 0, .int .i64 0, .int .i64 0, .int .i64 0, .int .i64 0, .int .u64 0, .int .i64 0, .slice none 0 0]))
  fun (S5 : St) =>
  evV (TT.one (Ty.agg G67)) (loadV E0 S5 68 (.pointer (some ⟨b1, 0, none⟩))) fun (x3 : Int × Int × Int × Int × Int × Int × Int × Sl) =>
  k (.tuple #[sv G67 x3, .int .i64 280]) S5)
  (idxW s1.a s1.len 0 fun (b4 b5 : Nat) =>
  evV tT (loadV E0 S3 9 (.pointer (some ⟨b4, b5 + Int.toNat 0 * 1, none⟩))) fun (l2 : List UInt8) =>
  loopW
  (fun (k2 : List UInt8 × Int → St → Prop) (x4 : List UInt8 × Int) (S6 : St) =>
  ifW (ltI x4.2 x1.1)
  (evV tT (catD { data := List.toArray x4.1 } { data := #[UInt8.ofNat 32] }) fun (l3 : List UInt8) =>
  idxW s1.a s1.len x4.2 fun (b6 b7 : Nat) =>
  evV tT (loadV E0 S6 9 (.pointer (some ⟨b6, b7 + Int.toNat x4.2 * 1, none⟩))) fun (l4 : List UInt8) =>
  evV tT (catD { data := List.toArray l3 } { data := List.toArray l4 }) fun (l5 : List UInt8) => k2 (l5, wrapI .i64 (x4.2 + 1)) S6)
  (evC E0 (TT.tup [Ty.agg G23, Ty.sc (Sc.int .i64)]) 14 [.string { data := List.toArray x4.1 }] S6 fun (x5 : (Int × Int × Int × Int × Int × Int) × Int) (S7 : St) =>
  newW S7 (.cells [.int .i64 0, .int .i64 0, .int .i64 0, .int .i64 0, .int .i64 0, .int .u64 0] none false none)
  fun (b8 : Nat) (S8 : St) =>
  evS (storeV E0 S8 24 (.pointer (some ⟨b8, 0, none⟩)) (sv G23 x5.1)) fun (S9 : St) =>
  ifW (!eqI x5.2 0)
  (evS
  (storeV E0 S9 68 (.pointer (some ⟨b1, 0, none⟩))
  (.agg
  #[.int .i64 0, .int .i64 0, .int .i64 0, .int .i64 0, .int .i64 0, .int .u64 0, .int .i64 0,
  .slice none 0 0]))
  fun (S10 : St) =>
  evV (TT.one (Ty.agg G67)) (loadV E0 S10 68 (.pointer (some ⟨b1, 0, none⟩))) fun (x6 : Int × Int × Int × Int × Int × Int × Int × Sl) =>
  k (.tuple #[sv G67 x6, .int .i64 280]) S10)
  (newW S9
  (.cells
  [.int .i64 0, .int .i64 0, .int .i64 0, .int .i64 0, .int .i64 0, .int .u64 0, .int .i64 0,
  .slice none 0 0]
  none false none)
  fun (b9 : Nat) (S11 : St) =>
  evV (TT.one (Ty.agg G23)) (loadV E0 S11 24 (.pointer (some ⟨b8, 0, none⟩))) fun (x7 : Int × Int × Int × Int × Int × Int) =>
  idxW s1.a s1.len (wrapI .i64 (x1.1 + 1)) fun (b10 b11 : Nat) =>
  evV tT (loadV E0 S11 9 (.pointer (some ⟨b10, b11 + Int.toNat (wrapI .i64 (x1.1 + 1)) * 1, none⟩))) fun (l6 : List UInt8) =>
  evC E0 tI 77 [.string { data := List.toArray l6 }] S11 fun (n1 : Int) (S12 : St) =>
  evV (TT.one (Ty.agg G23)) (loadV E0 S12 24 (.pointer (some ⟨b8, 0, none⟩))) fun (x8 : Int × Int × Int × Int × Int × Int) =>
  sameV (sv G23 x8) (sv G23 x7)
  (evS
  (storeV E0 S12 68 (.pointer (some ⟨b9, 0, none⟩))
  (.agg
  #[.int .i64 x7.1, .int .i64 x7.2.1, .int .i64 x7.2.2.1, .int .i64 x7.2.2.2.1,
  .int .i64 x7.2.2.2.2.1, .int .u64 x7.2.2.2.2.2, .int .i64 n1, .slice none 0 0]))
  fun (S13 : St) =>
  loopW
  (fun (k3 : Int → St → Prop) (n2 : Int) (S14 : St) =>
  ifW (ltI n2 (↑s1.len : Int))
  (idxW s1.a s1.len n2 fun (b12 b13 : Nat) =>
  evV tT (loadV E0 S14 9 (.pointer (some ⟨b12, b13 + Int.toNat n2 * 1, none⟩))) fun (l7 : List UInt8) =>
  evC E0 tS 76 [.string { data := List.toArray l7 }, .int .u8 58] S14 fun (s2 : Sl) (S15 : St) =>
  loopW
  (fun (k4 : Sl → St → Prop) (s3 : Sl) (S16 : St) =>
  ifW (ltI (↑s3.len : Int) 3)
  (newW S16 (.cells [.string { data := #[] }] none false none) fun (b14 : Nat) (S17 : St) =>
  evP tS (appendD E0 S17 80 80 (.slice s3.a s3.len s3.cap) (.slice (some ⟨b14, 0, none⟩) 1 1)) fun (s4 : Sl) (S18 : St) =>
  k4 { a := s4.a, len := s4.len, cap := s4.cap } S18)
  (newW S16 (.cells [.int .i64 0, .int .i64 0, .int .i64 0] none false none) fun (b15 : Nat) (S19 : St) =>
  idxW s3.a s3.len 1 fun (b16 b17 : Nat) =>
  evV tT (loadV E0 S19 9 (.pointer (some ⟨b16, b17 + Int.toNat 1 * 1, none⟩))) fun (l8 : List UInt8) =>
  evC E0 tI 77 [.string { data := List.toArray l8 }] S19 fun (n3 : Int) (S20 : St) =>
  idxW s3.a s3.len 2 fun (b18 b19 : Nat) =>
  evV tT (loadV E0 S20 9 (.pointer (some ⟨b18, b19 + Int.toNat 2 * 1, none⟩))) fun (l9 : List UInt8) =>
  evV tT (loadV E0 S19 9 (.pointer (some ⟨b18, b19 + Int.toNat 2 * 1, none⟩))) fun (l10 : List UInt8) =>
  sameV (.string { data := List.toArray l10 }) (.string { data := List.toArray l9 })
  (evC E0 tI 77 [.string { data := List.toArray l9 }] S20 fun (n4 : Int) (S21 : St) =>
  evS
  (storeV E0 S21 127 (.pointer (some ⟨b15, 0, none⟩))
  (.agg #[.int .i64 0, .int .i64 n3, .int .i64 n4]))
  fun (S22 : St) =>
  loopW
  (fun (k5 : Int → St → Prop) (n5 : Int) (S23 : St) =>
  ifW (leI n5 3)
  (evC E0 tT 71 [.int .i64 n5] S23 fun (l11 : List UInt8) (S24 : St) =>
  idxW s3.a s3.len 0 fun (b20 b21 : Nat) =>
  evV tT (loadV E0 S24 9 (.pointer (some ⟨b20, b21 + Int.toNat 0 * 1, none⟩))) fun (l12 : List UInt8) =>
  ifW (l11 == l12)
  (ptrW (some ⟨b15, 0, none⟩) fun (b22 b23 : Nat) =>
  evS (storeV E0 S24 3 (.pointer (some ⟨b22, b23 + 0, none⟩)) (.int .i64 n5))
  fun (S25 : St) => k5 (wrapI .i64 (n5 + 1)) S25)
  (k5 (wrapI .i64 (n5 + 1)) S24))
  (ptrW (some ⟨b9, 0, none⟩) fun (b24 b25 : Nat) =>
  evV tS (loadV E0 S23 66 (.pointer (some ⟨b24, b25 + 7, none⟩))) fun (s5 : Sl) =>
  evV (TT.one (Ty.agg G58)) (loadV E0 S23 127 (.pointer (some ⟨b15, 0, none⟩))) fun (x9 : Int × Int × Int) =>
  newW S23
  (.cells [.int .i64 x9.1, .int .i64 x9.2.1, .int .i64 x9.2.2] none
  false none)
  fun (b26 : Nat) (S26 : St) =>
  evP tS (appendD E0 S26 66 66 (.slice s5.a s5.len s5.cap) (.slice (some ⟨b26, 0, none⟩) 1 1))
  fun (s6 : Sl) (S27 : St) =>
  ptrW (some ⟨b9, 0, none⟩) fun (b27 b28 : Nat) =>
  evS (storeV E0 S27 66 (.pointer (some ⟨b27, b28 + 7, none⟩)) (.slice s6.a s6.len s6.cap))
  fun (S28 : St) => k3 (wrapI .i64 (n2 + 1)) S28))
  1 S22)))
  { a := s2.a, len := s2.len, cap := s2.cap } S15)
  (evV (TT.one (Ty.agg G67)) (loadV E0 S14 68 (.pointer (some ⟨b9, 0, none⟩))) fun (x10 : Int × Int × Int × Int × Int × Int × Int × Sl) =>
  evC E0 (TT.tup [Ty.sc Sc.str, Ty.sc (Sc.int .i64)]) 31 [sv G67 x10] S14 fun (x11 : List UInt8 × Int) (S29 : St) =>
  ifW (!eqI x11.2 0)
  (evS
  (storeV E0 S29 68 (.pointer (some ⟨b1, 0, none⟩))
  (.agg
  #[.int .i64 0, .int .i64 0, .int .i64 0, .int .i64 0, .int .i64 0, .int .u64 0,
  .int .i64 0, .slice none 0 0]))
  fun (S30 : St) =>
  evV (TT.one (Ty.agg G67)) (loadV E0 S30 68 (.pointer (some ⟨b1, 0, none⟩))) fun (x12 : Int × Int × Int × Int × Int × Int × Int × Sl) =>
  k (.tuple #[sv G67 x12, .int .i64 280]) S30)
  (ifW (!x11.1 == s_0)
  (evS
  (storeV E0 S29 68 (.pointer (some ⟨b1, 0, none⟩))
  (.agg
  #[.int .i64 0, .int .i64 0, .int .i64 0, .int .i64 0, .int .i64 0, .int .u64 0,
  .int .i64 0, .slice none 0 0]))
  fun (S31 : St) =>
  evV (TT.one (Ty.agg G67)) (loadV E0 S31 68 (.pointer (some ⟨b1, 0, none⟩))) fun (x13 : Int × Int × Int × Int × Int × Int × Int × Sl) =>
  k (.tuple #[sv G67 x13, .int .i64 280]) S31)
  (evV (TT.one (Ty.agg G67)) (loadV E0 S29 68 (.pointer (some ⟨b9, 0, none⟩))) fun (x14 : Int × Int × Int × Int × Int × Int × Int × Sl) =>
  evS (storeV E0 S29 68 (.pointer (some ⟨b1, 0, none⟩)) (sv G67 x14)) fun (S32 : St) =>
  evV (TT.one (Ty.agg G67)) (loadV E0 S32 68 (.pointer (some ⟨b1, 0, none⟩))) fun (x15 : Int × Int × Int × Int × Int × Int × Int × Sl) =>
  k (.tuple #[sv G67 x15, .int .i64 0]) S32))))
  (wrapI .i64 (x1.1 + 2)) S13))))
  (l2, 1) S3))))
  (-1, 0) S2
theorem w33 (s_0 : List UInt8) {S : St} {k : Value → St → Prop} (h : c33 s_0 S k) : WC E0 33 [.string ⟨s_0.toArray⟩] S k :=
  WC_den h33 rfl (by kernel_rfl) (by kernel_rfl : Tryd.f33.body = some (bodyOf Tryd.f33)) (by rw [show (denF E0 h33 Tryd.f33 (bodyOf Tryd.f33) [.string ⟨s_0.toArray⟩] S k) = c33 s_0 S k by kernel_rfl]; exact h)

end
end Go.Proofs.YtabbbfdlgmoniaaDoor
