/- Parts of the proof, put together. -/
import Derived.Test.YtfopfocedlbihaaGreatDoorCA
/- The conditions of functions (printed by GenDen.lean). -/
namespace Go.Proofs.YtfopfocedlbihaaGreatDoor
open Go Go.Proofs.YtfopfocedlbihaaGreatDoor.D
set_option linter.unusedVariables false
noncomputable section

/-! 3 wagonway/wagonwaylaw28.DiaryTexts -/
noncomputable def h3 : Hn := (.n .no (.n .no (.n .no (.n .no (.n .no (.n .no (.n .no (.n .no (.n (.n .no (.n (.n (.n .no (.n .no (.n (.n (.n .no (.n .no (.n (.n (.n .no (.n .no (.n (.n (.n .no (.n .no (.n .no .no (some ⟨[0, 2, 7, 8, 9, 10, 11, 12, 13, 14, 15, 16, 17, 18, 19, 20, 54, 55, 63, 64], [(100, .sc .bool)], false⟩)) none) none) .no none) .no none) none) none) .no (some ⟨[0, 2, 7, 8, 9, 10, 11, 12, 13, 14, 15, 16, 19, 54, 55, 63], [(17, .sc .sl), (18, .sc .sl), (64, .sc (.int .i64))], false⟩)) .no none) none) none) .no none) .no none) none) none) .no (some ⟨[0, 2, 7, 8, 9, 10, 11, 12, 13, 14, 15, 16, 54], [(17, .sc .sl), (18, .sc .sl), (55, .sc (.int .i64))], false⟩)) .no none) none) .no none) none) none) none) none) none) none) none) none)
def c3 (l_0 : Sl) (s_1 : List UInt8) (robot_2 : Int) (S : St) (k : Value → St → Prop) : Prop :=
  evC E0 tI 4 [.slice l_0.a l_0.len l_0.cap] S fun (n1 : Int) (S1 : St) =>
  ifW (ltI 0 n1) (k (.bool true) S1)
  (ifW (ltI 4000 (↑(List.length s_1) : Int)) (k (.bool true) S1)
  (evC E0 (TT.tup [Ty.sc Sc.str, Ty.sc (Sc.int .i64)]) 5 [.slice l_0.a l_0.len l_0.cap] S1 fun (x1 : List UInt8 × Int) (S2 : St) =>
  evC E0 (TT.tup [Ty.sc Sc.str, Ty.sc (Sc.int .i64)]) 6 [.slice l_0.a l_0.len l_0.cap] S2 fun (x2 : List UInt8 × Int) (S3 : St) =>
  evC E0 (TT.tup [Ty.sc Sc.sl, Ty.sc (Sc.int .i64), Ty.sc (Sc.int .i64)]) 7 [.string { data := List.toArray s_1 }] S3 fun (x3 : Sl × Int × Int) (S4 : St) =>
  evC E0 (TT.tup [Ty.sc Sc.sl, Ty.sc (Sc.int .i64), Ty.sc (Sc.int .i64)]) 8 [.string { data := List.toArray s_1 }] S4 fun (x4 : Sl × Int × Int) (S5 : St) =>
  loopW
  (fun (k1 : Sl × Sl × Int → St → Prop) (x5 : Sl × Sl × Int) (S6 : St) =>
  ifW (ltI x5.2.2 (↑l_0.len : Int))
  (idxW l_0.a l_0.len x5.2.2 fun (b1 b2 : Nat) =>
  ptrW (some ⟨b1, b2 + Int.toNat x5.2.2 * 8, none⟩) fun (b3 b4 : Nat) =>
  evV tS (loadV E0 S6 33 (.pointer (some ⟨b3, b4 + 7, none⟩))) fun (s1 : Sl) =>
  loopW
  (fun (k2 : Sl × Sl × Int → St → Prop) (x6 : Sl × Sl × Int) (S7 : St) =>
  ifW (ltI x6.2.2 (↑s1.len : Int))
  (idxW l_0.a l_0.len x5.2.2 fun (b5 b6 : Nat) =>
  ptrW (some ⟨b5, b6 + Int.toNat x5.2.2 * 8, none⟩) fun (b7 b8 : Nat) =>
  evV tS (loadV E0 S7 33 (.pointer (some ⟨b7, b8 + 7, none⟩))) fun (s2 : Sl) =>
  idxW s2.a s2.len x6.2.2 fun (b9 b10 : Nat) =>
  evV (TT.one (Ty.agg G40)) (loadV E0 S7 41 (.pointer (some ⟨b9, b10 + Int.toNat x6.2.2 * 3, none⟩))) fun (x7 : Int × Int × Int) =>
  newW S7 (.cells [.int .i64 x7.1, .int .i64 x7.2.1, .int .i64 x7.2.2] none false none) fun (b11 : Nat) (S8 : St) =>
  evP tS (appendD E0 S8 33 33 (.slice x6.1.a x6.1.len x6.1.cap) (.slice (some ⟨b11, 0, none⟩) 1 1)) fun (s3 : Sl) (S9 : St) =>
  joinW
  (fun (t1 : Bool) (S10 : St) =>
  ifW t1
  (idxW l_0.a l_0.len x5.2.2 fun (b12 b13 : Nat) =>
  ptrW (some ⟨b12, b13 + Int.toNat x5.2.2 * 8, none⟩) fun (b14 b15 : Nat) =>
  evV tS (loadV E0 S10 33 (.pointer (some ⟨b14, b15 + 7, none⟩))) fun (s4 : Sl) =>
  idxW s4.a s4.len x6.2.2 fun (b16 b17 : Nat) =>
  ptrW (some ⟨b16, b17 + Int.toNat x6.2.2 * 3, none⟩) fun (b18 b19 : Nat) =>
  evV tI (loadV E0 S10 3 (.pointer (some ⟨b18, b19 + 2, none⟩))) fun (n2 : Int) =>
  newW S10 (.cells [.int .i64 n2] none false none) fun (b20 : Nat) (S11 : St) =>
  evP tS (appendD E0 S11 34 34 (.slice x6.2.1.a x6.2.1.len x6.2.1.cap) (.slice (some ⟨b20, 0, none⟩) 1 1))
  fun (s5 : Sl) (S12 : St) =>
  k2 ({ a := s3.a, len := s3.len, cap := s3.cap }, { a := s5.a, len := s5.len, cap := s5.cap }, wrapI .i64 (x6.2.2 + 1)) S12)
  (k2 ({ a := s3.a, len := s3.len, cap := s3.cap }, { a := x6.2.1.a, len := x6.2.1.len, cap := x6.2.1.cap }, wrapI .i64 (x6.2.2 + 1)) S10))
  fun (k3 : Bool → St → Prop) =>
  idxW l_0.a l_0.len x5.2.2 fun (b21 b22 : Nat) =>
  ptrW (some ⟨b21, b22 + Int.toNat x5.2.2 * 8, none⟩) fun (b23 b24 : Nat) =>
  evV tS (loadV E0 S9 33 (.pointer (some ⟨b23, b24 + 7, none⟩))) fun (s6 : Sl) =>
  idxW s6.a s6.len x6.2.2 fun (b25 b26 : Nat) =>
  ptrW (some ⟨b25, b26 + Int.toNat x6.2.2 * 3, none⟩) fun (b27 b28 : Nat) =>
  evV tI (loadV E0 S9 3 (.pointer (some ⟨b27, b28 + 0, none⟩))) fun (n3 : Int) =>
  ifW (eqI n3 3)
  (idxW l_0.a l_0.len x5.2.2 fun (b29 b30 : Nat) =>
  ptrW (some ⟨b29, b30 + Int.toNat x5.2.2 * 8, none⟩) fun (b31 b32 : Nat) =>
  evV tS (loadV E0 S9 33 (.pointer (some ⟨b31, b32 + 7, none⟩))) fun (s7 : Sl) =>
  idxW s7.a s7.len x6.2.2 fun (b33 b34 : Nat) =>
  ptrW (some ⟨b33, b34 + Int.toNat x6.2.2 * 3, none⟩) fun (b35 b36 : Nat) =>
  evV tI (loadV E0 S9 3 (.pointer (some ⟨b35, b36 + 1, none⟩))) fun (n4 : Int) => k3 (eqI n4 robot_2) S9)
  (k3 false S9))
  (k1 ({ a := x6.1.a, len := x6.1.len, cap := x6.1.cap }, { a := x6.2.1.a, len := x6.2.1.len, cap := x6.2.1.cap }, wrapI .i64 (x5.2.2 + 1)) S7))
  ({ a := x5.1.a, len := x5.1.len, cap := x5.1.cap }, { a := x5.2.1.a, len := x5.2.1.len, cap := x5.2.1.cap }, 0) S6)
  (evC E0 tS 9 [.slice l_0.a l_0.len l_0.cap] S6 fun (s8 : Sl) (S13 : St) =>
  evC E0 tS 10 [.slice l_0.a l_0.len l_0.cap, .int .i64 robot_2] S13 fun (s9 : Sl) (S14 : St) =>
  ifW (x1.1 == x2.1)
  (ifW (eqI x1.2 x2.2)
  (evC E0 tB 11 [.slice x3.1.a x3.1.len x3.1.cap, .slice x4.1.a x4.1.len x4.1.cap] S14 fun (t2 : Bool) (S15 : St) =>
  ifW t2
  (ifW (eqI x3.2.1 x4.2.1)
  (ifW (eqI x3.2.2 x4.2.2)
  (evC E0 tB 12 [.slice s8.a s8.len s8.cap, .slice x5.1.a x5.1.len x5.1.cap] S15 fun (t3 : Bool) (S16 : St) =>
  ifW t3 (evC E0 tB 13 [.slice s9.a s9.len s9.cap, .slice x5.2.1.a x5.2.1.len x5.2.1.cap] S16 fun (t4 : Bool) (S17 : St) => k (.bool t4) S17)
  (k (.bool false) S16))
  (k (.bool false) S15))
  (k (.bool false) S15))
  (k (.bool false) S15))
  (k (.bool false) S14))
  (k (.bool false) S14)))
  ({ a := none, len := 0, cap := 0 }, { a := none, len := 0, cap := 0 }, 0) S5))
theorem w3 (l_0 : Sl) (s_1 : List UInt8) (robot_2 : Int) {S : St} {k : Value → St → Prop} (h : c3 l_0 s_1 robot_2 S k) : WC E0 3 [.slice l_0.a l_0.len l_0.cap, .string ⟨s_1.toArray⟩, .int .i64 robot_2] S k :=
  WC_den h3 rfl (by kernel_rfl) (by kernel_rfl : Tryz.f3.body = some (bodyOf Tryz.f3)) (by rw [show (denF E0 h3 Tryz.f3 (bodyOf Tryz.f3) [.slice l_0.a l_0.len l_0.cap, .string ⟨s_1.toArray⟩, .int .i64 robot_2] S k) = c3 l_0 s_1 robot_2 S k by kernel_rfl]; exact h)

/-! 4 wagonway/wagonwaylaw28.Great -/
noncomputable def h4 : Hn := (.n .no (.n .no (.n (.n .no (.n (.n .no .no (some ⟨[0, 8], [(9, .sc (.int .i64))], false⟩)) .no none) none) .no none) none) none)
def c4 (l_0 : Sl) (S : St) (k : Value → St → Prop) : Prop :=
  ifW (ltI 60 (↑l_0.len : Int)) (k (.int .i64 1) S)
  (loopW
  (fun (k1 : Int → St → Prop) (n1 : Int) (S1 : St) =>
  ifW (ltI n1 (↑l_0.len : Int))
  (idxW l_0.a l_0.len n1 fun (b1 b2 : Nat) =>
  ptrW (some ⟨b1, b2 + Int.toNat n1 * 8, none⟩) fun (b3 b4 : Nat) =>
  evV tS (loadV E0 S1 33 (.pointer (some ⟨b3, b4 + 7, none⟩))) fun (s1 : Sl) =>
  ifW (ltI 30 (↑s1.len : Int))
  (idxW l_0.a l_0.len n1 fun (b5 b6 : Nat) =>
  ptrW (some ⟨b5, b6 + Int.toNat n1 * 8, none⟩) fun (b7 b8 : Nat) =>
  evV tS (loadV E0 S1 33 (.pointer (some ⟨b7, b8 + 7, none⟩))) fun (s2 : Sl) => ifW (!eqI (↑s2.len : Int) 1001) (k (.int .i64 1) S1) (k1 (wrapI .i64 (n1 + 1)) S1))
  (k1 (wrapI .i64 (n1 + 1)) S1))
  (k (.int .i64 0) S1))
  0 S)
theorem w4 (l_0 : Sl) {S : St} {k : Value → St → Prop} (h : c4 l_0 S k) : WC E0 4 [.slice l_0.a l_0.len l_0.cap] S k :=
  WC_den h4 rfl (by kernel_rfl) (by kernel_rfl : Tryz.f4.body = some (bodyOf Tryz.f4)) (by rw [show (denF E0 h4 Tryz.f4 (bodyOf Tryz.f4) [.slice l_0.a l_0.len l_0.cap] S k) = c4 l_0 S k by kernel_rfl]; exact h)

/-! 5 wagonway/diary.Text -/
noncomputable def h5 : Hn := (.n .no (.n .no (.n .no (.n (.n .no (.n (.n .no .no (some ⟨[4, 16, 17], [(18, .sc (.int .i64))], false⟩)) .no none) none) .no none) none) none) none)
def c5 (l_0 : Sl) (S : St) (k : Value → St → Prop) : Prop :=
  ifW (ltI 10000 (↑l_0.len : Int)) (k (.tuple #[.string { data := #[] }, .int .i64 280]) S)
  (evC E0 tB 14 [.slice l_0.a l_0.len l_0.cap, .func (Fn.func 15) #[] #[]] S fun (t1 : Bool) (S1 : St) =>
  ifW t1 (k (.tuple #[.string { data := #[] }, .int .i64 280]) S1)
  (newW S1 (.cells [.pointer none, .slice none 0 0] (some 2000054) false none) fun (b1 : Nat) (S2 : St) =>
  loopW
  (fun (k1 : Int → St → Prop) (n1 : Int) (S3 : St) =>
  ifW (ltI n1 (↑l_0.len : Int))
  (idxW l_0.a l_0.len n1 fun (b2 b3 : Nat) =>
  evV (TT.one (Ty.agg G38)) (loadV E0 S3 39 (.pointer (some ⟨b2, b3 + Int.toNat n1 * 8, none⟩))) fun (x1 : Int × Int × Int × Int × Int × Int × Int × Sl) =>
  newW S3
  (.cells
  [.int .i64 0, .int .i64 0, .int .i64 0, .int .i64 0, .int .i64 0, .int .u64 0, .int .i64 0, .slice none 0 0]
  none false none)
  fun (b4 : Nat) (S4 : St) =>
  evS (storeV E0 S4 39 (.pointer (some ⟨b4, 0, none⟩)) (sv G38 x1)) fun (S5 : St) =>
  evV (TT.one (Ty.agg G38)) (loadV E0 S5 39 (.pointer (some ⟨b4, 0, none⟩))) fun (x2 : Int × Int × Int × Int × Int × Int × Int × Sl) =>
  evC E0 (TT.tup [Ty.sc Sc.str, Ty.sc (Sc.int .i64)]) 17 [sv G38 x2] S5 fun (x3 : List UInt8 × Int) (S6 : St) =>
  evV tT (catD { data := List.toArray x3.1 } { data := #[UInt8.ofNat 10] }) fun (l1 : List UInt8) =>
  evC E0 (TT.tup [Ty.sc (Sc.int .i64), Ty.sc Sc.any]) 18 [.pointer (some ⟨b1, 0, none⟩), .string { data := List.toArray l1 }] S6 fun (x4 : Int × Value) (S7 : St) =>
  k1 (wrapI .i64 (n1 + 1)) S7)
  (evC E0 tT 19 [.pointer (some ⟨b1, 0, none⟩)] S3 fun (l2 : List UInt8) (S8 : St) => k (.tuple #[.string { data := List.toArray l2 }, .int .i64 0]) S8))
  0 S2))
theorem w5 (l_0 : Sl) {S : St} {k : Value → St → Prop} (h : c5 l_0 S k) : WC E0 5 [.slice l_0.a l_0.len l_0.cap] S k :=
  WC_den h5 rfl (by kernel_rfl) (by kernel_rfl : Tryz.f5.body = some (bodyOf Tryz.f5)) (by rw [show (denF E0 h5 Tryz.f5 (bodyOf Tryz.f5) [.slice l_0.a l_0.len l_0.cap] S k) = c5 l_0 S k by kernel_rfl]; exact h)

/-! 6 wagonway/wagonwayref28.Text -/
noncomputable def h6 : Hn := (.n .no (.n .no (.n .no (.n (.n .no (.n (.n .no .no (some ⟨[0], [(4, .sc .str), (5, .sc (.int .i64))], false⟩)) .no none) none) .no none) none) none) none)
def c6 (l_0 : Sl) (S : St) (k : Value → St → Prop) : Prop :=
  ifW (ltI 10000 (↑l_0.len : Int)) (k (.tuple #[.string { data := #[] }, .int .i64 280]) S)
  (loopW
  (fun (k1 : List UInt8 × Int → St → Prop) (x1 : List UInt8 × Int) (S1 : St) =>
  ifW (ltI x1.2 (↑l_0.len : Int))
  (idxW l_0.a l_0.len x1.2 fun (b1 b2 : Nat) =>
  evV (TT.one (Ty.agg G38)) (loadV E0 S1 39 (.pointer (some ⟨b1, b2 + Int.toNat x1.2 * 8, none⟩))) fun (x2 : Int × Int × Int × Int × Int × Int × Int × Sl) =>
  evC E0 (TT.tup [Ty.sc Sc.str, Ty.sc (Sc.int .i64)]) 20 [sv G38 x2] S1 fun (x3 : List UInt8 × Int) (S2 : St) =>
  ifW (!eqI x3.2 0) (k (.tuple #[.string { data := #[] }, .int .i64 x3.2]) S2)
  (evV tT (catD { data := List.toArray x1.1 } { data := List.toArray x3.1 }) fun (l1 : List UInt8) =>
  evV tT (catD { data := List.toArray l1 } { data := #[UInt8.ofNat 10] }) fun (l2 : List UInt8) => k1 (l2, wrapI .i64 (x1.2 + 1)) S2))
  (k (.tuple #[.string { data := List.toArray x1.1 }, .int .i64 0]) S1))
  ([], 0) S)
theorem w6 (l_0 : Sl) {S : St} {k : Value → St → Prop} (h : c6 l_0 S k) : WC E0 6 [.slice l_0.a l_0.len l_0.cap] S k :=
  WC_den h6 rfl (by kernel_rfl) (by kernel_rfl : Tryz.f6.body = some (bodyOf Tryz.f6)) (by rw [show (denF E0 h6 Tryz.f6 (bodyOf Tryz.f6) [.slice l_0.a l_0.len l_0.cap] S k) = c6 l_0 S k by kernel_rfl]; exact h)

/-! 7 wagonway/diary.Parse -/
noncomputable def h7 : Hn := (.n .no (.n (.n .no (.n (.n .no (.n (.n .no (.n .no (.n (.n .no .no (some ⟨[2, 3, 4, 6], [(29, .sc .bool)], false⟩)) .no none) none) none) .no none) (some ⟨[], [(10, .sc .str)], false⟩)) .no none) none) .no none) none)
def c7 (s_0 : List UInt8) (S : St) (k : Value → St → Prop) : Prop :=
  newW S (.cells [.slice none 0 0] none false none) fun (b1 : Nat) (S1 : St) =>
  newW S1 (.cells [.int .i64 0] none false none) fun (b2 : Nat) (S2 : St) =>
  newW S2 (.cells [.int .i64 0] none false none) fun (b3 : Nat) (S3 : St) =>
  evC E0 tA 21 [.string { data := List.toArray s_0 }] S3 fun (v1 : Value) (S4 : St) =>
  newW S4 DObj.deferred fun (b4 : Nat) (S5 : St) =>
  ∀ (b5 : Nat) (S6 : St) (k1 : LoopState → Option Code → DObj),
  b5 = S5.next →
  S6 = (St.alloc S5 (k1 LoopState.ready none)).2 →
  (LoopL fun (x1 : LoopState) (p1 : Option Code) => k1 x1 p1) →
  (RoundH E0 b5 [Ty.sc Sc.str] fun (l1 : List UInt8) (S7 : St) (k2 : Bool → St → Prop) =>
  hasW S7 b5 (k1 LoopState.ready none)
  (hasW S7 b5 (k1 LoopState.ready none)
  (updW S7 b5 (k1 LoopState.busy none) fun (S8 : St) =>
  evV tI (loadV E0 S8 3 (.pointer (some ⟨b2, 0, none⟩))) fun (n1 : Int) =>
  evS (storeV E0 S8 3 (.pointer (some ⟨b2, 0, none⟩)) (.int .i64 (wrapI .i64 (n1 + 1)))) fun (S9 : St) =>
  evC E0 tT 23 [.string { data := List.toArray l1 }, .string { data := #[UInt8.ofNat 10] }] S9 fun (l2 : List UInt8) (S10 : St) =>
  evC E0 (TT.tup [Ty.agg G38, Ty.sc (Sc.int .i64)]) 22 [.string { data := List.toArray l2 }] S10 fun (x2 : (Int × Int × Int × Int × Int × Int × Int × Sl) × Int) (S11 : St) =>
  newW S11
  (.cells
  [.int .i64 0, .int .i64 0, .int .i64 0, .int .i64 0, .int .i64 0, .int .u64 0, .int .i64 0,
  .slice none 0 0]
  none false none)
  fun (b6 : Nat) (S12 : St) =>
  evS (storeV E0 S12 39 (.pointer (some ⟨b6, 0, none⟩)) (sv G38 x2.1)) fun (S13 : St) =>
  joinW
  (fun (t1 : Bool) (S14 : St) =>
  ifW t1
  (evV tI (loadV E0 S14 3 (.pointer (some ⟨b2, 0, none⟩))) fun (n2 : Int) =>
  evS (storeV E0 S14 22 (.pointer (some ⟨b1, 0, none⟩)) (.slice none 0 0)) fun (S15 : St) =>
  evV tI (loadV E0 S15 3 (.pointer (some ⟨b2, 0, none⟩))) fun (n3 : Int) =>
  sameV (.int .i64 n3) (.int .i64 n2)
  (evS (storeV E0 S15 3 (.pointer (some ⟨b2, 0, none⟩)) (.int .i64 n2)) fun (S16 : St) =>
  evS (storeV E0 S16 24 (.pointer (some ⟨b3, 0, none⟩)) (.int .i64 280)) fun (S17 : St) =>
  hasW S17 b5 (k1 LoopState.busy none) (updW S17 b5 (k1 LoopState.done (some Code.ret)) fun (S18 : St) => k2 false S18)))
  (evV tS (loadV E0 S14 22 (.pointer (some ⟨b1, 0, none⟩))) fun (s1 : Sl) =>
  evV (TT.one (Ty.agg G38)) (loadV E0 S14 39 (.pointer (some ⟨b6, 0, none⟩))) fun (x3 : Int × Int × Int × Int × Int × Int × Int × Sl) =>
  newW S14
  (.cells
  [.int .i64 x3.1, .int .i64 x3.2.1, .int .i64 x3.2.2.1, .int .i64 x3.2.2.2.1,
  .int .i64 x3.2.2.2.2.1, .int .u64 x3.2.2.2.2.2.1, .int .i64 x3.2.2.2.2.2.2.1,
  .slice x3.2.2.2.2.2.2.2.a x3.2.2.2.2.2.2.2.len x3.2.2.2.2.2.2.2.cap]
  none false none)
  fun (b7 : Nat) (S19 : St) =>
  evP tS (appendD E0 S19 22 22 (.slice s1.a s1.len s1.cap) (.slice (some ⟨b7, 0, none⟩) 1 1)) fun (s2 : Sl) (S20 : St) =>
  evS (storeV E0 S20 22 (.pointer (some ⟨b1, 0, none⟩)) (.slice s2.a s2.len s2.cap)) fun (S21 : St) =>
  hasW S21 b5 (k1 LoopState.busy none) (updW S21 b5 (k1 LoopState.ready none) fun (S22 : St) => k2 true S22)))
  fun (k3 : Bool → St → Prop) =>
  ifW (!eqI x2.2 0) (k3 true S13)
  (evV tI (loadV E0 S13 3 (.pointer (some ⟨b2, 0, none⟩))) fun (n4 : Int) =>
  ifW (ltI 10000 n4) (k3 true S13)
  (evC E0 tB 24 [.string { data := List.toArray l1 }, .string { data := #[UInt8.ofNat 10] }] S13 fun (t2 : Bool) (S23 : St) => k3 (!t2) S23))))) →
  WG E0 v1 b5 S6 fun (S24 : St) =>
  hasW S24 b5 (k1 LoopState.ready none)
  (updW S24 b5 (k1 LoopState.exhausted none) fun (S25 : St) =>
  evV tS (loadV E0 S25 22 (.pointer (some ⟨b1, 0, none⟩))) fun (s3 : Sl) =>
  evS (storeV E0 S25 22 (.pointer (some ⟨b1, 0, none⟩)) (.slice s3.a s3.len s3.cap)) fun (S26 : St) =>
  evS (storeV E0 S26 3 (.pointer (some ⟨b2, 0, none⟩)) (.int .i64 0)) fun (S27 : St) =>
  evS (storeV E0 S27 24 (.pointer (some ⟨b3, 0, none⟩)) (.int .i64 0)) fun (S28 : St) =>
  hasW S28 b4 DObj.deferred
  (updW S28 b4 DObj.dead fun (S29 : St) =>
  evV tS (loadV E0 S29 22 (.pointer (some ⟨b1, 0, none⟩))) fun (s4 : Sl) =>
  evV tI (loadV E0 S29 3 (.pointer (some ⟨b2, 0, none⟩))) fun (n5 : Int) =>
  evV tI (loadV E0 S29 24 (.pointer (some ⟨b3, 0, none⟩))) fun (n6 : Int) =>
  k (.tuple #[.slice s4.a s4.len s4.cap, .int .i64 n5, .int .i64 n6]) S29)) ∨
  hasW S24 b5 (k1 LoopState.done (some Code.ret))
  (updW S24 b5 (k1 LoopState.exhausted (some Code.ret)) fun (S30 : St) =>
  hasW S30 b4 DObj.deferred
  (updW S30 b4 DObj.dead fun (S31 : St) =>
  evV tS (loadV E0 S31 22 (.pointer (some ⟨b1, 0, none⟩))) fun (s5 : Sl) =>
  evV tI (loadV E0 S31 3 (.pointer (some ⟨b2, 0, none⟩))) fun (n7 : Int) =>
  evV tI (loadV E0 S31 24 (.pointer (some ⟨b3, 0, none⟩))) fun (n8 : Int) =>
  k (.tuple #[.slice s5.a s5.len s5.cap, .int .i64 n7, .int .i64 n8]) S31)) ∨
  False
theorem w7 (s_0 : List UInt8) {S : St} {k : Value → St → Prop} (h : c7 s_0 S k) : WC E0 7 [.string ⟨s_0.toArray⟩] S k :=
  WC_den h7 rfl (by kernel_rfl) (by kernel_rfl : Tryz.f7.body = some (bodyOf Tryz.f7)) (by rw [show (denF E0 h7 Tryz.f7 (bodyOf Tryz.f7) [.string ⟨s_0.toArray⟩] S k) = c7 s_0 S k by kernel_rfl]; exact h)

/-! 8 wagonway/wagonwayref28.Parse -/
noncomputable def h8 : Hn := (.n .no (.n .no (.n .no (.n .no (.n (.n .no (.n (.n .no .no (some ⟨[0], [(5, .sc .sl), (6, .sc (.int .i64)), (7, .sc (.int .i64)), (8, .sc (.int .i64))], false⟩)) .no none) none) .no none) none) none) none) none)
def c8 (s_0 : List UInt8) (S : St) (k : Value → St → Prop) : Prop :=
  loopW
  (fun (k1 : Sl × Int × Int × Int → St → Prop) (x1 : Sl × Int × Int × Int) (S1 : St) =>
  ifW (ltI x1.2.2.2 (↑(List.length s_0) : Int))
  (evV tU8 (indexD E0 9 (.string { data := List.toArray s_0 }) (.int .i64 x1.2.2.2)) fun (n1 : Int) =>
  ifW (!eqI n1 10) (k1 ({ a := x1.1.a, len := x1.1.len, cap := x1.1.cap }, x1.2.1, x1.2.2.1, wrapI .i64 (x1.2.2.2 + 1)) S1)
  (evV tT (sliceD E0 S1 9 (.string { data := List.toArray s_0 }) (some (.int .i64 x1.2.2.1)) (some (.int .i64 x1.2.2.2)) none) fun (l1 : List UInt8) =>
  evC E0 (TT.tup [Ty.agg G38, Ty.sc (Sc.int .i64)]) 25 [.string { data := List.toArray l1 }] S1 fun (x2 : (Int × Int × Int × Int × Int × Int × Int × Sl) × Int) (S2 : St) =>
  newW S2
  (.cells
  [.int .i64 0, .int .i64 0, .int .i64 0, .int .i64 0, .int .i64 0, .int .u64 0, .int .i64 0, .slice none 0 0] none
  false none)
  fun (b1 : Nat) (S3 : St) =>
  evS (storeV E0 S3 39 (.pointer (some ⟨b1, 0, none⟩)) (sv G38 x2.1)) fun (S4 : St) =>
  ifW (!eqI x2.2 0) (k (.tuple #[.slice none 0 0, .int .i64 (wrapI .i64 (x1.2.1 + 1)), .int .i64 280]) S4)
  (ifW (ltI 10000 (wrapI .i64 (x1.2.1 + 1))) (k (.tuple #[.slice none 0 0, .int .i64 (wrapI .i64 (x1.2.1 + 1)), .int .i64 280]) S4)
  (evV (TT.one (Ty.agg G38)) (loadV E0 S4 39 (.pointer (some ⟨b1, 0, none⟩))) fun (x3 : Int × Int × Int × Int × Int × Int × Int × Sl) =>
  newW S4
  (.cells
  [.int .i64 x3.1, .int .i64 x3.2.1, .int .i64 x3.2.2.1, .int .i64 x3.2.2.2.1, .int .i64 x3.2.2.2.2.1,
  .int .u64 x3.2.2.2.2.2.1, .int .i64 x3.2.2.2.2.2.2.1,
  .slice x3.2.2.2.2.2.2.2.a x3.2.2.2.2.2.2.2.len x3.2.2.2.2.2.2.2.cap]
  none false none)
  fun (b2 : Nat) (S5 : St) =>
  evP tS (appendD E0 S5 22 22 (.slice x1.1.a x1.1.len x1.1.cap) (.slice (some ⟨b2, 0, none⟩) 1 1)) fun (s1 : Sl) (S6 : St) =>
  k1 ({ a := s1.a, len := s1.len, cap := s1.cap }, wrapI .i64 (x1.2.1 + 1), wrapI .i64 (x1.2.2.2 + 1), wrapI .i64 (x1.2.2.2 + 1)) S6))))
  (ifW (ltI x1.2.2.1 (↑(List.length s_0) : Int)) (k (.tuple #[.slice none 0 0, .int .i64 (wrapI .i64 (x1.2.1 + 1)), .int .i64 280]) S1)
  (k (.tuple #[.slice x1.1.a x1.1.len x1.1.cap, .int .i64 0, .int .i64 0]) S1)))
  ({ a := none, len := 0, cap := 0 }, 0, 0, 0) S
theorem w8 (s_0 : List UInt8) {S : St} {k : Value → St → Prop} (h : c8 s_0 S k) : WC E0 8 [.string ⟨s_0.toArray⟩] S k :=
  WC_den h8 rfl (by kernel_rfl) (by kernel_rfl : Tryz.f8.body = some (bodyOf Tryz.f8)) (by rw [show (denF E0 h8 Tryz.f8 (bodyOf Tryz.f8) [.string ⟨s_0.toArray⟩] S k) = c8 s_0 S k by kernel_rfl]; exact h)

/-! 9 wagonway/diary.Steps -/
noncomputable def h9 : Hn := (.n .no (.n .no (.n (.n .no (.n (.n .no .no (some ⟨[6, 7], [(3, .sc .sl), (8, .sc (.int .i64))], false⟩)) .no none) none) .no none) none) none)
def c9 (l_0 : Sl) (S : St) (k : Value → St → Prop) : Prop :=
  loopW
  (fun (k1 : Sl × Int → St → Prop) (x1 : Sl × Int) (S1 : St) =>
  ifW (ltI x1.2 (↑l_0.len : Int))
  (idxW l_0.a l_0.len x1.2 fun (b1 b2 : Nat) =>
  evV (TT.one (Ty.agg G38)) (loadV E0 S1 39 (.pointer (some ⟨b1, b2 + Int.toNat x1.2 * 8, none⟩))) fun (x2 : Int × Int × Int × Int × Int × Int × Int × Sl) =>
  newW S1
  (.cells
  [.int .i64 0, .int .i64 0, .int .i64 0, .int .i64 0, .int .i64 0, .int .u64 0, .int .i64 0, .slice none 0 0] none
  false none)
  fun (b3 : Nat) (S2 : St) =>
  evS (storeV E0 S2 39 (.pointer (some ⟨b3, 0, none⟩)) (sv G38 x2)) fun (S3 : St) =>
  ptrW (some ⟨b3, 0, none⟩) fun (b4 b5 : Nat) =>
  evV tS (loadV E0 S3 33 (.pointer (some ⟨b4, b5 + 7, none⟩))) fun (s1 : Sl) =>
  evP tS (appendD E0 S3 33 33 (.slice x1.1.a x1.1.len x1.1.cap) (.slice s1.a s1.len s1.cap)) fun (s2 : Sl) (S4 : St) =>
  k1 ({ a := s2.a, len := s2.len, cap := s2.cap }, wrapI .i64 (x1.2 + 1)) S4)
  (k (.slice x1.1.a x1.1.len x1.1.cap) S1))
  ({ a := none, len := 0, cap := 0 }, 0) S
theorem w9 (l_0 : Sl) {S : St} {k : Value → St → Prop} (h : c9 l_0 S k) : WC E0 9 [.slice l_0.a l_0.len l_0.cap] S k :=
  WC_den h9 rfl (by kernel_rfl) (by kernel_rfl : Tryz.f9.body = some (bodyOf Tryz.f9)) (by rw [show (denF E0 h9 Tryz.f9 (bodyOf Tryz.f9) [.slice l_0.a l_0.len l_0.cap] S k) = c9 l_0 S k by kernel_rfl]; exact h)

/-! 10 wagonway/diary.Of -/
noncomputable def h10 : Hn := (.n .no (.n .no (.n (.n .no (.n (.n (.n .no (.n .no (.n (.n (.n .no (.n .no .no (some ⟨[1, 5, 7, 9, 10, 11], [(23, .sc .bool)], false⟩)) none) .no none) .no none) none) none) .no (some ⟨[1, 9, 10], [(5, .sc .sl), (11, .sc (.int .i64))], false⟩)) .no none) none) .no none) none) none)
def c10 (l_0 : Sl) (robot_1 : Int) (S : St) (k : Value → St → Prop) : Prop :=
  evC E0 tS 9 [.slice l_0.a l_0.len l_0.cap] S fun (s1 : Sl) (S1 : St) =>
  loopW
  (fun (k1 : Sl × Int → St → Prop) (x1 : Sl × Int) (S2 : St) =>
  ifW (ltI x1.2 (↑s1.len : Int))
  (idxW s1.a s1.len x1.2 fun (b1 b2 : Nat) =>
  evV (TT.one (Ty.agg G40)) (loadV E0 S2 41 (.pointer (some ⟨b1, b2 + Int.toNat x1.2 * 3, none⟩))) fun (x2 : Int × Int × Int) =>
  newW S2 (.cells [.int .i64 0, .int .i64 0, .int .i64 0] none false none) fun (b3 : Nat) (S3 : St) =>
  evS (storeV E0 S3 41 (.pointer (some ⟨b3, 0, none⟩)) (sv G40 x2)) fun (S4 : St) =>
  joinW
  (fun (t1 : Bool) (S5 : St) =>
  ifW t1
  (ptrW (some ⟨b3, 0, none⟩) fun (b4 b5 : Nat) =>
  evV tI (loadV E0 S5 3 (.pointer (some ⟨b4, b5 + 2, none⟩))) fun (n1 : Int) =>
  newW S5 (.cells [.int .i64 n1] none false none) fun (b6 : Nat) (S6 : St) =>
  evP tS (appendD E0 S6 34 34 (.slice x1.1.a x1.1.len x1.1.cap) (.slice (some ⟨b6, 0, none⟩) 1 1)) fun (s2 : Sl) (S7 : St) =>
  k1 ({ a := s2.a, len := s2.len, cap := s2.cap }, wrapI .i64 (x1.2 + 1)) S7)
  (k1 ({ a := x1.1.a, len := x1.1.len, cap := x1.1.cap }, wrapI .i64 (x1.2 + 1)) S5))
  fun (k2 : Bool → St → Prop) =>
  ptrW (some ⟨b3, 0, none⟩) fun (b7 b8 : Nat) =>
  evV tI (loadV E0 S4 3 (.pointer (some ⟨b7, b8 + 0, none⟩))) fun (n2 : Int) =>
  ifW (eqI n2 3) (ptrW (some ⟨b3, 0, none⟩) fun (b9 b10 : Nat) => evV tI (loadV E0 S4 3 (.pointer (some ⟨b9, b10 + 1, none⟩))) fun (n3 : Int) => k2 (eqI n3 robot_1) S4)
  (k2 false S4))
  (k (.slice x1.1.a x1.1.len x1.1.cap) S2))
  ({ a := none, len := 0, cap := 0 }, 0) S1
theorem w10 (l_0 : Sl) (robot_1 : Int) {S : St} {k : Value → St → Prop} (h : c10 l_0 robot_1 S k) : WC E0 10 [.slice l_0.a l_0.len l_0.cap, .int .i64 robot_1] S k :=
  WC_den h10 rfl (by kernel_rfl) (by kernel_rfl : Tryz.f10.body = some (bodyOf Tryz.f10)) (by rw [show (denF E0 h10 Tryz.f10 (bodyOf Tryz.f10) [.slice l_0.a l_0.len l_0.cap, .int .i64 robot_1] S k) = c10 l_0 robot_1 S k by kernel_rfl]; exact h)

/-! 11 wagonway/wagonwayref28.All -/
noncomputable def h11 : Hn := (.n .no (.n .no (.n (.n .no (.n (.n .no .no (some ⟨[0, 1], [(5, .sc (.int .i64))], false⟩)) .no none) none) .no none) none) none)
def c11 (a_0 : Sl) (b_1 : Sl) (S : St) (k : Value → St → Prop) : Prop :=
  ifW (!eqI (↑a_0.len : Int) (↑b_1.len : Int)) (k (.bool false) S)
  (loopW
  (fun (k1 : Int → St → Prop) (n1 : Int) (S1 : St) =>
  ifW (ltI n1 (↑a_0.len : Int))
  (idxW a_0.a a_0.len n1 fun (b1 b2 : Nat) =>
  evV (TT.one (Ty.agg G38)) (loadV E0 S1 39 (.pointer (some ⟨b1, b2 + Int.toNat n1 * 8, none⟩))) fun (x1 : Int × Int × Int × Int × Int × Int × Int × Sl) =>
  idxW b_1.a b_1.len n1 fun (b3 b4 : Nat) =>
  evV (TT.one (Ty.agg G38)) (loadV E0 S1 39 (.pointer (some ⟨b3, b4 + Int.toNat n1 * 8, none⟩))) fun (x2 : Int × Int × Int × Int × Int × Int × Int × Sl) =>
  evC E0 tB 26 [sv G38 x1, sv G38 x2] S1 fun (t1 : Bool) (S2 : St) => ifW (!t1) (k (.bool false) S2) (k1 (wrapI .i64 (n1 + 1)) S2))
  (k (.bool true) S1))
  0 S)
theorem w11 (a_0 : Sl) (b_1 : Sl) {S : St} {k : Value → St → Prop} (h : c11 a_0 b_1 S k) : WC E0 11 [.slice a_0.a a_0.len a_0.cap, .slice b_1.a b_1.len b_1.cap] S k :=
  WC_den h11 rfl (by kernel_rfl) (by kernel_rfl : Tryz.f11.body = some (bodyOf Tryz.f11)) (by rw [show (denF E0 h11 Tryz.f11 (bodyOf Tryz.f11) [.slice a_0.a a_0.len a_0.cap, .slice b_1.a b_1.len b_1.cap] S k) = c11 a_0 b_1 S k by kernel_rfl]; exact h)

/-! 12 wagonway/wagonwayref24.Steps -/
noncomputable def h12 : Hn := (.n .no (.n .no (.n (.n .no (.n (.n .no .no (some ⟨[0, 1], [(5, .sc (.int .i64))], false⟩)) .no none) none) .no none) none) none)
def c12 (a_0 : Sl) (b_1 : Sl) (S : St) (k : Value → St → Prop) : Prop :=
  ifW (!eqI (↑a_0.len : Int) (↑b_1.len : Int)) (k (.bool false) S)
  (loopW
  (fun (k1 : Int → St → Prop) (n1 : Int) (S1 : St) =>
  ifW (ltI n1 (↑a_0.len : Int))
  (idxW a_0.a a_0.len n1 fun (b1 b2 : Nat) =>
  evV (TT.one (Ty.agg G40)) (loadV E0 S1 41 (.pointer (some ⟨b1, b2 + Int.toNat n1 * 3, none⟩))) fun (x1 : Int × Int × Int) =>
  idxW b_1.a b_1.len n1 fun (b3 b4 : Nat) =>
  evV (TT.one (Ty.agg G40)) (loadV E0 S1 41 (.pointer (some ⟨b3, b4 + Int.toNat n1 * 3, none⟩))) fun (x2 : Int × Int × Int) =>
  eqW E0 S1 41 (sv G40 x1) (sv G40 x2) fun (t1 : Bool) => ifW (!t1) (k (.bool false) S1) (k1 (wrapI .i64 (n1 + 1)) S1))
  (k (.bool true) S1))
  0 S)
theorem w12 (a_0 : Sl) (b_1 : Sl) {S : St} {k : Value → St → Prop} (h : c12 a_0 b_1 S k) : WC E0 12 [.slice a_0.a a_0.len a_0.cap, .slice b_1.a b_1.len b_1.cap] S k :=
  WC_den h12 rfl (by kernel_rfl) (by kernel_rfl : Tryz.f12.body = some (bodyOf Tryz.f12)) (by rw [show (denF E0 h12 Tryz.f12 (bodyOf Tryz.f12) [.slice a_0.a a_0.len a_0.cap, .slice b_1.a b_1.len b_1.cap] S k) = c12 a_0 b_1 S k by kernel_rfl]; exact h)

/-! 13 wagonway/wagonwayref01.Same -/
noncomputable def h13 : Hn := (.n .no (.n .no (.n (.n .no (.n (.n .no .no (some ⟨[0, 1], [(5, .sc (.int .i64))], false⟩)) .no none) none) .no none) none) none)
def c13 (a_0 : Sl) (b_1 : Sl) (S : St) (k : Value → St → Prop) : Prop :=
  ifW (!eqI (↑a_0.len : Int) (↑b_1.len : Int)) (k (.bool false) S)
  (loopW
  (fun (k1 : Int → St → Prop) (n1 : Int) (S1 : St) =>
  ifW (ltI n1 (↑a_0.len : Int))
  (idxW a_0.a a_0.len n1 fun (b1 b2 : Nat) =>
  evV tI (loadV E0 S1 3 (.pointer (some ⟨b1, b2 + Int.toNat n1 * 1, none⟩))) fun (n2 : Int) =>
  idxW b_1.a b_1.len n1 fun (b3 b4 : Nat) =>
  evV tI (loadV E0 S1 3 (.pointer (some ⟨b3, b4 + Int.toNat n1 * 1, none⟩))) fun (n3 : Int) => ifW (!eqI n2 n3) (k (.bool false) S1) (k1 (wrapI .i64 (n1 + 1)) S1))
  (k (.bool true) S1))
  0 S)
theorem w13 (a_0 : Sl) (b_1 : Sl) {S : St} {k : Value → St → Prop} (h : c13 a_0 b_1 S k) : WC E0 13 [.slice a_0.a a_0.len a_0.cap, .slice b_1.a b_1.len b_1.cap] S k :=
  WC_den h13 rfl (by kernel_rfl) (by kernel_rfl : Tryz.f13.body = some (bodyOf Tryz.f13)) (by rw [show (denF E0 h13 Tryz.f13 (bodyOf Tryz.f13) [.slice a_0.a a_0.len a_0.cap, .slice b_1.a b_1.len b_1.cap] S k) = c13 a_0 b_1 S k by kernel_rfl]; exact h)

/-! 14 slices.ContainsFunc[[]wagonway/api.Page,wagonway/api.Page] -/
noncomputable def h14 : Hn := .no
def c14 (s_0 : Sl) (f_1 : Value) (S : St) (k : Value → St → Prop) : Prop :=
  evC E0 tI 27 [.slice s_0.a s_0.len s_0.cap, f_1] S fun (n1 : Int) (S1 : St) => k (.bool (leI 0 n1)) S1
theorem w14 (s_0 : Sl) (f_1 : Value) {S : St} {k : Value → St → Prop} (h : c14 s_0 f_1 S k) : WC E0 14 [.slice s_0.a s_0.len s_0.cap, f_1] S k :=
  WC_den h14 rfl (by kernel_rfl) (by kernel_rfl : Tryz.f14.body = some (bodyOf Tryz.f14)) (by rw [show (denF E0 h14 Tryz.f14 (bodyOf Tryz.f14) [.slice s_0.a s_0.len s_0.cap, f_1] S k) = c14 s_0 f_1 S k by kernel_rfl]; exact h)

/-! 15 wagonway/diary.Text$1 -/
noncomputable def h15 : Hn := .no
def c15 (x_0 : Int × Int × Int × Int × Int × Int × Int × Sl) (S : St) (k : Value → St → Prop) : Prop :=
  newW S
  (.cells
  [.int .i64 x_0.1, .int .i64 x_0.2.1, .int .i64 x_0.2.2.1, .int .i64 x_0.2.2.2.1, .int .i64 x_0.2.2.2.2.1,
  .int .u64 x_0.2.2.2.2.2.1, .int .i64 x_0.2.2.2.2.2.2.1,
  .slice x_0.2.2.2.2.2.2.2.a x_0.2.2.2.2.2.2.2.len x_0.2.2.2.2.2.2.2.cap]
  none false none)
  fun (b1 : Nat) (S1 : St) =>
  evV (TT.one (Ty.agg G38)) (loadV E0 S1 39 (.pointer (some ⟨b1, 0, none⟩))) fun (x1 : Int × Int × Int × Int × Int × Int × Int × Sl) =>
  evC E0 tI 16 [sv G38 x1] S1 fun (n1 : Int) (S2 : St) => k (.bool !eqI n1 0) S2
theorem w15 (x_0 : Int × Int × Int × Int × Int × Int × Int × Sl) {S : St} {k : Value → St → Prop} (h : c15 x_0 S k) : WC E0 15 [sv G38 x_0] S k :=
  WC_den h15 rfl (by kernel_rfl) (by kernel_rfl : Tryz.f15.body = some (bodyOf Tryz.f15)) (by rw [show (denF E0 h15 Tryz.f15 (bodyOf Tryz.f15) [sv G38 x_0] S k) = c15 x_0 S k by kernel_rfl]; exact h)

/-! 16 wagonway/diary.Check -/
noncomputable def h16 : Hn := .no
def c16 (x_0 : Int × Int × Int × Int × Int × Int × Int × Sl) (S : St) (k : Value → St → Prop) : Prop :=
  newW S
  (.cells
  [.int .i64 x_0.1, .int .i64 x_0.2.1, .int .i64 x_0.2.2.1, .int .i64 x_0.2.2.2.1, .int .i64 x_0.2.2.2.2.1,
  .int .u64 x_0.2.2.2.2.2.1, .int .i64 x_0.2.2.2.2.2.2.1,
  .slice x_0.2.2.2.2.2.2.2.a x_0.2.2.2.2.2.2.2.len x_0.2.2.2.2.2.2.2.cap]
  none false none)
  fun (b1 : Nat) (S1 : St) =>
  ptrW (some ⟨b1, 0, none⟩) fun (b2 b3 : Nat) =>
  evV (TT.one (Ty.agg G36)) (loadV E0 S1 37 (.pointer (some ⟨b2, b3 + 0, none⟩))) fun (x1 : Int × Int × Int × Int × Int × Int) =>
  evC E0 tI 30 [sv G36 x1] S1 fun (n1 : Int) (S2 : St) =>
  ifW (!eqI n1 0) (k (.int .i64 280) S2)
  (ptrW (some ⟨b1, 0, none⟩) fun (b4 b5 : Nat) =>
  evV tI (loadV E0 S2 24 (.pointer (some ⟨b4, b5 + 6, none⟩))) fun (n2 : Int) =>
  ifW (ltI n2 0) (k (.int .i64 280) S2)
  (ptrW (some ⟨b1, 0, none⟩) fun (b6 b7 : Nat) =>
  evV tI (loadV E0 S2 24 (.pointer (some ⟨b6, b7 + 6, none⟩))) fun (n3 : Int) =>
  ifW (ltI 999 n3) (k (.int .i64 280) S2)
  (ptrW (some ⟨b1, 0, none⟩) fun (b8 b9 : Nat) =>
  evV tS (loadV E0 S2 33 (.pointer (some ⟨b8, b9 + 7, none⟩))) fun (s1 : Sl) =>
  ifW (ltI 1000 (↑s1.len : Int)) (k (.int .i64 280) S2)
  (ptrW (some ⟨b1, 0, none⟩) fun (b10 b11 : Nat) =>
  evV tI (loadV E0 S2 24 (.pointer (some ⟨b10, b11 + 6, none⟩))) fun (n4 : Int) =>
  ifW (!eqI n4 0)
  (ptrW (some ⟨b1, 0, none⟩) fun (b12 b13 : Nat) =>
  evV tS (loadV E0 S2 33 (.pointer (some ⟨b12, b13 + 7, none⟩))) fun (s2 : Sl) =>
  ifW (ltI 0 (↑s2.len : Int)) (k (.int .i64 280) S2)
  (ptrW (some ⟨b1, 0, none⟩) fun (b14 b15 : Nat) =>
  evV tS (loadV E0 S2 33 (.pointer (some ⟨b14, b15 + 7, none⟩))) fun (s3 : Sl) =>
  evC E0 tB 31 [.slice s3.a s3.len s3.cap, .func (Fn.func 28) #[] #[]] S2 fun (t1 : Bool) (S3 : St) =>
  ifW t1 (k (.int .i64 280) S3) (k (.int .i64 0) S3)))
  (ptrW (some ⟨b1, 0, none⟩) fun (b16 b17 : Nat) =>
  evV tS (loadV E0 S2 33 (.pointer (some ⟨b16, b17 + 7, none⟩))) fun (s4 : Sl) =>
  evC E0 tB 31 [.slice s4.a s4.len s4.cap, .func (Fn.func 28) #[] #[]] S2 fun (t2 : Bool) (S4 : St) =>
  ifW t2 (k (.int .i64 280) S4) (k (.int .i64 0) S4))))))
theorem w16 (x_0 : Int × Int × Int × Int × Int × Int × Int × Sl) {S : St} {k : Value → St → Prop} (h : c16 x_0 S k) : WC E0 16 [sv G38 x_0] S k :=
  WC_den h16 rfl (by kernel_rfl) (by kernel_rfl : Tryz.f16.body = some (bodyOf Tryz.f16)) (by rw [show (denF E0 h16 Tryz.f16 (bodyOf Tryz.f16) [sv G38 x_0] S k) = c16 x_0 S k by kernel_rfl]; exact h)

/-! 17 wagonway/diary.Line -/
noncomputable def h17 : Hn := (.n .no (.n .no (.n .no (.n .no (.n (.n .no (.n (.n .no .no (some ⟨[27, 28], [(7, .sc .sl), (29, .sc (.int .i64))], false⟩)) .no none) none) .no none) none) none) none) none)
def c17 (x_0 : Int × Int × Int × Int × Int × Int × Int × Sl) (S : St) (k : Value → St → Prop) : Prop :=
  newW S
  (.cells
  [.int .i64 x_0.1, .int .i64 x_0.2.1, .int .i64 x_0.2.2.1, .int .i64 x_0.2.2.2.1, .int .i64 x_0.2.2.2.2.1,
  .int .u64 x_0.2.2.2.2.2.1, .int .i64 x_0.2.2.2.2.2.2.1,
  .slice x_0.2.2.2.2.2.2.2.a x_0.2.2.2.2.2.2.2.len x_0.2.2.2.2.2.2.2.cap]
  none false none)
  fun (b1 : Nat) (S1 : St) =>
  evV (TT.one (Ty.agg G38)) (loadV E0 S1 39 (.pointer (some ⟨b1, 0, none⟩))) fun (x1 : Int × Int × Int × Int × Int × Int × Int × Sl) =>
  evC E0 tI 16 [sv G38 x1] S1 fun (n1 : Int) (S2 : St) =>
  ifW (!eqI n1 0) (k (.tuple #[.string { data := #[] }, .int .i64 n1]) S2)
  (ptrW (some ⟨b1, 0, none⟩) fun (b2 b3 : Nat) =>
  evV (TT.one (Ty.agg G36)) (loadV E0 S2 37 (.pointer (some ⟨b2, b3 + 0, none⟩))) fun (x2 : Int × Int × Int × Int × Int × Int) =>
  evC E0 (TT.tup [Ty.sc Sc.str, Ty.sc (Sc.int .i64)]) 32 [sv G36 x2] S2 fun (x3 : List UInt8 × Int) (S3 : St) =>
  ptrW (some ⟨b1, 0, none⟩) fun (b4 b5 : Nat) =>
  evV tI (loadV E0 S3 24 (.pointer (some ⟨b4, b5 + 6, none⟩))) fun (n2 : Int) =>
  evC E0 tT 33 [.int .i64 n2] S3 fun (l1 : List UInt8) (S4 : St) =>
  newW S4 (.cells [.string { data := List.toArray x3.1 }, .string { data := #[UInt8.ofNat 61] }, .string { data := List.toArray l1 }] none false none) fun (b6 : Nat) (S5 : St) =>
  ptrW (some ⟨b1, 0, none⟩) fun (b7 b8 : Nat) =>
  evV tS (loadV E0 S5 33 (.pointer (some ⟨b7, b8 + 7, none⟩))) fun (s1 : Sl) =>
  loopW
  (fun (k1 : Sl × Int → St → Prop) (x4 : Sl × Int) (S6 : St) =>
  ifW (ltI x4.2 (↑s1.len : Int))
  (idxW s1.a s1.len x4.2 fun (b9 b10 : Nat) =>
  evV (TT.one (Ty.agg G40)) (loadV E0 S6 41 (.pointer (some ⟨b9, b10 + Int.toNat x4.2 * 3, none⟩))) fun (x5 : Int × Int × Int) =>
  newW S6 (.cells [.int .i64 0, .int .i64 0, .int .i64 0] none false none) fun (b11 : Nat) (S7 : St) =>
  evS (storeV E0 S7 41 (.pointer (some ⟨b11, 0, none⟩)) (sv G40 x5)) fun (S8 : St) =>
  ptrW (some ⟨b11, 0, none⟩) fun (b12 b13 : Nat) =>
  evV tI (loadV E0 S8 3 (.pointer (some ⟨b12, b13 + 0, none⟩))) fun (n3 : Int) =>
  idxW (some ⟨0, 0, none⟩) 4 n3 fun (b14 b15 : Nat) =>
  evV tT (loadV E0 S8 9 (.pointer (some ⟨b14, b15 + Int.toNat n3 * 1, none⟩))) fun (l2 : List UInt8) =>
  evV tT (catD { data := List.toArray l2 } { data := #[UInt8.ofNat 58] }) fun (l3 : List UInt8) =>
  ptrW (some ⟨b11, 0, none⟩) fun (b16 b17 : Nat) =>
  evV tI (loadV E0 S8 3 (.pointer (some ⟨b16, b17 + 1, none⟩))) fun (n4 : Int) =>
  evC E0 tT 33 [.int .i64 n4] S8 fun (l4 : List UInt8) (S9 : St) =>
  evV tT (loadV E0 S9 9 (.pointer (some ⟨b14, b15 + Int.toNat n3 * 1, none⟩))) fun (l5 : List UInt8) =>
  sameV (.string { data := List.toArray l5 }) (.string { data := List.toArray l2 })
  (evV tI (loadV E0 S9 3 (.pointer (some ⟨b12, b13 + 0, none⟩))) fun (n5 : Int) =>
  sameV (.int .i64 n5) (.int .i64 n3)
  (evV tT (catD { data := List.toArray l3 } { data := List.toArray l4 }) fun (l6 : List UInt8) =>
  evV tT (catD { data := List.toArray l6 } { data := #[UInt8.ofNat 58] }) fun (l7 : List UInt8) =>
  ptrW (some ⟨b11, 0, none⟩) fun (b18 b19 : Nat) =>
  evV tI (loadV E0 S9 3 (.pointer (some ⟨b18, b19 + 2, none⟩))) fun (n6 : Int) =>
  evV tI (loadV E0 S8 3 (.pointer (some ⟨b18, b19 + 2, none⟩))) fun (n7 : Int) =>
  sameV (.int .i64 n7) (.int .i64 n6)
  (evC E0 tT 33 [.int .i64 n6] S9 fun (l8 : List UInt8) (S10 : St) =>
  evV tT (loadV E0 S10 9 (.pointer (some ⟨b14, b15 + Int.toNat n3 * 1, none⟩))) fun (l9 : List UInt8) =>
  sameV (.string { data := List.toArray l9 }) (.string { data := List.toArray l2 })
  (evV tI (loadV E0 S10 3 (.pointer (some ⟨b12, b13 + 0, none⟩))) fun (n8 : Int) =>
  sameV (.int .i64 n8) (.int .i64 n3)
  (evV tT (catD { data := List.toArray l7 } { data := List.toArray l8 }) fun (l10 : List UInt8) =>
  newW S10 (.cells [.string { data := List.toArray l10 }] none false none) fun (b20 : Nat) (S11 : St) =>
  evP tS (appendD E0 S11 78 78 (.slice x4.1.a x4.1.len x4.1.cap) (.slice (some ⟨b20, 0, none⟩) 1 1))
  fun (s2 : Sl) (S12 : St) => k1 ({ a := s2.a, len := s2.len, cap := s2.cap }, wrapI .i64 (x4.2 + 1)) S12))))))
  (evC E0 tT 34 [.slice x4.1.a x4.1.len x4.1.cap, .string { data := #[UInt8.ofNat 32] }] S6 fun (l11 : List UInt8) (S13 : St) =>
  k (.tuple #[.string { data := List.toArray l11 }, .int .i64 0]) S13))
  ({ a := some ⟨b6, 0, none⟩, len := 3, cap := 3 }, 0) S5)
theorem w17 (x_0 : Int × Int × Int × Int × Int × Int × Int × Sl) {S : St} {k : Value → St → Prop} (h : c17 x_0 S k) : WC E0 17 [sv G38 x_0] S k :=
  WC_den h17 rfl (by kernel_rfl) (by kernel_rfl : Tryz.f17.body = some (bodyOf Tryz.f17)) (by rw [show (denF E0 h17 Tryz.f17 (bodyOf Tryz.f17) [sv G38 x_0] S k) = c17 x_0 S k by kernel_rfl]; exact h)

/-! 18 (*strings.Builder).WriteString -/
noncomputable def h18 : Hn := .no
def c18 (b_0 : Option Addr) (s_1 : List UInt8) (S : St) (k : Value → St → Prop) : Prop :=
  evC E0 (TT.tup []) 35 [.pointer b_0] S fun (x1 : PUnit) (S1 : St) =>
  ptrW b_0 fun (b1 b2 : Nat) =>
  ptrW (some ⟨b1, b2, none⟩) fun (b3 b4 : Nat) =>
  evV tS (loadV E0 S1 52 (.pointer (some ⟨b3, b4 + 1, none⟩))) fun (s1 : Sl) =>
  evP tS (appendD E0 S1 52 9 (.slice s1.a s1.len s1.cap) (.string { data := List.toArray s_1 })) fun (s2 : Sl) (S2 : St) =>
  ptrW b_0 fun (b5 b6 : Nat) =>
  ptrW (some ⟨b5, b6, none⟩) fun (b7 b8 : Nat) =>
  evS (storeV E0 S2 52 (.pointer (some ⟨b7, b8 + 1, none⟩)) (.slice s2.a s2.len s2.cap)) fun (S3 : St) =>
  k (.tuple #[.int .i64 (↑(List.length s_1) : Int), Value.nilIface]) S3
theorem w18 (b_0 : Option Addr) (s_1 : List UInt8) {S : St} {k : Value → St → Prop} (h : c18 b_0 s_1 S k) : WC E0 18 [.pointer b_0, .string ⟨s_1.toArray⟩] S k :=
  WC_den h18 rfl (by kernel_rfl) (by kernel_rfl : Tryz.f18.body = some (bodyOf Tryz.f18)) (by rw [show (denF E0 h18 Tryz.f18 (bodyOf Tryz.f18) [.pointer b_0, .string ⟨s_1.toArray⟩] S k) = c18 b_0 s_1 S k by kernel_rfl]; exact h)

/-! 20 wagonway/wagonwayref28.Line -/
noncomputable def h20 : Hn := (.n .no (.n .no (.n .no (.n .no (.n .no (.n (.n .no (.n (.n .no .no (some ⟨[1], [(5, .sc .str), (7, .sc (.int .i64))], false⟩)) .no none) none) .no none) none) none) none) none) none)
def c20 (x_0 : Int × Int × Int × Int × Int × Int × Int × Sl) (S : St) (k : Value → St → Prop) : Prop :=
  newW S
  (.cells
  [.int .i64 x_0.1, .int .i64 x_0.2.1, .int .i64 x_0.2.2.1, .int .i64 x_0.2.2.2.1, .int .i64 x_0.2.2.2.2.1,
  .int .u64 x_0.2.2.2.2.2.1, .int .i64 x_0.2.2.2.2.2.2.1,
  .slice x_0.2.2.2.2.2.2.2.a x_0.2.2.2.2.2.2.2.len x_0.2.2.2.2.2.2.2.cap]
  none false none)
  fun (b1 : Nat) (S1 : St) =>
  evV (TT.one (Ty.agg G38)) (loadV E0 S1 39 (.pointer (some ⟨b1, 0, none⟩))) fun (x1 : Int × Int × Int × Int × Int × Int × Int × Sl) =>
  evC E0 tB 36 [sv G38 x1] S1 fun (t1 : Bool) (S2 : St) =>
  ifW (!t1) (k (.tuple #[.string { data := #[] }, .int .i64 280]) S2)
  (ptrW (some ⟨b1, 0, none⟩) fun (b2 b3 : Nat) =>
  evV (TT.one (Ty.agg G36)) (loadV E0 S2 37 (.pointer (some ⟨b2, b3 + 0, none⟩))) fun (x2 : Int × Int × Int × Int × Int × Int) =>
  evC E0 (TT.tup [Ty.sc Sc.str, Ty.sc (Sc.int .i64)]) 37 [sv G36 x2] S2 fun (x3 : List UInt8 × Int) (S3 : St) =>
  evV tT (catD { data := List.toArray x3.1 } { data := #[UInt8.ofNat 32, UInt8.ofNat 61, UInt8.ofNat 32] }) fun (l1 : List UInt8) =>
  ptrW (some ⟨b1, 0, none⟩) fun (b4 b5 : Nat) =>
  evV tI (loadV E0 S3 24 (.pointer (some ⟨b4, b5 + 6, none⟩))) fun (n1 : Int) =>
  evC E0 tT 38 [.int .i64 n1] S3 fun (l2 : List UInt8) (S4 : St) =>
  evV tT (catD { data := List.toArray l1 } { data := List.toArray l2 }) fun (l3 : List UInt8) =>
  loopW
  (fun (k1 : List UInt8 × Int → St → Prop) (x4 : List UInt8 × Int) (S5 : St) =>
  ptrW (some ⟨b1, 0, none⟩) fun (b6 b7 : Nat) =>
  evV tS (loadV E0 S5 33 (.pointer (some ⟨b6, b7 + 7, none⟩))) fun (s1 : Sl) =>
  ifW (ltI x4.2 (↑s1.len : Int))
  (evV tT (catD { data := List.toArray x4.1 } { data := #[UInt8.ofNat 32] }) fun (l4 : List UInt8) =>
  ptrW (some ⟨b1, 0, none⟩) fun (b8 b9 : Nat) =>
  evV tS (loadV E0 S5 33 (.pointer (some ⟨b8, b9 + 7, none⟩))) fun (s2 : Sl) =>
  idxW s2.a s2.len x4.2 fun (b10 b11 : Nat) =>
  ptrW (some ⟨b10, b11 + Int.toNat x4.2 * 3, none⟩) fun (b12 b13 : Nat) =>
  evV tI (loadV E0 S5 3 (.pointer (some ⟨b12, b13 + 0, none⟩))) fun (n2 : Int) =>
  evC E0 tT 39 [.int .i64 n2] S5 fun (l5 : List UInt8) (S6 : St) =>
  evV tT (catD { data := List.toArray l4 } { data := List.toArray l5 }) fun (l6 : List UInt8) =>
  evV tT (catD { data := List.toArray l6 } { data := #[UInt8.ofNat 58] }) fun (l7 : List UInt8) =>
  ptrW (some ⟨b1, 0, none⟩) fun (b14 b15 : Nat) =>
  evV tS (loadV E0 S6 33 (.pointer (some ⟨b14, b15 + 7, none⟩))) fun (s3 : Sl) =>
  evV tS (loadV E0 S5 33 (.pointer (some ⟨b14, b15 + 7, none⟩))) fun (s4 : Sl) =>
  sameV (.slice s4.a s4.len s4.cap) (.slice s3.a s3.len s3.cap)
  (idxW s3.a s3.len x4.2 fun (b16 b17 : Nat) =>
  ptrW (some ⟨b16, b17 + Int.toNat x4.2 * 3, none⟩) fun (b18 b19 : Nat) =>
  evV tI (loadV E0 S6 3 (.pointer (some ⟨b18, b19 + 1, none⟩))) fun (n3 : Int) =>
  evV tI (loadV E0 S5 3 (.pointer (some ⟨b18, b19 + 1, none⟩))) fun (n4 : Int) =>
  sameV (.int .i64 n4) (.int .i64 n3)
  (evC E0 tT 38 [.int .i64 n3] S6 fun (l8 : List UInt8) (S7 : St) =>
  evV tT (catD { data := List.toArray l7 } { data := List.toArray l8 }) fun (l9 : List UInt8) =>
  evV tT (catD { data := List.toArray l9 } { data := #[UInt8.ofNat 58] }) fun (l10 : List UInt8) =>
  ptrW (some ⟨b1, 0, none⟩) fun (b20 b21 : Nat) =>
  evV tS (loadV E0 S7 33 (.pointer (some ⟨b20, b21 + 7, none⟩))) fun (s5 : Sl) =>
  evV tS (loadV E0 S6 33 (.pointer (some ⟨b20, b21 + 7, none⟩))) fun (s6 : Sl) =>
  sameV (.slice s6.a s6.len s6.cap) (.slice s5.a s5.len s5.cap)
  (evV tS (loadV E0 S5 33 (.pointer (some ⟨b20, b21 + 7, none⟩))) fun (s7 : Sl) =>
  sameV (.slice s7.a s7.len s7.cap) (.slice s5.a s5.len s5.cap)
  (idxW s5.a s5.len x4.2 fun (b22 b23 : Nat) =>
  ptrW (some ⟨b22, b23 + Int.toNat x4.2 * 3, none⟩) fun (b24 b25 : Nat) =>
  evV tI (loadV E0 S7 3 (.pointer (some ⟨b24, b25 + 2, none⟩))) fun (n5 : Int) =>
  evV tI (loadV E0 S6 3 (.pointer (some ⟨b24, b25 + 2, none⟩))) fun (n6 : Int) =>
  sameV (.int .i64 n6) (.int .i64 n5)
  (evV tI (loadV E0 S5 3 (.pointer (some ⟨b24, b25 + 2, none⟩))) fun (n7 : Int) =>
  sameV (.int .i64 n7) (.int .i64 n5)
  (evC E0 tT 38 [.int .i64 n5] S7 fun (l11 : List UInt8) (S8 : St) =>
  evV tT (catD { data := List.toArray l10 } { data := List.toArray l11 }) fun (l12 : List UInt8) =>
  k1 (l12, wrapI .i64 (x4.2 + 1)) S8)))))))
  (k (.tuple #[.string { data := List.toArray x4.1 }, .int .i64 0]) S5))
  (l3, 0) S4)
theorem w20 (x_0 : Int × Int × Int × Int × Int × Int × Int × Sl) {S : St} {k : Value → St → Prop} (h : c20 x_0 S k) : WC E0 20 [sv G38 x_0] S k :=
  WC_den h20 rfl (by kernel_rfl) (by kernel_rfl : Tryz.f20.body = some (bodyOf Tryz.f20)) (by rw [show (denF E0 h20 Tryz.f20 (bodyOf Tryz.f20) [sv G38 x_0] S k) = c20 x_0 S k by kernel_rfl]; exact h)

/-! 21 strings.Lines -/
noncomputable def h21 : Hn := .no
def c21 (s_0 : List UInt8) (S : St) (k : Value → St → Prop) : Prop :=
  newW S (.cells [.string { data := List.toArray s_0 }] none false none) fun (b1 : Nat) (S1 : St) => k (.func (Fn.func 40) #[] #[.pointer (some ⟨b1, 0, none⟩)]) S1
theorem w21 (s_0 : List UInt8) {S : St} {k : Value → St → Prop} (h : c21 s_0 S k) : WC E0 21 [.string ⟨s_0.toArray⟩] S k :=
  WC_den h21 rfl (by kernel_rfl) (by kernel_rfl : Tryz.f21.body = some (bodyOf Tryz.f21)) (by rw [show (denF E0 h21 Tryz.f21 (bodyOf Tryz.f21) [.string ⟨s_0.toArray⟩] S k) = c21 s_0 S k by kernel_rfl]; exact h)

/-! 22 wagonway/diary.Read -/
noncomputable def h22 : Hn := (.n .no (.n (.n .no (.n .no (.n .no (.n .no (.n .no (.n .no (.n .no (.n .no (.n (.n .no (.n (.n .no .no (some ⟨[], [(43, .agg [(.int .i64), (.int .i64), (.int .i64)])], false⟩)) .no none) none) .no (some ⟨[0, 2, 8, 11], [], true⟩)) none) none) none) none) none) none) none) none) .no none) none)
def c22 (s_0 : List UInt8) (S : St) (k : Value → St → Prop) : Prop :=
  newW S
  (.cells [.int .i64 0, .int .i64 0, .int .i64 0, .int .i64 0, .int .i64 0, .int .u64 0, .int .i64 0, .slice none 0 0] none
  false none)
  fun (b1 : Nat) (S1 : St) =>
  evC E0 (TT.tup [Ty.sc Sc.str, Ty.sc Sc.str, Ty.sc Sc.bool]) 42 [.string { data := List.toArray s_0 }, .string { data := #[UInt8.ofNat 32, UInt8.ofNat 61, UInt8.ofNat 32] }] S1
  fun (x1 : List UInt8 × List UInt8 × Bool) (S2 : St) =>
  ifW (!x1.2.2)
  (evS
  (storeV E0 S2 39 (.pointer (some ⟨b1, 0, none⟩))
  (.agg
  #[.int .i64 0, .int .i64 0, .int .i64 0, .int .i64 0, .int .i64 0, .int .u64 0, .int .i64 0, .slice none 0 0]))
  fun (S3 : St) =>
  evV (TT.one (Ty.agg G38)) (loadV E0 S3 39 (.pointer (some ⟨b1, 0, none⟩))) fun (x2 : Int × Int × Int × Int × Int × Int × Int × Sl) => k (.tuple #[sv G38 x2, .int .i64 280]) S3)
  (evC E0 tS 43 [.string { data := List.toArray x1.2.1 }, .string { data := #[UInt8.ofNat 32] }] S2 fun (s1 : Sl) (S4 : St) =>
  idxW s1.a s1.len 0 fun (b2 b3 : Nat) =>
  evV tT (loadV E0 S4 9 (.pointer (some ⟨b2, b3 + Int.toNat 0 * 1, none⟩))) fun (l1 : List UInt8) =>
  evC E0 tI 44 [.string { data := List.toArray l1 }] S4 fun (n1 : Int) (S5 : St) =>
  newW S5
  (.cells
  [.int .i64 0, .int .i64 0, .int .i64 0, .int .i64 0, .int .i64 0, .int .u64 0, .int .i64 0, .slice none 0 0] none
  false none)
  fun (b4 : Nat) (S6 : St) =>
  evS
  (storeV E0 S6 39 (.pointer (some ⟨b4, 0, none⟩))
  (.agg
  #[.int .i64 0, .int .i64 0, .int .i64 0, .int .i64 0, .int .i64 0, .int .u64 0, .int .i64 n1,
  .slice none 0 0]))
  fun (S7 : St) =>
  evC E0 (TT.tup [Ty.agg G36, Ty.sc (Sc.int .i64)]) 45 [.string { data := List.toArray x1.1 }] S7 fun (x3 : (Int × Int × Int × Int × Int × Int) × Int) (S8 : St) =>
  newW S8 (.cells [.int .i64 0, .int .i64 0, .int .i64 0, .int .i64 0, .int .i64 0, .int .u64 0] none false none)
  fun (b5 : Nat) (S9 : St) =>
  evS (storeV E0 S9 37 (.pointer (some ⟨b5, 0, none⟩)) (sv G36 x3.1)) fun (S10 : St) =>
  evV (TT.one (Ty.agg G36)) (loadV E0 S10 37 (.pointer (some ⟨b5, 0, none⟩))) fun (x4 : Int × Int × Int × Int × Int × Int) =>
  ptrW (some ⟨b4, 0, none⟩) fun (b6 b7 : Nat) =>
  evS (storeV E0 S10 37 (.pointer (some ⟨b6, b7 + 0, none⟩)) (sv G36 x4)) fun (S11 : St) =>
  newW S11 (.cells [.bool false] none false none) fun (b8 : Nat) (S12 : St) =>
  evS (storeV E0 S12 4 (.pointer (some ⟨b8, 0, none⟩)) (.bool (eqI x3.2 0))) fun (S13 : St) =>
  joinW
  (fun (x5 : List Nat × PUnit) (S14 : St) =>
  evV (TT.one (Ty.agg G38)) (loadV E0 S14 39 (.pointer (some ⟨b4, 0, none⟩))) fun (x6 : Int × Int × Int × Int × Int × Int × Int × Sl) =>
  evC E0 (TT.tup [Ty.sc Sc.str, Ty.sc (Sc.int .i64)]) 17 [sv G38 x6] S14 fun (x7 : List UInt8 × Int) (S15 : St) =>
  evV tB (loadV E0 S15 4 (.pointer (some ⟨b8, 0, none⟩))) fun (t1 : Bool) =>
  ifW (!t1)
  (evS
  (storeV E0 S15 39 (.pointer (some ⟨b1, 0, none⟩))
  (.agg
  #[.int .i64 0, .int .i64 0, .int .i64 0, .int .i64 0, .int .i64 0, .int .u64 0,
  .int .i64 0, .slice none 0 0]))
  fun (S16 : St) =>
  shutW x5.1 S16 fun (S17 : St) =>
  evV (TT.one (Ty.agg G38)) (loadV E0 S17 39 (.pointer (some ⟨b1, 0, none⟩))) fun (x8 : Int × Int × Int × Int × Int × Int × Int × Sl) =>
  k (.tuple #[sv G38 x8, .int .i64 280]) S17)
  (ifW (!eqI x7.2 0)
  (evS
  (storeV E0 S15 39 (.pointer (some ⟨b1, 0, none⟩))
  (.agg
  #[.int .i64 0, .int .i64 0, .int .i64 0, .int .i64 0, .int .i64 0, .int .u64 0,
  .int .i64 0, .slice none 0 0]))
  fun (S18 : St) =>
  shutW x5.1 S18 fun (S19 : St) =>
  evV (TT.one (Ty.agg G38)) (loadV E0 S19 39 (.pointer (some ⟨b1, 0, none⟩))) fun (x9 : Int × Int × Int × Int × Int × Int × Int × Sl) =>
  k (.tuple #[sv G38 x9, .int .i64 280]) S19)
  (ifW (!x7.1 == s_0)
  (evS
  (storeV E0 S15 39 (.pointer (some ⟨b1, 0, none⟩))
  (.agg
  #[.int .i64 0, .int .i64 0, .int .i64 0, .int .i64 0, .int .i64 0, .int .u64 0,
  .int .i64 0, .slice none 0 0]))
  fun (S20 : St) =>
  shutW x5.1 S20 fun (S21 : St) =>
  evV (TT.one (Ty.agg G38)) (loadV E0 S21 39 (.pointer (some ⟨b1, 0, none⟩))) fun (x10 : Int × Int × Int × Int × Int × Int × Int × Sl) =>
  k (.tuple #[sv G38 x10, .int .i64 280]) S21)
  (evV (TT.one (Ty.agg G38)) (loadV E0 S15 39 (.pointer (some ⟨b4, 0, none⟩))) fun (x11 : Int × Int × Int × Int × Int × Int × Int × Sl) =>
  evS (storeV E0 S15 39 (.pointer (some ⟨b1, 0, none⟩)) (sv G38 x11)) fun (S22 : St) =>
  shutW x5.1 S22 fun (S23 : St) =>
  evV (TT.one (Ty.agg G38)) (loadV E0 S23 39 (.pointer (some ⟨b1, 0, none⟩))) fun (x12 : Int × Int × Int × Int × Int × Int × Int × Sl) =>
  k (.tuple #[sv G38 x12, .int .i64 0]) S23))))
  fun (k1 : List Nat × PUnit → St → Prop) =>
  evV tS (sliceD E0 S13 78 (.slice s1.a s1.len s1.cap) (some (.int .i64 1)) none none) fun (s2 : Sl) =>
  evC E0 tA 46 [.slice s2.a s2.len s2.cap] S13 fun (v1 : Value) (S24 : St) =>
  newW S24 DObj.deferred fun (b9 : Nat) (S25 : St) =>
  ∀ (b10 : Nat) (S26 : St) (k2 : LoopState → Option Code → DObj),
  b10 = S25.next →
  S26 = (St.alloc S25 (k2 LoopState.ready none)).2 →
  (LoopL fun (x13 : LoopState) (p1 : Option Code) => k2 x13 p1) →
  (RoundH E0 b10 [Ty.agg [Sc.int .i64, Sc.int .i64, Sc.int .i64]] fun (x14 : Int × Int × Int) (S27 : St) (k3 : Bool → St → Prop) =>
  hasW S27 b10 (k2 LoopState.ready none)
  (newW S27 (.cells [.int .i64 0, .int .i64 0, .int .i64 0] none false none) fun (b11 : Nat) (S28 : St) =>
  evS (storeV E0 S28 41 (.pointer (some ⟨b11, 0, none⟩)) (sv G40 x14)) fun (S29 : St) =>
  hasW S29 b10 (k2 LoopState.ready none)
  (updW S29 b10 (k2 LoopState.busy none) fun (S30 : St) =>
  evV tB (loadV E0 S30 4 (.pointer (some ⟨b8, 0, none⟩))) fun (t2 : Bool) =>
  ifW t2
  (evV (TT.one (Ty.agg G40)) (loadV E0 S30 41 (.pointer (some ⟨b11, 0, none⟩))) fun (x15 : Int × Int × Int) =>
  evC E0 tB 29 [sv G40 x15] S30 fun (t3 : Bool) (S31 : St) =>
  evS (storeV E0 S31 4 (.pointer (some ⟨b8, 0, none⟩)) (.bool t3)) fun (S32 : St) =>
  evV tB (loadV E0 S32 4 (.pointer (some ⟨b8, 0, none⟩))) fun (t4 : Bool) =>
  ifW (!t4) (hasW S32 b10 (k2 LoopState.busy none) (updW S32 b10 (k2 LoopState.done (some (Code.exit 0))) fun (S33 : St) => k3 false S33))
  (ptrW (some ⟨b4, 0, none⟩) fun (b12 b13 : Nat) =>
  evV tS (loadV E0 S32 33 (.pointer (some ⟨b12, b13 + 7, none⟩))) fun (s3 : Sl) =>
  evV (TT.one (Ty.agg G40)) (loadV E0 S32 41 (.pointer (some ⟨b11, 0, none⟩))) fun (x16 : Int × Int × Int) =>
  newW S32
  (.cells [.int .i64 x16.1, .int .i64 x16.2.1, .int .i64 x16.2.2] none false none)
  fun (b14 : Nat) (S34 : St) =>
  evP tS (appendD E0 S34 33 33 (.slice s3.a s3.len s3.cap) (.slice (some ⟨b14, 0, none⟩) 1 1))
  fun (s4 : Sl) (S35 : St) =>
  ptrW (some ⟨b4, 0, none⟩) fun (b15 b16 : Nat) =>
  evS (storeV E0 S35 33 (.pointer (some ⟨b15, b16 + 7, none⟩)) (.slice s4.a s4.len s4.cap)) fun (S36 : St) =>
  hasW S36 b10 (k2 LoopState.busy none) (updW S36 b10 (k2 LoopState.ready none) fun (S37 : St) => k3 true S37)))
  (evS (storeV E0 S30 4 (.pointer (some ⟨b8, 0, none⟩)) (.bool false)) fun (S38 : St) =>
  evV tB (loadV E0 S38 4 (.pointer (some ⟨b8, 0, none⟩))) fun (t5 : Bool) =>
  ifW (!t5) (hasW S38 b10 (k2 LoopState.busy none) (updW S38 b10 (k2 LoopState.done (some (Code.exit 0))) fun (S39 : St) => k3 false S39))
  (ptrW (some ⟨b4, 0, none⟩) fun (b17 b18 : Nat) =>
  evV tS (loadV E0 S38 33 (.pointer (some ⟨b17, b18 + 7, none⟩))) fun (s5 : Sl) =>
  evV (TT.one (Ty.agg G40)) (loadV E0 S38 41 (.pointer (some ⟨b11, 0, none⟩))) fun (x17 : Int × Int × Int) =>
  newW S38 (.cells [.int .i64 x17.1, .int .i64 x17.2.1, .int .i64 x17.2.2] none false none)
  fun (b19 : Nat) (S40 : St) =>
  evP tS (appendD E0 S40 33 33 (.slice s5.a s5.len s5.cap) (.slice (some ⟨b19, 0, none⟩) 1 1))
  fun (s6 : Sl) (S41 : St) =>
  ptrW (some ⟨b4, 0, none⟩) fun (b20 b21 : Nat) =>
  evS (storeV E0 S41 33 (.pointer (some ⟨b20, b21 + 7, none⟩)) (.slice s6.a s6.len s6.cap)) fun (S42 : St) =>
  hasW S42 b10 (k2 LoopState.busy none) (updW S42 b10 (k2 LoopState.ready none) fun (S43 : St) => k3 true S43)))))) →
  WG E0 v1 b10 S26 fun (S44 : St) =>
  hasW S44 b10 (k2 LoopState.ready none) (updW S44 b10 (k2 LoopState.exhausted none) fun (S45 : St) => k1 ([b9], PUnit.unit) S45) ∨
  hasW S44 b10 (k2 LoopState.done (some (Code.exit 0))) (updW S44 b10 (k2 LoopState.exhausted (some (Code.exit 0))) fun (S46 : St) => k1 ([b9], PUnit.unit) S46) ∨
  False)
theorem w22 (s_0 : List UInt8) {S : St} {k : Value → St → Prop} (h : c22 s_0 S k) : WC E0 22 [.string ⟨s_0.toArray⟩] S k :=
  WC_den h22 rfl (by kernel_rfl) (by kernel_rfl : Tryz.f22.body = some (bodyOf Tryz.f22)) (by rw [show (denF E0 h22 Tryz.f22 (bodyOf Tryz.f22) [.string ⟨s_0.toArray⟩] S k) = c22 s_0 S k by kernel_rfl]; exact h)

/-! 23 strings.TrimSuffix -/
noncomputable def h23 : Hn := .no
def c23 (s_0 : List UInt8) (suffix_1 : List UInt8) (S : St) (k : Value → St → Prop) : Prop :=
  evC E0 tT 47 [.string { data := List.toArray s_0 }, .string { data := List.toArray suffix_1 }] S fun (l1 : List UInt8) (S1 : St) => k (.string { data := List.toArray l1 }) S1
theorem w23 (s_0 : List UInt8) (suffix_1 : List UInt8) {S : St} {k : Value → St → Prop} (h : c23 s_0 suffix_1 S k) : WC E0 23 [.string ⟨s_0.toArray⟩, .string ⟨suffix_1.toArray⟩] S k :=
  WC_den h23 rfl (by kernel_rfl) (by kernel_rfl : Tryz.f23.body = some (bodyOf Tryz.f23)) (by rw [show (denF E0 h23 Tryz.f23 (bodyOf Tryz.f23) [.string ⟨s_0.toArray⟩, .string ⟨suffix_1.toArray⟩] S k) = c23 s_0 suffix_1 S k by kernel_rfl]; exact h)

/-! 24 strings.HasSuffix -/
noncomputable def h24 : Hn := .no
def c24 (s_0 : List UInt8) (suffix_1 : List UInt8) (S : St) (k : Value → St → Prop) : Prop :=
  evC E0 tB 48 [.string { data := List.toArray s_0 }, .string { data := List.toArray suffix_1 }] S fun (t1 : Bool) (S1 : St) => k (.bool t1) S1
theorem w24 (s_0 : List UInt8) (suffix_1 : List UInt8) {S : St} {k : Value → St → Prop} (h : c24 s_0 suffix_1 S k) : WC E0 24 [.string ⟨s_0.toArray⟩, .string ⟨suffix_1.toArray⟩] S k :=
  WC_den h24 rfl (by kernel_rfl) (by kernel_rfl : Tryz.f24.body = some (bodyOf Tryz.f24)) (by rw [show (denF E0 h24 Tryz.f24 (bodyOf Tryz.f24) [.string ⟨s_0.toArray⟩, .string ⟨suffix_1.toArray⟩] S k) = c24 s_0 suffix_1 S k by kernel_rfl]; exact h)

/-! 25 wagonway/wagonwayref28.Read -/
noncomputable def h25 : Hn := (.n .no (.n .no (.n .no (.n (.n .no (.n (.n .no .no (some ⟨[0, 2, 4], [(5, .sc (.int .i64)), (6, .sc (.int .i64))], false⟩)) .no none) none) (.n .no (.n .no (.n (.n .no (.n (.n .no .no (some ⟨[0, 2, 4, 5], [(7, .sc .str), (8, .sc (.int .i64))], false⟩)) .no none) none) (.n .no (.n .no (.n .no (.n (.n .no (.n (.n (.n .no (.n (.n (.n .no (.n (.n (.n .no .no (some ⟨[0, 2, 4, 11, 12], [(13, .sc .sl)], false⟩)) .no none) (.n .no (.n (.n .no (.n (.n .no .no (some ⟨[0, 2, 4, 11, 12, 13, 14], [(15, .sc (.int .i64))], false⟩)) .no none) none) .no none) none) none) none) .no none) .no none) none) .no (some ⟨[0, 2, 4, 11], [(12, .sc (.int .i64))], false⟩)) .no none) none) .no none) none) none) none) none) none) none) none) none) none) none)
def c25 (s_0 : List UInt8) (S : St) (k : Value → St → Prop) : Prop :=
  newW S
  (.cells [.int .i64 0, .int .i64 0, .int .i64 0, .int .i64 0, .int .i64 0, .int .u64 0, .int .i64 0, .slice none 0 0] none
  false none)
  fun (b1 : Nat) (S1 : St) =>
  evC E0 tS 49 [.string { data := List.toArray s_0 }, .int .u8 32] S1 fun (s1 : Sl) (S2 : St) =>
  loopW
  (fun (k1 : Int × Int → St → Prop) (x1 : Int × Int) (S3 : St) =>
  ifW (ltI x1.2 (↑s1.len : Int))
  (idxW s1.a s1.len x1.2 fun (b2 b3 : Nat) =>
  evV tT (loadV E0 S3 9 (.pointer (some ⟨b2, b3 + Int.toNat x1.2 * 1, none⟩))) fun (l1 : List UInt8) =>
  ifW (l1 == [UInt8.ofNat 61]) (ifW (ltI x1.1 0) (k1 (x1.2, wrapI .i64 (x1.2 + 1)) S3) (k1 (x1.1, wrapI .i64 (x1.2 + 1)) S3)) (k1 (x1.1, wrapI .i64 (x1.2 + 1)) S3))
  (ifW (ltI x1.1 1)
  (evS
  (storeV E0 S3 39 (.pointer (some ⟨b1, 0, none⟩))
  (.agg
  #[.int .i64 0, .int .i64 0, .int .i64 0, .int .i64 0, .int .i64 0, .int .u64 0, .int .i64 0, .slice none 0 0]))
  fun (S4 : St) =>
  evV (TT.one (Ty.agg G38)) (loadV E0 S4 39 (.pointer (some ⟨b1, 0, none⟩))) fun (x2 : Int × Int × Int × Int × Int × Int × Int × Sl) =>
  k (.tuple #[sv G38 x2, .int .i64 280]) S4)
  (ifW (leI (↑s1.len : Int) (wrapI .i64 (x1.1 + 1)))
  (evS
  (storeV E0 S3 39 (.pointer (some ⟨b1, 0, none⟩))
  (.agg
  #[.int .i64 0, .int .i64 0, .int .i64 0, .int .i64 0, .int .i64 0, .int .u64 0, .int .i64 0, .slice none 0 0]))
  fun (S5 : St) =>
  evV (TT.one (Ty.agg G38)) (loadV E0 S5 39 (.pointer (some ⟨b1, 0, none⟩))) fun (x3 : Int × Int × Int × Int × Int × Int × Int × Sl) =>
  k (.tuple #[sv G38 x3, .int .i64 280]) S5)
  (idxW s1.a s1.len 0 fun (b4 b5 : Nat) =>
  evV tT (loadV E0 S3 9 (.pointer (some ⟨b4, b5 + Int.toNat 0 * 1, none⟩))) fun (l2 : List UInt8) =>
  loopW
  (fun (k2 : List UInt8 × Int → St → Prop) (x4 : List UInt8 × Int) (S6 : St) =>
  ifW (ltI x4.2 x1.1)
  (evV tT (catD { data := List.toArray x4.1 } { data := #[UInt8.ofNat 32] }) fun (l3 : List UInt8) =>
  idxW s1.a s1.len x4.2 fun (b6 b7 : Nat) =>
  evV tT (loadV E0 S6 9 (.pointer (some ⟨b6, b7 + Int.toNat x4.2 * 1, none⟩))) fun (l4 : List UInt8) =>
  evV tT (catD { data := List.toArray l3 } { data := List.toArray l4 }) fun (l5 : List UInt8) => k2 (l5, wrapI .i64 (x4.2 + 1)) S6)
  (evC E0 (TT.tup [Ty.agg G36, Ty.sc (Sc.int .i64)]) 50 [.string { data := List.toArray x4.1 }] S6 fun (x5 : (Int × Int × Int × Int × Int × Int) × Int) (S7 : St) =>
  newW S7 (.cells [.int .i64 0, .int .i64 0, .int .i64 0, .int .i64 0, .int .i64 0, .int .u64 0] none false none)
  fun (b8 : Nat) (S8 : St) =>
  evS (storeV E0 S8 37 (.pointer (some ⟨b8, 0, none⟩)) (sv G36 x5.1)) fun (S9 : St) =>
  ifW (!eqI x5.2 0)
  (evS
  (storeV E0 S9 39 (.pointer (some ⟨b1, 0, none⟩))
  (.agg
  #[.int .i64 0, .int .i64 0, .int .i64 0, .int .i64 0, .int .i64 0, .int .u64 0, .int .i64 0,
  .slice none 0 0]))
  fun (S10 : St) =>
  evV (TT.one (Ty.agg G38)) (loadV E0 S10 39 (.pointer (some ⟨b1, 0, none⟩))) fun (x6 : Int × Int × Int × Int × Int × Int × Int × Sl) =>
  k (.tuple #[sv G38 x6, .int .i64 280]) S10)
  (newW S9
  (.cells
  [.int .i64 0, .int .i64 0, .int .i64 0, .int .i64 0, .int .i64 0, .int .u64 0, .int .i64 0,
  .slice none 0 0]
  none false none)
  fun (b9 : Nat) (S11 : St) =>
  evV (TT.one (Ty.agg G36)) (loadV E0 S11 37 (.pointer (some ⟨b8, 0, none⟩))) fun (x7 : Int × Int × Int × Int × Int × Int) =>
  idxW s1.a s1.len (wrapI .i64 (x1.1 + 1)) fun (b10 b11 : Nat) =>
  evV tT (loadV E0 S11 9 (.pointer (some ⟨b10, b11 + Int.toNat (wrapI .i64 (x1.1 + 1)) * 1, none⟩))) fun (l6 : List UInt8) =>
  evC E0 tI 51 [.string { data := List.toArray l6 }] S11 fun (n1 : Int) (S12 : St) =>
  evV (TT.one (Ty.agg G36)) (loadV E0 S12 37 (.pointer (some ⟨b8, 0, none⟩))) fun (x8 : Int × Int × Int × Int × Int × Int) =>
  sameV (sv G36 x8) (sv G36 x7)
  (evS
  (storeV E0 S12 39 (.pointer (some ⟨b9, 0, none⟩))
  (.agg
  #[.int .i64 x7.1, .int .i64 x7.2.1, .int .i64 x7.2.2.1, .int .i64 x7.2.2.2.1,
  .int .i64 x7.2.2.2.2.1, .int .u64 x7.2.2.2.2.2, .int .i64 n1, .slice none 0 0]))
  fun (S13 : St) =>
  loopW
  (fun (k3 : Int → St → Prop) (n2 : Int) (S14 : St) =>
  ifW (ltI n2 (↑s1.len : Int))
  (idxW s1.a s1.len n2 fun (b12 b13 : Nat) =>
  evV tT (loadV E0 S14 9 (.pointer (some ⟨b12, b13 + Int.toNat n2 * 1, none⟩))) fun (l7 : List UInt8) =>
  evC E0 tS 49 [.string { data := List.toArray l7 }, .int .u8 58] S14 fun (s2 : Sl) (S15 : St) =>
  loopW
  (fun (k4 : Sl → St → Prop) (s3 : Sl) (S16 : St) =>
  ifW (ltI (↑s3.len : Int) 3)
  (newW S16 (.cells [.string { data := #[] }] none false none) fun (b14 : Nat) (S17 : St) =>
  evP tS (appendD E0 S17 78 78 (.slice s3.a s3.len s3.cap) (.slice (some ⟨b14, 0, none⟩) 1 1)) fun (s4 : Sl) (S18 : St) =>
  k4 { a := s4.a, len := s4.len, cap := s4.cap } S18)
  (newW S16 (.cells [.int .i64 0, .int .i64 0, .int .i64 0] none false none) fun (b15 : Nat) (S19 : St) =>
  idxW s3.a s3.len 1 fun (b16 b17 : Nat) =>
  evV tT (loadV E0 S19 9 (.pointer (some ⟨b16, b17 + Int.toNat 1 * 1, none⟩))) fun (l8 : List UInt8) =>
  evC E0 tI 51 [.string { data := List.toArray l8 }] S19 fun (n3 : Int) (S20 : St) =>
  idxW s3.a s3.len 2 fun (b18 b19 : Nat) =>
  evV tT (loadV E0 S20 9 (.pointer (some ⟨b18, b19 + Int.toNat 2 * 1, none⟩))) fun (l9 : List UInt8) =>
  evV tT (loadV E0 S19 9 (.pointer (some ⟨b18, b19 + Int.toNat 2 * 1, none⟩))) fun (l10 : List UInt8) =>
  sameV (.string { data := List.toArray l10 }) (.string { data := List.toArray l9 })
  (evC E0 tI 51 [.string { data := List.toArray l9 }] S20 fun (n4 : Int) (S21 : St) =>
  evS
  (storeV E0 S21 41 (.pointer (some ⟨b15, 0, none⟩))
  (.agg #[.int .i64 0, .int .i64 n3, .int .i64 n4]))
  fun (S22 : St) =>
  loopW
  (fun (k5 : Int → St → Prop) (n5 : Int) (S23 : St) =>
  ifW (leI n5 3)
  (evC E0 tT 39 [.int .i64 n5] S23 fun (l11 : List UInt8) (S24 : St) =>
  idxW s3.a s3.len 0 fun (b20 b21 : Nat) =>
  evV tT (loadV E0 S24 9 (.pointer (some ⟨b20, b21 + Int.toNat 0 * 1, none⟩))) fun (l12 : List UInt8) =>
  ifW (l11 == l12)
  (ptrW (some ⟨b15, 0, none⟩) fun (b22 b23 : Nat) =>
  evS (storeV E0 S24 3 (.pointer (some ⟨b22, b23 + 0, none⟩)) (.int .i64 n5))
  fun (S25 : St) => k5 (wrapI .i64 (n5 + 1)) S25)
  (k5 (wrapI .i64 (n5 + 1)) S24))
  (ptrW (some ⟨b9, 0, none⟩) fun (b24 b25 : Nat) =>
  evV tS (loadV E0 S23 33 (.pointer (some ⟨b24, b25 + 7, none⟩))) fun (s5 : Sl) =>
  evV (TT.one (Ty.agg G40)) (loadV E0 S23 41 (.pointer (some ⟨b15, 0, none⟩))) fun (x9 : Int × Int × Int) =>
  newW S23
  (.cells [.int .i64 x9.1, .int .i64 x9.2.1, .int .i64 x9.2.2] none
  false none)
  fun (b26 : Nat) (S26 : St) =>
  evP tS (appendD E0 S26 33 33 (.slice s5.a s5.len s5.cap) (.slice (some ⟨b26, 0, none⟩) 1 1))
  fun (s6 : Sl) (S27 : St) =>
  ptrW (some ⟨b9, 0, none⟩) fun (b27 b28 : Nat) =>
  evS (storeV E0 S27 33 (.pointer (some ⟨b27, b28 + 7, none⟩)) (.slice s6.a s6.len s6.cap))
  fun (S28 : St) => k3 (wrapI .i64 (n2 + 1)) S28))
  1 S22)))
  { a := s2.a, len := s2.len, cap := s2.cap } S15)
  (evV (TT.one (Ty.agg G38)) (loadV E0 S14 39 (.pointer (some ⟨b9, 0, none⟩))) fun (x10 : Int × Int × Int × Int × Int × Int × Int × Sl) =>
  evC E0 (TT.tup [Ty.sc Sc.str, Ty.sc (Sc.int .i64)]) 20 [sv G38 x10] S14 fun (x11 : List UInt8 × Int) (S29 : St) =>
  ifW (!eqI x11.2 0)
  (evS
  (storeV E0 S29 39 (.pointer (some ⟨b1, 0, none⟩))
  (.agg
  #[.int .i64 0, .int .i64 0, .int .i64 0, .int .i64 0, .int .i64 0, .int .u64 0,
  .int .i64 0, .slice none 0 0]))
  fun (S30 : St) =>
  evV (TT.one (Ty.agg G38)) (loadV E0 S30 39 (.pointer (some ⟨b1, 0, none⟩))) fun (x12 : Int × Int × Int × Int × Int × Int × Int × Sl) =>
  k (.tuple #[sv G38 x12, .int .i64 280]) S30)
  (ifW (!x11.1 == s_0)
  (evS
  (storeV E0 S29 39 (.pointer (some ⟨b1, 0, none⟩))
  (.agg
  #[.int .i64 0, .int .i64 0, .int .i64 0, .int .i64 0, .int .i64 0, .int .u64 0,
  .int .i64 0, .slice none 0 0]))
  fun (S31 : St) =>
  evV (TT.one (Ty.agg G38)) (loadV E0 S31 39 (.pointer (some ⟨b1, 0, none⟩))) fun (x13 : Int × Int × Int × Int × Int × Int × Int × Sl) =>
  k (.tuple #[sv G38 x13, .int .i64 280]) S31)
  (evV (TT.one (Ty.agg G38)) (loadV E0 S29 39 (.pointer (some ⟨b9, 0, none⟩))) fun (x14 : Int × Int × Int × Int × Int × Int × Int × Sl) =>
  evS (storeV E0 S29 39 (.pointer (some ⟨b1, 0, none⟩)) (sv G38 x14)) fun (S32 : St) =>
  evV (TT.one (Ty.agg G38)) (loadV E0 S32 39 (.pointer (some ⟨b1, 0, none⟩))) fun (x15 : Int × Int × Int × Int × Int × Int × Int × Sl) =>
  k (.tuple #[sv G38 x15, .int .i64 0]) S32))))
  (wrapI .i64 (x1.1 + 2)) S13))))
  (l2, 1) S3))))
  (-1, 0) S2
theorem w25 (s_0 : List UInt8) {S : St} {k : Value → St → Prop} (h : c25 s_0 S k) : WC E0 25 [.string ⟨s_0.toArray⟩] S k :=
  WC_den h25 rfl (by kernel_rfl) (by kernel_rfl : Tryz.f25.body = some (bodyOf Tryz.f25)) (by rw [show (denF E0 h25 Tryz.f25 (bodyOf Tryz.f25) [.string ⟨s_0.toArray⟩] S k) = c25 s_0 S k by kernel_rfl]; exact h)

/-! 26 wagonway/wagonwayref28.Same -/
noncomputable def h26 : Hn := (.n .no (.n .no (.n (.n .no (.n (.n .no .no (some ⟨[2, 3], [(5, .sc (.int .i64))], false⟩)) .no none) none) .no none) none) none)
def c26 (a_0 : Int × Int × Int × Int × Int × Int × Int × Sl) (b_1 : Int × Int × Int × Int × Int × Int × Int × Sl) (S : St) (k : Value → St → Prop) : Prop :=
  newW S
  (.cells
  [.int .i64 a_0.1, .int .i64 a_0.2.1, .int .i64 a_0.2.2.1, .int .i64 a_0.2.2.2.1, .int .i64 a_0.2.2.2.2.1,
  .int .u64 a_0.2.2.2.2.2.1, .int .i64 a_0.2.2.2.2.2.2.1,
  .slice a_0.2.2.2.2.2.2.2.a a_0.2.2.2.2.2.2.2.len a_0.2.2.2.2.2.2.2.cap]
  none false none)
  fun (b1 : Nat) (S1 : St) =>
  newW S1
  (.cells
  [.int .i64 b_1.1, .int .i64 b_1.2.1, .int .i64 b_1.2.2.1, .int .i64 b_1.2.2.2.1, .int .i64 b_1.2.2.2.2.1,
  .int .u64 b_1.2.2.2.2.2.1, .int .i64 b_1.2.2.2.2.2.2.1,
  .slice b_1.2.2.2.2.2.2.2.a b_1.2.2.2.2.2.2.2.len b_1.2.2.2.2.2.2.2.cap]
  none false none)
  fun (b2 : Nat) (S2 : St) =>
  ptrW (some ⟨b1, 0, none⟩) fun (b3 b4 : Nat) =>
  evV (TT.one (Ty.agg G36)) (loadV E0 S2 37 (.pointer (some ⟨b3, b4 + 0, none⟩))) fun (x1 : Int × Int × Int × Int × Int × Int) =>
  ptrW (some ⟨b2, 0, none⟩) fun (b5 b6 : Nat) =>
  evV (TT.one (Ty.agg G36)) (loadV E0 S2 37 (.pointer (some ⟨b5, b6 + 0, none⟩))) fun (x2 : Int × Int × Int × Int × Int × Int) =>
  eqW E0 S2 37 (sv G36 x1) (sv G36 x2) fun (t1 : Bool) =>
  ifW (!t1) (k (.bool false) S2)
  (ptrW (some ⟨b1, 0, none⟩) fun (b7 b8 : Nat) =>
  evV tI (loadV E0 S2 24 (.pointer (some ⟨b7, b8 + 6, none⟩))) fun (n1 : Int) =>
  ptrW (some ⟨b2, 0, none⟩) fun (b9 b10 : Nat) =>
  evV tI (loadV E0 S2 24 (.pointer (some ⟨b9, b10 + 6, none⟩))) fun (n2 : Int) =>
  ifW (!eqI n1 n2) (k (.bool false) S2)
  (ptrW (some ⟨b1, 0, none⟩) fun (b11 b12 : Nat) =>
  evV tS (loadV E0 S2 33 (.pointer (some ⟨b11, b12 + 7, none⟩))) fun (s1 : Sl) =>
  ptrW (some ⟨b2, 0, none⟩) fun (b13 b14 : Nat) =>
  evV tS (loadV E0 S2 33 (.pointer (some ⟨b13, b14 + 7, none⟩))) fun (s2 : Sl) =>
  ifW (!eqI (↑s1.len : Int) (↑s2.len : Int)) (k (.bool false) S2)
  (loopW
  (fun (k1 : Int → St → Prop) (n3 : Int) (S3 : St) =>
  ptrW (some ⟨b1, 0, none⟩) fun (b15 b16 : Nat) =>
  evV tS (loadV E0 S3 33 (.pointer (some ⟨b15, b16 + 7, none⟩))) fun (s3 : Sl) =>
  ifW (ltI n3 (↑s3.len : Int))
  (ptrW (some ⟨b1, 0, none⟩) fun (b17 b18 : Nat) =>
  evV tS (loadV E0 S3 33 (.pointer (some ⟨b17, b18 + 7, none⟩))) fun (s4 : Sl) =>
  idxW s4.a s4.len n3 fun (b19 b20 : Nat) =>
  evV (TT.one (Ty.agg G40)) (loadV E0 S3 41 (.pointer (some ⟨b19, b20 + Int.toNat n3 * 3, none⟩))) fun (x3 : Int × Int × Int) =>
  ptrW (some ⟨b2, 0, none⟩) fun (b21 b22 : Nat) =>
  evV tS (loadV E0 S3 33 (.pointer (some ⟨b21, b22 + 7, none⟩))) fun (s5 : Sl) =>
  idxW s5.a s5.len n3 fun (b23 b24 : Nat) =>
  evV (TT.one (Ty.agg G40)) (loadV E0 S3 41 (.pointer (some ⟨b23, b24 + Int.toNat n3 * 3, none⟩))) fun (x4 : Int × Int × Int) =>
  eqW E0 S3 41 (sv G40 x3) (sv G40 x4) fun (t2 : Bool) => ifW (!t2) (k (.bool false) S3) (k1 (wrapI .i64 (n3 + 1)) S3))
  (k (.bool true) S3))
  0 S2)))
theorem w26 (a_0 : Int × Int × Int × Int × Int × Int × Int × Sl) (b_1 : Int × Int × Int × Int × Int × Int × Int × Sl) {S : St} {k : Value → St → Prop} (h : c26 a_0 b_1 S k) : WC E0 26 [sv G38 a_0, sv G38 b_1] S k :=
  WC_den h26 rfl (by kernel_rfl) (by kernel_rfl : Tryz.f26.body = some (bodyOf Tryz.f26)) (by rw [show (denF E0 h26 Tryz.f26 (bodyOf Tryz.f26) [sv G38 a_0, sv G38 b_1] S k) = c26 a_0 b_1 S k by kernel_rfl]; exact h)

/-! 27 slices.IndexFunc[[]wagonway/api.Page,wagonway/api.Page] -/
noncomputable def h27 : Hn := (.n .no (.n (.n .no (.n (.n .no .no (some ⟨[0, 1, 7], [(8, .sc (.int .i64))], false⟩)) .no none) none) .no none) none)
def c27 (s_0 : Sl) (f_1 : Value) (S : St) (k : Value → St → Prop) : Prop :=
  loopW
  (fun (k1 : Int → St → Prop) (n1 : Int) (S1 : St) =>
  ifW (ltI n1 (↑s_0.len : Int))
  (idxW s_0.a s_0.len n1 fun (b1 b2 : Nat) =>
  evV (TT.one (Ty.agg G38)) (loadV E0 S1 39 (.pointer (some ⟨b1, b2 + Int.toNat n1 * 8, none⟩))) fun (x1 : Int × Int × Int × Int × Int × Int × Int × Sl) =>
  evY E0 tB f_1 [sv G38 x1] S1 fun (t1 : Bool) (S2 : St) => ifW t1 (k (.int .i64 n1) S2) (k1 (wrapI .i64 (n1 + 1)) S2))
  (k (.int .i64 (-1)) S1))
  0 S
theorem w27 (s_0 : Sl) (f_1 : Value) {S : St} {k : Value → St → Prop} (h : c27 s_0 f_1 S k) : WC E0 27 [.slice s_0.a s_0.len s_0.cap, f_1] S k :=
  WC_den h27 rfl (by kernel_rfl) (by kernel_rfl : Tryz.f27.body = some (bodyOf Tryz.f27)) (by rw [show (denF E0 h27 Tryz.f27 (bodyOf Tryz.f27) [.slice s_0.a s_0.len s_0.cap, f_1] S k) = c27 s_0 f_1 S k by kernel_rfl]; exact h)

/-! 28 wagonway/diary.Check$1 -/
noncomputable def h28 : Hn := .no
def c28 (y_0 : Int × Int × Int) (S : St) (k : Value → St → Prop) : Prop :=
  newW S (.cells [.int .i64 y_0.1, .int .i64 y_0.2.1, .int .i64 y_0.2.2] none false none) fun (b1 : Nat) (S1 : St) =>
  evV (TT.one (Ty.agg G40)) (loadV E0 S1 41 (.pointer (some ⟨b1, 0, none⟩))) fun (x1 : Int × Int × Int) => evC E0 tB 29 [sv G40 x1] S1 fun (t1 : Bool) (S2 : St) => k (.bool !t1) S2
theorem w28 (y_0 : Int × Int × Int) {S : St} {k : Value → St → Prop} (h : c28 y_0 S k) : WC E0 28 [sv G40 y_0] S k :=
  WC_den h28 rfl (by kernel_rfl) (by kernel_rfl : Tryz.f28.body = some (bodyOf Tryz.f28)) (by rw [show (denF E0 h28 Tryz.f28 (bodyOf Tryz.f28) [sv G40 y_0] S k) = c28 y_0 S k by kernel_rfl]; exact h)

/-! 29 wagonway/diary.may -/
noncomputable def h29 : Hn := .no
def c29 (x_0 : Int × Int × Int) (S : St) (k : Value → St → Prop) : Prop :=
  newW S (.cells [.int .i64 x_0.1, .int .i64 x_0.2.1, .int .i64 x_0.2.2] none false none) fun (b1 : Nat) (S1 : St) =>
  ptrW (some ⟨b1, 0, none⟩) fun (b2 b3 : Nat) =>
  evV tI (loadV E0 S1 3 (.pointer (some ⟨b2, b3 + 0, none⟩))) fun (n1 : Int) =>
  ifW (leI 1 n1)
  (ptrW (some ⟨b1, 0, none⟩) fun (b4 b5 : Nat) =>
  evV tI (loadV E0 S1 3 (.pointer (some ⟨b4, b5 + 0, none⟩))) fun (n2 : Int) =>
  ifW (leI n2 3)
  (ptrW (some ⟨b1, 0, none⟩) fun (b6 b7 : Nat) =>
  evV tI (loadV E0 S1 3 (.pointer (some ⟨b6, b7 + 1, none⟩))) fun (n3 : Int) =>
  ifW (leI 0 n3)
  (ptrW (some ⟨b1, 0, none⟩) fun (b8 b9 : Nat) =>
  evV tI (loadV E0 S1 3 (.pointer (some ⟨b8, b9 + 1, none⟩))) fun (n4 : Int) =>
  ifW (ltI n4 64)
  (ptrW (some ⟨b1, 0, none⟩) fun (b10 b11 : Nat) =>
  evV tI (loadV E0 S1 3 (.pointer (some ⟨b10, b11 + 2, none⟩))) fun (n5 : Int) =>
  ifW (leI 0 n5)
  (ptrW (some ⟨b1, 0, none⟩) fun (b12 b13 : Nat) =>
  evV tI (loadV E0 S1 3 (.pointer (some ⟨b12, b13 + 2, none⟩))) fun (n6 : Int) => k (.bool (ltI n6 1024)) S1)
  (k (.bool false) S1))
  (k (.bool false) S1))
  (k (.bool false) S1))
  (k (.bool false) S1))
  (k (.bool false) S1)
theorem w29 (x_0 : Int × Int × Int) {S : St} {k : Value → St → Prop} (h : c29 x_0 S k) : WC E0 29 [sv G40 x_0] S k :=
  WC_den h29 rfl (by kernel_rfl) (by kernel_rfl : Tryz.f29.body = some (bodyOf Tryz.f29)) (by rw [show (denF E0 h29 Tryz.f29 (bodyOf Tryz.f29) [sv G40 x_0] S k) = c29 x_0 S k by kernel_rfl]; exact h)

/-! 30 wagonway/order.Check -/
noncomputable def h30 : Hn := (.n .no (.n (.n .no (.n .no (.n .no (.n (.n .no (.n (.n .no .no (some ⟨[], [(16, .sc (.int .u8))], false⟩)) .no none) none) .no (some ⟨[1, 3, 4], [], true⟩)) none) none) none) .no none) none)
def c30 (x_0 : Int × Int × Int × Int × Int × Int) (S : St) (k : Value → St → Prop) : Prop :=
  newW S
  (.cells
  [.int .i64 x_0.1, .int .i64 x_0.2.1, .int .i64 x_0.2.2.1, .int .i64 x_0.2.2.2.1, .int .i64 x_0.2.2.2.2.1,
  .int .u64 x_0.2.2.2.2.2]
  none false none)
  fun (b1 : Nat) (S1 : St) =>
  ptrW (some ⟨b1, 0, none⟩) fun (b2 b3 : Nat) =>
  evV tI (loadV E0 S1 3 (.pointer (some ⟨b2, b3 + 0, none⟩))) fun (n1 : Int) =>
  newW S1 (.cells [.int .i64 0, .int .i64 0, .int .i64 0, .int .i64 0, .int .i64 0, .int .u64 0] none false none)
  fun (b4 : Nat) (S2 : St) =>
  evS
  (storeV E0 S2 37 (.pointer (some ⟨b4, 0, none⟩))
  (.agg #[.int .i64 n1, .int .i64 0, .int .i64 0, .int .i64 0, .int .i64 0, .int .u64 0]))
  fun (S3 : St) =>
  ptrW (some ⟨b1, 0, none⟩) fun (b5 b6 : Nat) =>
  evV tI (loadV E0 S3 3 (.pointer (some ⟨b5, b6 + 0, none⟩))) fun (n2 : Int) =>
  evC E0 tT 52 [.int .i64 n2] S3 fun (l1 : List UInt8) (S4 : St) =>
  newW S4 (.cells [.bool false] none false none) fun (b7 : Nat) (S5 : St) =>
  evS (storeV E0 S5 4 (.pointer (some ⟨b7, 0, none⟩)) (.bool !l1 == [])) fun (S6 : St) =>
  joinW
  (fun (x1 : List Nat × PUnit) (S7 : St) =>
  evV tB (loadV E0 S7 4 (.pointer (some ⟨b7, 0, none⟩))) fun (t1 : Bool) =>
  ifW (!t1) (shutW x1.1 S7 fun (S8 : St) => k (.int .i64 230) S8)
  (evV (TT.one (Ty.agg G36)) (loadV E0 S7 37 (.pointer (some ⟨b1, 0, none⟩))) fun (x2 : Int × Int × Int × Int × Int × Int) =>
  evV (TT.one (Ty.agg G36)) (loadV E0 S7 37 (.pointer (some ⟨b4, 0, none⟩))) fun (x3 : Int × Int × Int × Int × Int × Int) =>
  eqW E0 S7 37 (sv G36 x2) (sv G36 x3) fun (t2 : Bool) =>
  ifW (!t2) (shutW x1.1 S7 fun (S9 : St) => k (.int .i64 230) S9) (shutW x1.1 S7 fun (S10 : St) => k (.int .i64 0) S10)))
  fun (k1 : List Nat × PUnit → St → Prop) =>
  ptrW (some ⟨b1, 0, none⟩) fun (b8 b9 : Nat) =>
  evV tI (loadV E0 S6 3 (.pointer (some ⟨b8, b9 + 0, none⟩))) fun (n3 : Int) =>
  evC E0 tA 53 [.int .i64 n3] S6 fun (v1 : Value) (S11 : St) =>
  newW S11 DObj.deferred fun (b10 : Nat) (S12 : St) =>
  ∀ (b11 : Nat) (S13 : St) (k2 : LoopState → Option Code → DObj),
  b11 = S12.next →
  S13 = (St.alloc S12 (k2 LoopState.ready none)).2 →
  (LoopL fun (x4 : LoopState) (p1 : Option Code) => k2 x4 p1) →
  (RoundH E0 b11 [Ty.sc (Sc.int .u8)] fun (n4 : Int) (S14 : St) (k3 : Bool → St → Prop) =>
  hasW S14 b11 (k2 LoopState.ready none)
  (hasW S14 b11 (k2 LoopState.ready none)
  (updW S14 b11 (k2 LoopState.busy none) fun (S15 : St) =>
  ifW (eqI n4 114)
  (ptrW (some ⟨b1, 0, none⟩) fun (b12 b13 : Nat) =>
  evV tI (loadV E0 S15 3 (.pointer (some ⟨b12, b13 + 1, none⟩))) fun (n5 : Int) =>
  ptrW (some ⟨b1, 0, none⟩) fun (b14 b15 : Nat) =>
  evV tI (loadV E0 S15 3 (.pointer (some ⟨b14, b15 + 1, none⟩))) fun (n6 : Int) =>
  evC E0 tB 54 [.int .i64 n6, .int .i64 0, .int .i64 63] S15 fun (t3 : Bool) (S16 : St) =>
  evV tI (loadV E0 S16 3 (.pointer (some ⟨b12, b13 + 1, none⟩))) fun (n7 : Int) =>
  sameV (.int .i64 n7) (.int .i64 n5)
  (ptrW (some ⟨b4, 0, none⟩) fun (b16 b17 : Nat) =>
  evS (storeV E0 S16 3 (.pointer (some ⟨b16, b17 + 1, none⟩)) (.int .i64 n5)) fun (S17 : St) =>
  evS (storeV E0 S17 4 (.pointer (some ⟨b7, 0, none⟩)) (.bool t3)) fun (S18 : St) =>
  evV tB (loadV E0 S18 4 (.pointer (some ⟨b7, 0, none⟩))) fun (t4 : Bool) =>
  ifW (!t4) (hasW S18 b11 (k2 LoopState.busy none) (updW S18 b11 (k2 LoopState.done (some (Code.exit 0))) fun (S19 : St) => k3 false S19))
  (hasW S18 b11 (k2 LoopState.busy none) (updW S18 b11 (k2 LoopState.ready none) fun (S20 : St) => k3 true S20))))
  (ifW (eqI n4 100)
  (ptrW (some ⟨b1, 0, none⟩) fun (b18 b19 : Nat) =>
  evV tU (loadV E0 S15 35 (.pointer (some ⟨b18, b19 + 5, none⟩))) fun (n8 : Int) =>
  ptrW (some ⟨b4, 0, none⟩) fun (b20 b21 : Nat) =>
  evS (storeV E0 S15 35 (.pointer (some ⟨b20, b21 + 5, none⟩)) (.int .u64 n8)) fun (S21 : St) =>
  evV tB (loadV E0 S21 4 (.pointer (some ⟨b7, 0, none⟩))) fun (t5 : Bool) =>
  ifW (!t5) (hasW S21 b11 (k2 LoopState.busy none) (updW S21 b11 (k2 LoopState.done (some (Code.exit 0))) fun (S22 : St) => k3 false S22))
  (hasW S21 b11 (k2 LoopState.busy none) (updW S21 b11 (k2 LoopState.ready none) fun (S23 : St) => k3 true S23)))
  (ifW (eqI n4 112)
  (ptrW (some ⟨b1, 0, none⟩) fun (b22 b23 : Nat) =>
  evV tI (loadV E0 S15 3 (.pointer (some ⟨b22, b23 + 2, none⟩))) fun (n9 : Int) =>
  ptrW (some ⟨b1, 0, none⟩) fun (b24 b25 : Nat) =>
  evV tI (loadV E0 S15 3 (.pointer (some ⟨b24, b25 + 2, none⟩))) fun (n10 : Int) =>
  ptrW (some ⟨b4, 0, none⟩) fun (b26 b27 : Nat) =>
  evS (storeV E0 S15 3 (.pointer (some ⟨b26, b27 + 2, none⟩)) (.int .i64 n9)) fun (S24 : St) =>
  evV tI (loadV E0 S24 3 (.pointer (some ⟨b24, b25 + 2, none⟩))) fun (n11 : Int) =>
  sameV (.int .i64 n11) (.int .i64 n10)
  (evS (storeV E0 S24 4 (.pointer (some ⟨b7, 0, none⟩)) (.bool (leI 1 n10))) fun (S25 : St) =>
  evV tB (loadV E0 S25 4 (.pointer (some ⟨b7, 0, none⟩))) fun (t6 : Bool) =>
  ifW (!t6) (hasW S25 b11 (k2 LoopState.busy none) (updW S25 b11 (k2 LoopState.done (some (Code.exit 0))) fun (S26 : St) => k3 false S26))
  (hasW S25 b11 (k2 LoopState.busy none) (updW S25 b11 (k2 LoopState.ready none) fun (S27 : St) => k3 true S27))))
  (ifW (eqI n4 97)
  (ptrW (some ⟨b1, 0, none⟩) fun (b28 b29 : Nat) =>
  evV tI (loadV E0 S15 3 (.pointer (some ⟨b28, b29 + 3, none⟩))) fun (n12 : Int) =>
  ptrW (some ⟨b1, 0, none⟩) fun (b30 b31 : Nat) =>
  evV tI (loadV E0 S15 3 (.pointer (some ⟨b30, b31 + 3, none⟩))) fun (n13 : Int) =>
  ptrW (some ⟨b4, 0, none⟩) fun (b32 b33 : Nat) =>
  evS (storeV E0 S15 3 (.pointer (some ⟨b32, b33 + 3, none⟩)) (.int .i64 n12)) fun (S28 : St) =>
  evV tI (loadV E0 S28 3 (.pointer (some ⟨b30, b31 + 3, none⟩))) fun (n14 : Int) =>
  sameV (.int .i64 n14) (.int .i64 n13)
  (evS (storeV E0 S28 4 (.pointer (some ⟨b7, 0, none⟩)) (.bool (leI 0 n13))) fun (S29 : St) =>
  evV tB (loadV E0 S29 4 (.pointer (some ⟨b7, 0, none⟩))) fun (t7 : Bool) =>
  ifW (!t7) (hasW S29 b11 (k2 LoopState.busy none) (updW S29 b11 (k2 LoopState.done (some (Code.exit 0))) fun (S30 : St) => k3 false S30))
  (hasW S29 b11 (k2 LoopState.busy none) (updW S29 b11 (k2 LoopState.ready none) fun (S31 : St) => k3 true S31))))
  (ifW (eqI n4 119)
  (ptrW (some ⟨b1, 0, none⟩) fun (b34 b35 : Nat) =>
  evV tI (loadV E0 S15 3 (.pointer (some ⟨b34, b35 + 4, none⟩))) fun (n15 : Int) =>
  ptrW (some ⟨b1, 0, none⟩) fun (b36 b37 : Nat) =>
  evV tI (loadV E0 S15 3 (.pointer (some ⟨b36, b37 + 4, none⟩))) fun (n16 : Int) =>
  evC E0 tB 54 [.int .i64 n16, .int .i64 1, .int .i64 255] S15 fun (t8 : Bool) (S32 : St) =>
  evV tI (loadV E0 S32 3 (.pointer (some ⟨b34, b35 + 4, none⟩))) fun (n17 : Int) =>
  sameV (.int .i64 n17) (.int .i64 n15)
  (ptrW (some ⟨b4, 0, none⟩) fun (b38 b39 : Nat) =>
  evS (storeV E0 S32 3 (.pointer (some ⟨b38, b39 + 4, none⟩)) (.int .i64 n15)) fun (S33 : St) =>
  evS (storeV E0 S33 4 (.pointer (some ⟨b7, 0, none⟩)) (.bool t8)) fun (S34 : St) =>
  evV tB (loadV E0 S34 4 (.pointer (some ⟨b7, 0, none⟩))) fun (t9 : Bool) =>
  ifW (!t9) (hasW S34 b11 (k2 LoopState.busy none) (updW S34 b11 (k2 LoopState.done (some (Code.exit 0))) fun (S35 : St) => k3 false S35))
  (hasW S34 b11 (k2 LoopState.busy none) (updW S34 b11 (k2 LoopState.ready none) fun (S36 : St) => k3 true S36))))
  (ifW (eqI n4 99)
  (ptrW (some ⟨b1, 0, none⟩) fun (b40 b41 : Nat) =>
  evV tI (loadV E0 S15 3 (.pointer (some ⟨b40, b41 + 2, none⟩))) fun (n18 : Int) =>
  ptrW (some ⟨b1, 0, none⟩) fun (b42 b43 : Nat) =>
  evV tI (loadV E0 S15 3 (.pointer (some ⟨b42, b43 + 2, none⟩))) fun (n19 : Int) =>
  evC E0 tB 54 [.int .i64 n19, .int .i64 0, .int .i64 1023] S15 fun (t10 : Bool) (S37 : St) =>
  evV tI (loadV E0 S37 3 (.pointer (some ⟨b40, b41 + 2, none⟩))) fun (n20 : Int) =>
  sameV (.int .i64 n20) (.int .i64 n18)
  (ptrW (some ⟨b4, 0, none⟩) fun (b44 b45 : Nat) =>
  evS (storeV E0 S37 3 (.pointer (some ⟨b44, b45 + 2, none⟩)) (.int .i64 n18)) fun (S38 : St) =>
  evS (storeV E0 S38 4 (.pointer (some ⟨b7, 0, none⟩)) (.bool t10)) fun (S39 : St) =>
  evV tB (loadV E0 S39 4 (.pointer (some ⟨b7, 0, none⟩))) fun (t11 : Bool) =>
  ifW (!t11) (hasW S39 b11 (k2 LoopState.busy none) (updW S39 b11 (k2 LoopState.done (some (Code.exit 0))) fun (S40 : St) => k3 false S40))
  (hasW S39 b11 (k2 LoopState.busy none) (updW S39 b11 (k2 LoopState.ready none) fun (S41 : St) => k3 true S41))))
  (ifW (eqI n4 101)
  (ptrW (some ⟨b1, 0, none⟩) fun (b46 b47 : Nat) =>
  evV tI (loadV E0 S15 3 (.pointer (some ⟨b46, b47 + 2, none⟩))) fun (n21 : Int) =>
  ptrW (some ⟨b1, 0, none⟩) fun (b48 b49 : Nat) =>
  evV tI (loadV E0 S15 3 (.pointer (some ⟨b48, b49 + 2, none⟩))) fun (n22 : Int) =>
  evC E0 tB 54 [.int .i64 n22, .int .i64 0, .int .i64 1000] S15 fun (t12 : Bool) (S42 : St) =>
  evV tI (loadV E0 S42 3 (.pointer (some ⟨b46, b47 + 2, none⟩))) fun (n23 : Int) =>
  sameV (.int .i64 n23) (.int .i64 n21)
  (ptrW (some ⟨b4, 0, none⟩) fun (b50 b51 : Nat) =>
  evS (storeV E0 S42 3 (.pointer (some ⟨b50, b51 + 2, none⟩)) (.int .i64 n21)) fun (S43 : St) =>
  evS (storeV E0 S43 4 (.pointer (some ⟨b7, 0, none⟩)) (.bool t12)) fun (S44 : St) =>
  evV tB (loadV E0 S44 4 (.pointer (some ⟨b7, 0, none⟩))) fun (t13 : Bool) =>
  ifW (!t13)
  (hasW S44 b11 (k2 LoopState.busy none) (updW S44 b11 (k2 LoopState.done (some (Code.exit 0))) fun (S45 : St) => k3 false S45))
  (hasW S44 b11 (k2 LoopState.busy none) (updW S44 b11 (k2 LoopState.ready none) fun (S46 : St) => k3 true S46))))
  (ptrW (some ⟨b1, 0, none⟩) fun (b52 b53 : Nat) =>
  evV tI (loadV E0 S15 3 (.pointer (some ⟨b52, b53 + 2, none⟩))) fun (n24 : Int) =>
  ptrW (some ⟨b1, 0, none⟩) fun (b54 b55 : Nat) =>
  evV tI (loadV E0 S15 3 (.pointer (some ⟨b54, b55 + 2, none⟩))) fun (n25 : Int) =>
  evC E0 tB 54 [.int .i64 n25, .int .i64 (-1), .int .i64 1000] S15 fun (t14 : Bool) (S47 : St) =>
  evV tI (loadV E0 S47 3 (.pointer (some ⟨b52, b53 + 2, none⟩))) fun (n26 : Int) =>
  sameV (.int .i64 n26) (.int .i64 n24)
  (ptrW (some ⟨b4, 0, none⟩) fun (b56 b57 : Nat) =>
  evS (storeV E0 S47 3 (.pointer (some ⟨b56, b57 + 2, none⟩)) (.int .i64 n24)) fun (S48 : St) =>
  evS (storeV E0 S48 4 (.pointer (some ⟨b7, 0, none⟩)) (.bool t14)) fun (S49 : St) =>
  evV tB (loadV E0 S49 4 (.pointer (some ⟨b7, 0, none⟩))) fun (t15 : Bool) =>
  ifW (!t15)
  (hasW S49 b11 (k2 LoopState.busy none) (updW S49 b11 (k2 LoopState.done (some (Code.exit 0))) fun (S50 : St) => k3 false S50))
  (hasW S49 b11 (k2 LoopState.busy none) (updW S49 b11 (k2 LoopState.ready none) fun (S51 : St) => k3 true S51))))))))))))) →
  WG E0 v1 b11 S13 fun (S52 : St) =>
  hasW S52 b11 (k2 LoopState.ready none) (updW S52 b11 (k2 LoopState.exhausted none) fun (S53 : St) => k1 ([b10], PUnit.unit) S53) ∨
  hasW S52 b11 (k2 LoopState.done (some (Code.exit 0))) (updW S52 b11 (k2 LoopState.exhausted (some (Code.exit 0))) fun (S54 : St) => k1 ([b10], PUnit.unit) S54) ∨ False
theorem w30 (x_0 : Int × Int × Int × Int × Int × Int) {S : St} {k : Value → St → Prop} (h : c30 x_0 S k) : WC E0 30 [sv G36 x_0] S k :=
  WC_den h30 rfl (by kernel_rfl) (by kernel_rfl : Tryz.f30.body = some (bodyOf Tryz.f30)) (by rw [show (denF E0 h30 Tryz.f30 (bodyOf Tryz.f30) [sv G36 x_0] S k) = c30 x_0 S k by kernel_rfl]; exact h)

/-! 31 slices.ContainsFunc[[]wagonway/api.Step,wagonway/api.Step] -/
noncomputable def h31 : Hn := .no
def c31 (s_0 : Sl) (f_1 : Value) (S : St) (k : Value → St → Prop) : Prop :=
  evC E0 tI 55 [.slice s_0.a s_0.len s_0.cap, f_1] S fun (n1 : Int) (S1 : St) => k (.bool (leI 0 n1)) S1
theorem w31 (s_0 : Sl) (f_1 : Value) {S : St} {k : Value → St → Prop} (h : c31 s_0 f_1 S k) : WC E0 31 [.slice s_0.a s_0.len s_0.cap, f_1] S k :=
  WC_den h31 rfl (by kernel_rfl) (by kernel_rfl : Tryz.f31.body = some (bodyOf Tryz.f31)) (by rw [show (denF E0 h31 Tryz.f31 (bodyOf Tryz.f31) [.slice s_0.a s_0.len s_0.cap, f_1] S k) = c31 s_0 f_1 S k by kernel_rfl]; exact h)

/-! 32 wagonway/order.Line -/
noncomputable def h32 : Hn := (.n .no (.n .no (.n .no (.n (.n .no (.n (.n .no (.n (.n .no (.n .no .no (some ⟨[5], [(7, .sc .str)], false⟩)) none) .no none) (some ⟨[], [(20, .sc (.int .u8))], false⟩)) .no none) none) .no none) none) none) none)
def c32 (x_0 : Int × Int × Int × Int × Int × Int) (S : St) (k : Value → St → Prop) : Prop :=
  newW S
  (.cells
  [.int .i64 x_0.1, .int .i64 x_0.2.1, .int .i64 x_0.2.2.1, .int .i64 x_0.2.2.2.1, .int .i64 x_0.2.2.2.2.1,
  .int .u64 x_0.2.2.2.2.2]
  none false none)
  fun (b1 : Nat) (S1 : St) =>
  evV (TT.one (Ty.agg G36)) (loadV E0 S1 37 (.pointer (some ⟨b1, 0, none⟩))) fun (x1 : Int × Int × Int × Int × Int × Int) =>
  evC E0 tI 30 [sv G36 x1] S1 fun (n1 : Int) (S2 : St) =>
  ifW (!eqI n1 0) (k (.tuple #[.string { data := #[] }, .int .i64 n1]) S2)
  (ptrW (some ⟨b1, 0, none⟩) fun (b2 b3 : Nat) =>
  evV tI (loadV E0 S2 3 (.pointer (some ⟨b2, b3 + 0, none⟩))) fun (n2 : Int) =>
  evC E0 tT 52 [.int .i64 n2] S2 fun (l1 : List UInt8) (S3 : St) =>
  newW S3 (.cells [.string { data := List.toArray l1 }] none false none) fun (b4 : Nat) (S4 : St) =>
  newW S4 (.cells [.slice none 0 0] none false none) fun (b5 : Nat) (S5 : St) =>
  evS (storeV E0 S5 78 (.pointer (some ⟨b5, 0, none⟩)) (.slice (some ⟨b4, 0, none⟩) 1 1)) fun (S6 : St) =>
  ptrW (some ⟨b1, 0, none⟩) fun (b6 b7 : Nat) =>
  evV tI (loadV E0 S6 3 (.pointer (some ⟨b6, b7 + 0, none⟩))) fun (n3 : Int) =>
  evC E0 tA 53 [.int .i64 n3] S6 fun (v1 : Value) (S7 : St) =>
  newW S7 DObj.deferred fun (b8 : Nat) (S8 : St) =>
  ∀ (b9 : Nat) (S9 : St) (k1 : LoopState → Option Code → DObj),
  b9 = S8.next →
  S9 = (St.alloc S8 (k1 LoopState.ready none)).2 →
  (LoopL fun (x2 : LoopState) (p1 : Option Code) => k1 x2 p1) →
  (RoundH E0 b9 [Ty.sc (Sc.int .u8)] fun (n4 : Int) (S10 : St) (k2 : Bool → St → Prop) =>
  hasW S10 b9 (k1 LoopState.ready none)
  (hasW S10 b9 (k1 LoopState.ready none)
  (updW S10 b9 (k1 LoopState.busy none) fun (S11 : St) =>
  ptrW (some ⟨b1, 0, none⟩) fun (b10 b11 : Nat) =>
  evV tI (loadV E0 S11 3 (.pointer (some ⟨b10, b11 + 2, none⟩))) fun (n5 : Int) =>
  evC E0 tT 33 [.int .i64 n5] S11 fun (l2 : List UInt8) (S12 : St) =>
  joinW
  (fun (l3 : List UInt8) (S13 : St) =>
  evV tS (loadV E0 S13 78 (.pointer (some ⟨b5, 0, none⟩))) fun (s1 : Sl) =>
  newW S13 (.cells [.string { data := List.toArray l3 }] none false none) fun (b12 : Nat) (S14 : St) =>
  evP tS (appendD E0 S14 78 78 (.slice s1.a s1.len s1.cap) (.slice (some ⟨b12, 0, none⟩) 1 1)) fun (s2 : Sl) (S15 : St) =>
  evS (storeV E0 S15 78 (.pointer (some ⟨b5, 0, none⟩)) (.slice s2.a s2.len s2.cap)) fun (S16 : St) =>
  hasW S16 b9 (k1 LoopState.busy none) (updW S16 b9 (k1 LoopState.ready none) fun (S17 : St) => k2 true S17))
  fun (k3 : List UInt8 → St → Prop) =>
  ifW (eqI n4 114)
  (ptrW (some ⟨b1, 0, none⟩) fun (b13 b14 : Nat) =>
  evV tI (loadV E0 S12 3 (.pointer (some ⟨b13, b14 + 1, none⟩))) fun (n6 : Int) =>
  evC E0 tT 33 [.int .i64 n6] S12 fun (l4 : List UInt8) (S18 : St) => k3 l4 S18)
  (ifW (eqI n4 100)
  (ptrW (some ⟨b1, 0, none⟩) fun (b15 b16 : Nat) =>
  evV tU (loadV E0 S12 35 (.pointer (some ⟨b15, b16 + 5, none⟩))) fun (n7 : Int) =>
  evC E0 tT 56 [.int .u64 n7, .int .i64 10] S12 fun (l5 : List UInt8) (S19 : St) => k3 l5 S19)
  (ifW (eqI n4 97)
  (ptrW (some ⟨b1, 0, none⟩) fun (b17 b18 : Nat) =>
  evV tI (loadV E0 S12 3 (.pointer (some ⟨b17, b18 + 3, none⟩))) fun (n8 : Int) =>
  evC E0 tT 33 [.int .i64 n8] S12 fun (l6 : List UInt8) (S20 : St) => k3 l6 S20)
  (ifW (eqI n4 119)
  (ptrW (some ⟨b1, 0, none⟩) fun (b19 b20 : Nat) =>
  evV tI (loadV E0 S12 3 (.pointer (some ⟨b19, b20 + 4, none⟩))) fun (n9 : Int) =>
  evC E0 tT 33 [.int .i64 n9] S12 fun (l7 : List UInt8) (S21 : St) => k3 l7 S21)
  (ifW (eqI n4 117)
  (ptrW (some ⟨b1, 0, none⟩) fun (b21 b22 : Nat) =>
  evV tI (loadV E0 S12 3 (.pointer (some ⟨b21, b22 + 2, none⟩))) fun (n10 : Int) =>
  ifW (ltI n10 0) (k3 [UInt8.ofNat 97, UInt8.ofNat 108, UInt8.ofNat 108] S12) (k3 l2 S12))
  (k3 l2 S12)))))))) →
  WG E0 v1 b9 S9 fun (S22 : St) =>
  hasW S22 b9 (k1 LoopState.ready none)
  (updW S22 b9 (k1 LoopState.exhausted none) fun (S23 : St) =>
  evV tS (loadV E0 S23 78 (.pointer (some ⟨b5, 0, none⟩))) fun (s3 : Sl) =>
  evC E0 tT 34 [.slice s3.a s3.len s3.cap, .string { data := #[UInt8.ofNat 32] }] S23 fun (l8 : List UInt8) (S24 : St) =>
  hasW S24 b8 DObj.deferred (updW S24 b8 DObj.dead fun (S25 : St) => k (.tuple #[.string { data := List.toArray l8 }, .int .i64 0]) S25)) ∨
  False)
theorem w32 (x_0 : Int × Int × Int × Int × Int × Int) {S : St} {k : Value → St → Prop} (h : c32 x_0 S k) : WC E0 32 [sv G36 x_0] S k :=
  WC_den h32 rfl (by kernel_rfl) (by kernel_rfl : Tryz.f32.body = some (bodyOf Tryz.f32)) (by rw [show (denF E0 h32 Tryz.f32 (bodyOf Tryz.f32) [sv G36 x_0] S k) = c32 x_0 S k by kernel_rfl]; exact h)

/-! 33 strconv.Itoa -/
noncomputable def h33 : Hn := .no
def c33 (i_0 : Int) (S : St) (k : Value → St → Prop) : Prop :=
  evC E0 tT 57 [.int .i64 i_0] S fun (l1 : List UInt8) (S1 : St) => k (.string { data := List.toArray l1 }) S1
theorem w33 (i_0 : Int) {S : St} {k : Value → St → Prop} (h : c33 i_0 S k) : WC E0 33 [.int .i64 i_0] S k :=
  WC_den h33 rfl (by kernel_rfl) (by kernel_rfl : Tryz.f33.body = some (bodyOf Tryz.f33)) (by rw [show (denF E0 h33 Tryz.f33 (bodyOf Tryz.f33) [.int .i64 i_0] S k) = c33 i_0 S k by kernel_rfl]; exact h)

/-! 36 wagonway/wagonwayref28.May -/
noncomputable def h36 : Hn := (.n .no (.n .no (.n .no (.n (.n .no (.n (.n .no .no (some ⟨[1], [(4, .sc (.int .i64))], false⟩)) .no none) none) .no none) none) none) none)
def c36 (x_0 : Int × Int × Int × Int × Int × Int × Int × Sl) (S : St) (k : Value → St → Prop) : Prop :=
  newW S
  (.cells
  [.int .i64 x_0.1, .int .i64 x_0.2.1, .int .i64 x_0.2.2.1, .int .i64 x_0.2.2.2.1, .int .i64 x_0.2.2.2.2.1,
  .int .u64 x_0.2.2.2.2.2.1, .int .i64 x_0.2.2.2.2.2.2.1,
  .slice x_0.2.2.2.2.2.2.2.a x_0.2.2.2.2.2.2.2.len x_0.2.2.2.2.2.2.2.cap]
  none false none)
  fun (b1 : Nat) (S1 : St) =>
  ptrW (some ⟨b1, 0, none⟩) fun (b2 b3 : Nat) =>
  evV (TT.one (Ty.agg G36)) (loadV E0 S1 37 (.pointer (some ⟨b2, b3 + 0, none⟩))) fun (x1 : Int × Int × Int × Int × Int × Int) =>
  evC E0 tB 60 [sv G36 x1] S1 fun (t1 : Bool) (S2 : St) =>
  ifW (!t1) (k (.bool false) S2)
  (ptrW (some ⟨b1, 0, none⟩) fun (b4 b5 : Nat) =>
  evV tI (loadV E0 S2 24 (.pointer (some ⟨b4, b5 + 6, none⟩))) fun (n1 : Int) =>
  ifW (ltI n1 0) (k (.bool false) S2)
  (ptrW (some ⟨b1, 0, none⟩) fun (b6 b7 : Nat) =>
  evV tI (loadV E0 S2 24 (.pointer (some ⟨b6, b7 + 6, none⟩))) fun (n2 : Int) =>
  ifW (ltI 999 n2) (k (.bool false) S2)
  (ptrW (some ⟨b1, 0, none⟩) fun (b8 b9 : Nat) =>
  evV tS (loadV E0 S2 33 (.pointer (some ⟨b8, b9 + 7, none⟩))) fun (s1 : Sl) =>
  ifW (ltI 1000 (↑s1.len : Int)) (k (.bool false) S2)
  (ptrW (some ⟨b1, 0, none⟩) fun (b10 b11 : Nat) =>
  evV tI (loadV E0 S2 24 (.pointer (some ⟨b10, b11 + 6, none⟩))) fun (n3 : Int) =>
  ifW (ltI 0 n3)
  (ptrW (some ⟨b1, 0, none⟩) fun (b12 b13 : Nat) =>
  evV tS (loadV E0 S2 33 (.pointer (some ⟨b12, b13 + 7, none⟩))) fun (s2 : Sl) =>
  ifW (ltI 0 (↑s2.len : Int)) (k (.bool false) S2)
  (loopW
  (fun (k1 : Int → St → Prop) (n4 : Int) (S3 : St) =>
  ptrW (some ⟨b1, 0, none⟩) fun (b14 b15 : Nat) =>
  evV tS (loadV E0 S3 33 (.pointer (some ⟨b14, b15 + 7, none⟩))) fun (s3 : Sl) =>
  ifW (ltI n4 (↑s3.len : Int))
  (ptrW (some ⟨b1, 0, none⟩) fun (b16 b17 : Nat) =>
  evV tS (loadV E0 S3 33 (.pointer (some ⟨b16, b17 + 7, none⟩))) fun (s4 : Sl) =>
  idxW s4.a s4.len n4 fun (b18 b19 : Nat) =>
  evV (TT.one (Ty.agg G40)) (loadV E0 S3 41 (.pointer (some ⟨b18, b19 + Int.toNat n4 * 3, none⟩))) fun (x2 : Int × Int × Int) =>
  newW S3 (.cells [.int .i64 0, .int .i64 0, .int .i64 0] none false none) fun (b20 : Nat) (S4 : St) =>
  evS (storeV E0 S4 41 (.pointer (some ⟨b20, 0, none⟩)) (sv G40 x2)) fun (S5 : St) =>
  ptrW (some ⟨b20, 0, none⟩) fun (b21 b22 : Nat) =>
  evV tI (loadV E0 S5 3 (.pointer (some ⟨b21, b22 + 0, none⟩))) fun (n5 : Int) =>
  ifW (ltI n5 1) (k (.bool false) S5)
  (ptrW (some ⟨b20, 0, none⟩) fun (b23 b24 : Nat) =>
  evV tI (loadV E0 S5 3 (.pointer (some ⟨b23, b24 + 0, none⟩))) fun (n6 : Int) =>
  ifW (ltI 3 n6) (k (.bool false) S5)
  (ptrW (some ⟨b20, 0, none⟩) fun (b25 b26 : Nat) =>
  evV tI (loadV E0 S5 3 (.pointer (some ⟨b25, b26 + 1, none⟩))) fun (n7 : Int) =>
  ifW (ltI n7 0) (k (.bool false) S5)
  (ptrW (some ⟨b20, 0, none⟩) fun (b27 b28 : Nat) =>
  evV tI (loadV E0 S5 3 (.pointer (some ⟨b27, b28 + 1, none⟩))) fun (n8 : Int) =>
  ifW (ltI 63 n8) (k (.bool false) S5)
  (ptrW (some ⟨b20, 0, none⟩) fun (b29 b30 : Nat) =>
  evV tI (loadV E0 S5 3 (.pointer (some ⟨b29, b30 + 2, none⟩))) fun (n9 : Int) =>
  ifW (ltI n9 0) (k (.bool false) S5)
  (ptrW (some ⟨b20, 0, none⟩) fun (b31 b32 : Nat) =>
  evV tI (loadV E0 S5 3 (.pointer (some ⟨b31, b32 + 2, none⟩))) fun (n10 : Int) =>
  ifW (ltI 1023 n10) (k (.bool false) S5) (k1 (wrapI .i64 (n4 + 1)) S5)))))))
  (k (.bool true) S3))
  0 S2))
  (loopW
  (fun (k2 : Int → St → Prop) (n11 : Int) (S6 : St) =>
  ptrW (some ⟨b1, 0, none⟩) fun (b33 b34 : Nat) =>
  evV tS (loadV E0 S6 33 (.pointer (some ⟨b33, b34 + 7, none⟩))) fun (s5 : Sl) =>
  ifW (ltI n11 (↑s5.len : Int))
  (ptrW (some ⟨b1, 0, none⟩) fun (b35 b36 : Nat) =>
  evV tS (loadV E0 S6 33 (.pointer (some ⟨b35, b36 + 7, none⟩))) fun (s6 : Sl) =>
  idxW s6.a s6.len n11 fun (b37 b38 : Nat) =>
  evV (TT.one (Ty.agg G40)) (loadV E0 S6 41 (.pointer (some ⟨b37, b38 + Int.toNat n11 * 3, none⟩))) fun (x3 : Int × Int × Int) =>
  newW S6 (.cells [.int .i64 0, .int .i64 0, .int .i64 0] none false none) fun (b39 : Nat) (S7 : St) =>
  evS (storeV E0 S7 41 (.pointer (some ⟨b39, 0, none⟩)) (sv G40 x3)) fun (S8 : St) =>
  ptrW (some ⟨b39, 0, none⟩) fun (b40 b41 : Nat) =>
  evV tI (loadV E0 S8 3 (.pointer (some ⟨b40, b41 + 0, none⟩))) fun (n12 : Int) =>
  ifW (ltI n12 1) (k (.bool false) S8)
  (ptrW (some ⟨b39, 0, none⟩) fun (b42 b43 : Nat) =>
  evV tI (loadV E0 S8 3 (.pointer (some ⟨b42, b43 + 0, none⟩))) fun (n13 : Int) =>
  ifW (ltI 3 n13) (k (.bool false) S8)
  (ptrW (some ⟨b39, 0, none⟩) fun (b44 b45 : Nat) =>
  evV tI (loadV E0 S8 3 (.pointer (some ⟨b44, b45 + 1, none⟩))) fun (n14 : Int) =>
  ifW (ltI n14 0) (k (.bool false) S8)
  (ptrW (some ⟨b39, 0, none⟩) fun (b46 b47 : Nat) =>
  evV tI (loadV E0 S8 3 (.pointer (some ⟨b46, b47 + 1, none⟩))) fun (n15 : Int) =>
  ifW (ltI 63 n15) (k (.bool false) S8)
  (ptrW (some ⟨b39, 0, none⟩) fun (b48 b49 : Nat) =>
  evV tI (loadV E0 S8 3 (.pointer (some ⟨b48, b49 + 2, none⟩))) fun (n16 : Int) =>
  ifW (ltI n16 0) (k (.bool false) S8)
  (ptrW (some ⟨b39, 0, none⟩) fun (b50 b51 : Nat) =>
  evV tI (loadV E0 S8 3 (.pointer (some ⟨b50, b51 + 2, none⟩))) fun (n17 : Int) =>
  ifW (ltI 1023 n17) (k (.bool false) S8) (k2 (wrapI .i64 (n11 + 1)) S8)))))))
  (k (.bool true) S6))
  0 S2)))))
theorem w36 (x_0 : Int × Int × Int × Int × Int × Int × Int × Sl) {S : St} {k : Value → St → Prop} (h : c36 x_0 S k) : WC E0 36 [sv G38 x_0] S k :=
  WC_den h36 rfl (by kernel_rfl) (by kernel_rfl : Tryz.f36.body = some (bodyOf Tryz.f36)) (by rw [show (denF E0 h36 Tryz.f36 (bodyOf Tryz.f36) [sv G38 x_0] S k) = c36 x_0 S k by kernel_rfl]; exact h)

/-! 37 wagonway/wagonwayref23.Line -/
noncomputable def h37 : Hn := (.n .no (.n .no (.n .no (.n .no (.n (.n .no .no (some ⟨[1, 5], [(20, .sc .bool)], false⟩)) (.n (.n (.n .no (.n .no (.n .no .no (some ⟨[1, 5], [(38, .sc .bool)], false⟩)) none) none) .no none) .no (some ⟨[1], [(5, .sc .str)], false⟩)) (some ⟨[1], [(5, .sc .str)], false⟩)) none) none) none) none)
def c37 (x_0 : Int × Int × Int × Int × Int × Int) (S : St) (k : Value → St → Prop) : Prop :=
  newW S
  (.cells
  [.int .i64 x_0.1, .int .i64 x_0.2.1, .int .i64 x_0.2.2.1, .int .i64 x_0.2.2.2.1, .int .i64 x_0.2.2.2.2.1,
  .int .u64 x_0.2.2.2.2.2]
  none false none)
  fun (b1 : Nat) (S1 : St) =>
  evV (TT.one (Ty.agg G36)) (loadV E0 S1 37 (.pointer (some ⟨b1, 0, none⟩))) fun (x1 : Int × Int × Int × Int × Int × Int) =>
  evC E0 tB 60 [sv G36 x1] S1 fun (t1 : Bool) (S2 : St) =>
  ifW (!t1) (k (.tuple #[.string { data := #[] }, .int .i64 230]) S2)
  (ptrW (some ⟨b1, 0, none⟩) fun (b2 b3 : Nat) =>
  evV tI (loadV E0 S2 3 (.pointer (some ⟨b2, b3 + 0, none⟩))) fun (n1 : Int) =>
  evC E0 tT 61 [.int .i64 n1] S2 fun (l1 : List UInt8) (S3 : St) =>
  joinW
  (fun (l2 : List UInt8) (S4 : St) =>
  joinW
  (fun (l3 : List UInt8) (S5 : St) =>
  ptrW (some ⟨b1, 0, none⟩) fun (b4 b5 : Nat) =>
  evV tI (loadV E0 S5 3 (.pointer (some ⟨b4, b5 + 0, none⟩))) fun (n2 : Int) =>
  ifW (eqI n2 5)
  (evV tT (catD { data := List.toArray l3 } { data := #[UInt8.ofNat 32] }) fun (l4 : List UInt8) =>
  ptrW (some ⟨b1, 0, none⟩) fun (b6 b7 : Nat) =>
  evV tI (loadV E0 S5 3 (.pointer (some ⟨b6, b7 + 3, none⟩))) fun (n3 : Int) =>
  evC E0 tT 62 [.int .u64 (wrapI .u64 n3)] S5 fun (l5 : List UInt8) (S6 : St) =>
  evV tT (catD { data := List.toArray l4 } { data := List.toArray l5 }) fun (l6 : List UInt8) =>
  evV tT (catD { data := List.toArray l6 } { data := #[UInt8.ofNat 32] }) fun (l7 : List UInt8) =>
  ptrW (some ⟨b1, 0, none⟩) fun (b8 b9 : Nat) =>
  evV tI (loadV E0 S6 3 (.pointer (some ⟨b8, b9 + 4, none⟩))) fun (n4 : Int) =>
  evV tI (loadV E0 S5 3 (.pointer (some ⟨b8, b9 + 4, none⟩))) fun (n5 : Int) =>
  sameV (.int .i64 n5) (.int .i64 n4)
  (evC E0 tT 62 [.int .u64 (wrapI .u64 n4)] S6 fun (l8 : List UInt8) (S7 : St) =>
  evV tT (catD { data := List.toArray l7 } { data := List.toArray l8 }) fun (l9 : List UInt8) =>
  k (.tuple #[.string { data := List.toArray l9 }, .int .i64 0]) S7))
  (k (.tuple #[.string { data := List.toArray l3 }, .int .i64 0]) S5))
  fun (k1 : List UInt8 → St → Prop) =>
  ptrW (some ⟨b1, 0, none⟩) fun (b10 b11 : Nat) =>
  evV tI (loadV E0 S4 3 (.pointer (some ⟨b10, b11 + 0, none⟩))) fun (n6 : Int) =>
  ifW (eqI n6 1)
  (evV tT (catD { data := List.toArray l2 } { data := #[UInt8.ofNat 32] }) fun (l10 : List UInt8) =>
  ptrW (some ⟨b1, 0, none⟩) fun (b12 b13 : Nat) =>
  evV tU (loadV E0 S4 35 (.pointer (some ⟨b12, b13 + 5, none⟩))) fun (n7 : Int) =>
  evC E0 tT 62 [.int .u64 n7] S4 fun (l11 : List UInt8) (S8 : St) => evV tT (catD { data := List.toArray l10 } { data := List.toArray l11 }) fun (l12 : List UInt8) => k1 l12 S8)
  (joinW
  (fun (t2 : Bool) (S9 : St) =>
  ifW t2 (evV tT (catD { data := List.toArray l2 } { data := #[UInt8.ofNat 32, UInt8.ofNat 97, UInt8.ofNat 108, UInt8.ofNat 108] }) fun (l13 : List UInt8) => k1 l13 S9)
  (ptrW (some ⟨b1, 0, none⟩) fun (b14 b15 : Nat) =>
  evV tI (loadV E0 S9 3 (.pointer (some ⟨b14, b15 + 0, none⟩))) fun (n8 : Int) =>
  ifW (!eqI n8 6)
  (evV tT (catD { data := List.toArray l2 } { data := #[UInt8.ofNat 32] }) fun (l14 : List UInt8) =>
  ptrW (some ⟨b1, 0, none⟩) fun (b16 b17 : Nat) =>
  evV tI (loadV E0 S9 3 (.pointer (some ⟨b16, b17 + 2, none⟩))) fun (n9 : Int) =>
  evC E0 tT 62 [.int .u64 (wrapI .u64 n9)] S9 fun (l15 : List UInt8) (S10 : St) =>
  evV tT (catD { data := List.toArray l14 } { data := List.toArray l15 }) fun (l16 : List UInt8) => k1 l16 S10)
  (k1 l2 S9)))
  fun (k2 : Bool → St → Prop) =>
  ptrW (some ⟨b1, 0, none⟩) fun (b18 b19 : Nat) =>
  evV tI (loadV E0 S4 3 (.pointer (some ⟨b18, b19 + 0, none⟩))) fun (n10 : Int) =>
  ifW (eqI n10 9)
  (ptrW (some ⟨b1, 0, none⟩) fun (b20 b21 : Nat) => evV tI (loadV E0 S4 3 (.pointer (some ⟨b20, b21 + 2, none⟩))) fun (n11 : Int) => k2 (ltI n11 0) S4)
  (k2 false S4)))
  fun (k3 : List UInt8 → St → Prop) =>
  joinW
  (fun (t3 : Bool) (S11 : St) =>
  ifW t3
  (evV tT (catD { data := List.toArray l1 } { data := #[UInt8.ofNat 32] }) fun (l17 : List UInt8) =>
  ptrW (some ⟨b1, 0, none⟩) fun (b22 b23 : Nat) =>
  evV tI (loadV E0 S11 3 (.pointer (some ⟨b22, b23 + 1, none⟩))) fun (n12 : Int) =>
  evC E0 tT 62 [.int .u64 (wrapI .u64 n12)] S11 fun (l18 : List UInt8) (S12 : St) =>
  evV tT (catD { data := List.toArray l17 } { data := List.toArray l18 }) fun (l19 : List UInt8) => k3 l19 S12)
  (k3 l1 S11))
  fun (k4 : Bool → St → Prop) =>
  ptrW (some ⟨b1, 0, none⟩) fun (b24 b25 : Nat) =>
  evV tI (loadV E0 S3 3 (.pointer (some ⟨b24, b25 + 0, none⟩))) fun (n13 : Int) =>
  ifW (eqI n13 1) (k4 true S3)
  (ptrW (some ⟨b1, 0, none⟩) fun (b26 b27 : Nat) => evV tI (loadV E0 S3 3 (.pointer (some ⟨b26, b27 + 0, none⟩))) fun (n14 : Int) => k4 (leI 6 n14) S3))
theorem w37 (x_0 : Int × Int × Int × Int × Int × Int) {S : St} {k : Value → St → Prop} (h : c37 x_0 S k) : WC E0 37 [sv G36 x_0] S k :=
  WC_den h37 rfl (by kernel_rfl) (by kernel_rfl : Tryz.f37.body = some (bodyOf Tryz.f37)) (by rw [show (denF E0 h37 Tryz.f37 (bodyOf Tryz.f37) [sv G36 x_0] S k) = c37 x_0 S k by kernel_rfl]; exact h)

/-! 38 wagonway/wagonwayref28.digits -/
noncomputable def h38 : Hn := (.n .no (.n .no (.n (.n (.n .no .no (some ⟨[], [(0, .sc (.int .i64)), (3, .sc .str)], false⟩)) .no none) .no none) none) none)
def c38 (n_0 : Int) (S : St) (k : Value → St → Prop) : Prop :=
  needW true
  (newW S (.cells [.int .u8 (wrapI .u8 (wrapI .i64 (48 + Int.tmod n_0 10)))] none false none) fun (b1 : Nat) (S1 : St) =>
  evP tT (convertD E0 S1 52 9 (.slice (some ⟨b1, 0, none⟩) 1 1)) fun (l1 : List UInt8) (S2 : St) =>
  loopW
  (fun (k1 : Int × List UInt8 → St → Prop) (x1 : Int × List UInt8) (S3 : St) =>
  ifW (ltI 9 x1.1)
  (needW true
  (needW true
  (newW S3 (.cells [.int .u8 (wrapI .u8 (wrapI .i64 (48 + Int.tmod (wrapI .i64 (Int.tdiv x1.1 10)) 10)))] none false none) fun (b2 : Nat) (S4 : St) =>
  evP tT (convertD E0 S4 52 9 (.slice (some ⟨b2, 0, none⟩) 1 1)) fun (l2 : List UInt8) (S5 : St) =>
  evV tT (catD { data := List.toArray l2 } { data := List.toArray x1.2 }) fun (l3 : List UInt8) => k1 (wrapI .i64 (Int.tdiv x1.1 10), l3) S5)))
  (k (.string { data := List.toArray x1.2 }) S3))
  (n_0, l1) S2)
theorem w38 (n_0 : Int) {S : St} {k : Value → St → Prop} (h : c38 n_0 S k) : WC E0 38 [.int .i64 n_0] S k :=
  WC_den h38 rfl (by kernel_rfl) (by kernel_rfl : Tryz.f38.body = some (bodyOf Tryz.f38)) (by rw [show (denF E0 h38 Tryz.f38 (bodyOf Tryz.f38) [.int .i64 n_0] S k) = c38 n_0 S k by kernel_rfl]; exact h)

/-! 39 wagonway/wagonwayref28.word -/
noncomputable def h39 : Hn := .no
def c39 (kind_0 : Int) (S : St) (k : Value → St → Prop) : Prop :=
  ifW (ltI kind_0 1) (k (.string { data := #[] }) S)
  (ifW (ltI 3 kind_0) (k (.string { data := #[] }) S)
  (newW S
  (.cells
  [.string { data := #[] }, .string { data := #[UInt8.ofNat 103, UInt8.ofNat 114, UInt8.ofNat 97, UInt8.ofNat 110, UInt8.ofNat 116] },
  .string { data := #[UInt8.ofNat 114, UInt8.ofNat 101, UInt8.ofNat 108, UInt8.ofNat 101, UInt8.ofNat 97, UInt8.ofNat 115, UInt8.ofNat 101] },
  .string { data := #[UInt8.ofNat 109, UInt8.ofNat 111, UInt8.ofNat 118, UInt8.ofNat 101] }]
  none false none)
  fun (b1 : Nat) (S1 : St) =>
  idxW (some ⟨b1, 0, none⟩) 4 kind_0 fun (b2 b3 : Nat) =>
  evV tT (loadV E0 S1 9 (.pointer (some ⟨b2, b3 + Int.toNat kind_0 * 1, none⟩))) fun (l1 : List UInt8) => k (.string { data := List.toArray l1 }) S1))
theorem w39 (kind_0 : Int) {S : St} {k : Value → St → Prop} (h : c39 kind_0 S k) : WC E0 39 [.int .i64 kind_0] S k :=
  WC_den h39 rfl (by kernel_rfl) (by kernel_rfl : Tryz.f39.body = some (bodyOf Tryz.f39)) (by rw [show (denF E0 h39 Tryz.f39 (bodyOf Tryz.f39) [.int .i64 kind_0] S k) = c39 kind_0 S k by kernel_rfl]; exact h)

/-! 40 strings.Lines$1 -/
noncomputable def h40 : Hn := (.n (.n (.n .no (.n (.n .no (.n .no .no (some ⟨[0, 1], [(3, .sc .str)], false⟩)) none) .no none) none) .no (some ⟨[0, 1], [], false⟩)) .no none)
def c40 (yield_0 : Value) (c1 : Nat) (S : St) (k : Value → St → Prop) : Prop :=
  loopW
  (fun (k1 : PUnit → St → Prop) (x1 : PUnit) (S1 : St) =>
  evV tT (loadV E0 S1 9 (.pointer (some ⟨c1, 0, none⟩))) fun (l1 : List UInt8) =>
  ifW (ltI 0 (↑(List.length l1) : Int))
  (joinW (fun (l2 : List UInt8) (S2 : St) => evY E0 tB yield_0 [.string { data := List.toArray l2 }] S2 fun (t1 : Bool) (S3 : St) => ifW (!t1) (k (.tuple #[]) S3) (k1 PUnit.unit S3))
  fun (k2 : List UInt8 → St → Prop) =>
  evV tT (loadV E0 S1 9 (.pointer (some ⟨c1, 0, none⟩))) fun (l3 : List UInt8) =>
  evC E0 tI 41 [.string { data := List.toArray l3 }, .int .u8 10] S1 fun (n1 : Int) (S4 : St) =>
  ifW (leI 0 n1)
  (evV tT (loadV E0 S4 9 (.pointer (some ⟨c1, 0, none⟩))) fun (l4 : List UInt8) =>
  evV tT (sliceD E0 S4 9 (.string { data := List.toArray l4 }) none (some (.int .i64 (wrapI .i64 (n1 + 1)))) none) fun (l5 : List UInt8) =>
  evV tT (loadV E0 S4 9 (.pointer (some ⟨c1, 0, none⟩))) fun (l6 : List UInt8) =>
  evV tT (sliceD E0 S4 9 (.string { data := List.toArray l6 }) (some (.int .i64 (wrapI .i64 (n1 + 1)))) none none) fun (l7 : List UInt8) =>
  evS (storeV E0 S4 9 (.pointer (some ⟨c1, 0, none⟩)) (.string { data := List.toArray l7 })) fun (S5 : St) => k2 l5 S5)
  (evV tT (loadV E0 S4 9 (.pointer (some ⟨c1, 0, none⟩))) fun (l8 : List UInt8) =>
  evS (storeV E0 S4 9 (.pointer (some ⟨c1, 0, none⟩)) (.string { data := #[] })) fun (S6 : St) => k2 l8 S6))
  (k (.tuple #[]) S1))
  PUnit.unit S
theorem w40 (yield_0 : Value) (c1 : Nat) {S : St} {k : Value → St → Prop} (h : c40 yield_0 c1 S k) : WC E0 40 [yield_0, .pointer (some ⟨c1, 0, none⟩)] S k :=
  WC_den h40 rfl (by kernel_rfl) (by kernel_rfl : Tryz.f40.body = some (bodyOf Tryz.f40)) (by rw [show (denF E0 h40 Tryz.f40 (bodyOf Tryz.f40) [yield_0, .pointer (some ⟨c1, 0, none⟩)] S k) = c40 yield_0 c1 S k by kernel_rfl]; exact h)

/-! 41 strings.IndexByte -/
noncomputable def h41 : Hn := .no
def c41 (s_0 : List UInt8) (c_1 : Int) (S : St) (k : Value → St → Prop) : Prop :=
  evC E0 tI 63 [.string { data := List.toArray s_0 }, .int .u8 c_1] S fun (n1 : Int) (S1 : St) => k (.int .i64 n1) S1
theorem w41 (s_0 : List UInt8) (c_1 : Int) {S : St} {k : Value → St → Prop} (h : c41 s_0 c_1 S k) : WC E0 41 [.string ⟨s_0.toArray⟩, .int .u8 c_1] S k :=
  WC_den h41 rfl (by kernel_rfl) (by kernel_rfl : Tryz.f41.body = some (bodyOf Tryz.f41)) (by rw [show (denF E0 h41 Tryz.f41 (bodyOf Tryz.f41) [.string ⟨s_0.toArray⟩, .int .u8 c_1] S k) = c41 s_0 c_1 S k by kernel_rfl]; exact h)

/-! 44 wagonway/diary.number -/
noncomputable def h44 : Hn := .no
def c44 (s_0 : List UInt8) (S : St) (k : Value → St → Prop) : Prop :=
  evC E0 (TT.tup [Ty.sc (Sc.int .i64), Ty.sc Sc.any]) 66 [.string { data := List.toArray s_0 }] S fun (x1 : Int × Value) (S1 : St) =>
    match x1.2, Value.nilIface with
    | Value.int x2 n1, Value.int x3 n2 =>
      Bool.rec False (ifW (!eqI n1 n2) (k (.int .i64 (-1)) S1) (k (.int .i64 x1.1) S1))
        (match x2, x3 with
        | .i8, .i8 => true
        | .i16, .i16 => true
        | .i32, .i32 => true
        | .i64, .i64 => true
        | .u8, .u8 => true
        | .u16, .u16 => true
        | .u32, .u32 => true
        | .u64, .u64 => true
        | x14, x15 => false)
    | .string x16, .string x17 => ifW (!x16.data.toList == x17.data.toList) (k (.int .i64 (-1)) S1) (k (.int .i64 x1.1) S1)
    | v3, v4 =>
      needB
        (match v3, v4 with
        | Value.nilIface, Value.nilIface => true
        | .agg x19, .agg x20 => false
        | v7, v8 => true)
        (eqW E0 S1 57 v3 v4 fun (t2 : Bool) => ifW (!t2) (k (.int .i64 (-1)) S1) (k (.int .i64 x1.1) S1))
theorem w44 (s_0 : List UInt8) {S : St} {k : Value → St → Prop} (h : c44 s_0 S k) : WC E0 44 [.string ⟨s_0.toArray⟩] S k :=
  WC_den h44 rfl (by kernel_rfl) (by kernel_rfl : Tryz.f44.body = some (bodyOf Tryz.f44)) (by rw [show (denF E0 h44 Tryz.f44 (bodyOf Tryz.f44) [.string ⟨s_0.toArray⟩] S k) = c44 s_0 S k by kernel_rfl]; exact h)

/-! 45 wagonway/order.Read -/
noncomputable def h45 : Hn := (.n .no (.n .no (.n .no (.n (.n .no (.n (.n .no .no (some ⟨[0, 2, 4, 5], [(17, .sc (.int .i64))], false⟩)) .no none) none) (.n .no (.n .no (.n (.n .no (.n (.n .no .no (some ⟨[], [(40, .sc (.int .u8))], false⟩)) .no none) none) .no none) none) none) none) none) none) none)
def c45 (s_0 : List UInt8) (S : St) (k : Value → St → Prop) : Prop :=
  newW S (.cells [.int .i64 0, .int .i64 0, .int .i64 0, .int .i64 0, .int .i64 0, .int .u64 0] none false none) fun (b1 : Nat) (S1 : St) =>
  evC E0 tS 43 [.string { data := List.toArray s_0 }, .string { data := #[UInt8.ofNat 32] }] S1 fun (s1 : Sl) (S2 : St) =>
  newW S2 (.cells [.slice none 0 0] none false none) fun (b2 : Nat) (S3 : St) =>
  evS (storeV E0 S3 78 (.pointer (some ⟨b2, 0, none⟩)) (.slice s1.a s1.len s1.cap)) fun (S4 : St) =>
  newW S4 (.cells [.int .i64 0, .int .i64 0, .int .i64 0, .int .i64 0, .int .i64 0, .int .u64 0] none false none)
  fun (b3 : Nat) (S5 : St) =>
  evS
  (storeV E0 S5 37 (.pointer (some ⟨b3, 0, none⟩))
  (.agg #[.int .i64 0, .int .i64 0, .int .i64 0, .int .i64 0, .int .i64 0, .int .u64 0]))
  fun (S6 : St) =>
  loopW
  (fun (k1 : Int → St → Prop) (n1 : Int) (S7 : St) =>
  ifW (ltI n1 10)
  (ifW (ltI 0 n1)
  (idxW (some ⟨1, 0, none⟩) 10 n1 fun (b4 b5 : Nat) =>
  evV tT (loadV E0 S7 9 (.pointer (some ⟨b4, b5 + Int.toNat n1 * 1, none⟩))) fun (l1 : List UInt8) =>
  evV tS (loadV E0 S7 78 (.pointer (some ⟨b2, 0, none⟩))) fun (s2 : Sl) =>
  idxW s2.a s2.len 0 fun (b6 b7 : Nat) =>
  evV tT (loadV E0 S7 9 (.pointer (some ⟨b6, b7 + Int.toNat 0 * 1, none⟩))) fun (l2 : List UInt8) =>
  ifW (l1 == l2)
  (ptrW (some ⟨b3, 0, none⟩) fun (b8 b9 : Nat) =>
  evS (storeV E0 S7 3 (.pointer (some ⟨b8, b9 + 0, none⟩)) (.int .i64 n1)) fun (S8 : St) => k1 (wrapI .i64 (n1 + 1)) S8)
  (k1 (wrapI .i64 (n1 + 1)) S7))
  (k1 (wrapI .i64 (n1 + 1)) S7))
  (evV tS (loadV E0 S7 78 (.pointer (some ⟨b2, 0, none⟩))) fun (s3 : Sl) =>
  evV tS (sliceD E0 S7 78 (.slice s3.a s3.len s3.cap) (some (.int .i64 1)) none none) fun (s4 : Sl) =>
  evS (storeV E0 S7 78 (.pointer (some ⟨b2, 0, none⟩)) (.slice s4.a s4.len s4.cap)) fun (S9 : St) =>
  newW S9 (.cells [Value.nilFunc] none false none) fun (b10 : Nat) (S10 : St) =>
  evS (storeV E0 S10 60 (.pointer (some ⟨b10, 0, none⟩)) (.func (Fn.func 67) #[] #[.pointer (some ⟨b2, 0, none⟩)])) fun (S11 : St) =>
  ptrW (some ⟨b3, 0, none⟩) fun (b11 b12 : Nat) =>
  evV tI (loadV E0 S11 3 (.pointer (some ⟨b11, b12 + 0, none⟩))) fun (n2 : Int) =>
  evC E0 tA 53 [.int .i64 n2] S11 fun (v1 : Value) (S12 : St) =>
  newW S12 DObj.deferred fun (b13 : Nat) (S13 : St) =>
  ∀ (b14 : Nat) (S14 : St) (k2 : LoopState → Option Code → DObj),
  b14 = S13.next →
  S14 = (St.alloc S13 (k2 LoopState.ready none)).2 →
  (LoopL fun (x1 : LoopState) (p1 : Option Code) => k2 x1 p1) →
  (RoundH E0 b14 [Ty.sc (Sc.int .u8)] fun (n3 : Int) (S15 : St) (k3 : Bool → St → Prop) =>
  hasW S15 b14 (k2 LoopState.ready none)
  (hasW S15 b14 (k2 LoopState.ready none)
  (updW S15 b14 (k2 LoopState.busy none) fun (S16 : St) =>
  evV tA (loadV E0 S16 60 (.pointer (some ⟨b10, 0, none⟩))) fun (v2 : Value) =>
  evY E0 tT v2 [] S16 fun (l3 : List UInt8) (S17 : St) =>
  evC E0 (TT.tup [Ty.sc (Sc.int .i64), Ty.sc Sc.any]) 66 [.string { data := List.toArray l3 }] S17 fun (x2 : Int × Value) (S18 : St) =>
  ifW (eqI n3 114)
  (ptrW (some ⟨b3, 0, none⟩) fun (b15 b16 : Nat) =>
  evS (storeV E0 S18 3 (.pointer (some ⟨b15, b16 + 1, none⟩)) (.int .i64 x2.1)) fun (S19 : St) =>
  hasW S19 b14 (k2 LoopState.busy none) (updW S19 b14 (k2 LoopState.ready none) fun (S20 : St) => k3 true S20))
  (ifW (eqI n3 100)
  (evC E0 (TT.tup [Ty.sc (Sc.int .u64), Ty.sc Sc.any]) 68
  [.string { data := List.toArray l3 }, .int .i64 10, .int .i64 64] S18 fun (x3 : Int × Value) (S21 : St) =>
  ptrW (some ⟨b3, 0, none⟩) fun (b17 b18 : Nat) =>
  evS (storeV E0 S21 35 (.pointer (some ⟨b17, b18 + 5, none⟩)) (.int .u64 x3.1)) fun (S22 : St) =>
  hasW S22 b14 (k2 LoopState.busy none) (updW S22 b14 (k2 LoopState.ready none) fun (S23 : St) => k3 true S23))
  (ifW (eqI n3 97)
  (ptrW (some ⟨b3, 0, none⟩) fun (b19 b20 : Nat) =>
  evS (storeV E0 S18 3 (.pointer (some ⟨b19, b20 + 3, none⟩)) (.int .i64 x2.1)) fun (S24 : St) =>
  hasW S24 b14 (k2 LoopState.busy none) (updW S24 b14 (k2 LoopState.ready none) fun (S25 : St) => k3 true S25))
  (ifW (eqI n3 119)
  (ptrW (some ⟨b3, 0, none⟩) fun (b21 b22 : Nat) =>
  evS (storeV E0 S18 3 (.pointer (some ⟨b21, b22 + 4, none⟩)) (.int .i64 x2.1)) fun (S26 : St) =>
  hasW S26 b14 (k2 LoopState.busy none) (updW S26 b14 (k2 LoopState.ready none) fun (S27 : St) => k3 true S27))
  (ptrW (some ⟨b3, 0, none⟩) fun (b23 b24 : Nat) =>
  evS (storeV E0 S18 3 (.pointer (some ⟨b23, b24 + 2, none⟩)) (.int .i64 x2.1)) fun (S28 : St) =>
  ifW (eqI n3 117)
  (ifW (l3 == [UInt8.ofNat 97, UInt8.ofNat 108, UInt8.ofNat 108])
  (ptrW (some ⟨b3, 0, none⟩) fun (b25 b26 : Nat) =>
  evS (storeV E0 S28 3 (.pointer (some ⟨b25, b26 + 2, none⟩)) (.int .i64 (-1))) fun (S29 : St) =>
  hasW S29 b14 (k2 LoopState.busy none) (updW S29 b14 (k2 LoopState.ready none) fun (S30 : St) => k3 true S30))
  (hasW S28 b14 (k2 LoopState.busy none) (updW S28 b14 (k2 LoopState.ready none) fun (S31 : St) => k3 true S31)))
  (hasW S28 b14 (k2 LoopState.busy none) (updW S28 b14 (k2 LoopState.ready none) fun (S32 : St) => k3 true S32))))))))) →
  WG E0 v1 b14 S14 fun (S33 : St) =>
  hasW S33 b14 (k2 LoopState.ready none)
  (updW S33 b14 (k2 LoopState.exhausted none) fun (S34 : St) =>
  evV (TT.one (Ty.agg G36)) (loadV E0 S34 37 (.pointer (some ⟨b3, 0, none⟩))) fun (x4 : Int × Int × Int × Int × Int × Int) =>
  evC E0 (TT.tup [Ty.sc Sc.str, Ty.sc (Sc.int .i64)]) 32 [sv G36 x4] S34 fun (x5 : List UInt8 × Int) (S35 : St) =>
  ifW (!eqI x5.2 0)
  (evS
  (storeV E0 S35 37 (.pointer (some ⟨b1, 0, none⟩))
  (.agg
  #[.int .i64 0, .int .i64 0, .int .i64 0, .int .i64 0, .int .i64 0, .int .u64 0]))
  fun (S36 : St) =>
  hasW S36 b13 DObj.deferred
  (updW S36 b13 DObj.dead fun (S37 : St) =>
  evV (TT.one (Ty.agg G36)) (loadV E0 S37 37 (.pointer (some ⟨b1, 0, none⟩))) fun (x6 : Int × Int × Int × Int × Int × Int) =>
  k (.tuple #[sv G36 x6, .int .i64 230]) S37))
  (ifW (!x5.1 == s_0)
  (evS
  (storeV E0 S35 37 (.pointer (some ⟨b1, 0, none⟩))
  (.agg
  #[.int .i64 0, .int .i64 0, .int .i64 0, .int .i64 0, .int .i64 0,
  .int .u64 0]))
  fun (S38 : St) =>
  hasW S38 b13 DObj.deferred
  (updW S38 b13 DObj.dead fun (S39 : St) =>
  evV (TT.one (Ty.agg G36)) (loadV E0 S39 37 (.pointer (some ⟨b1, 0, none⟩))) fun (x7 : Int × Int × Int × Int × Int × Int) =>
  k (.tuple #[sv G36 x7, .int .i64 230]) S39))
  (evV (TT.one (Ty.agg G36)) (loadV E0 S35 37 (.pointer (some ⟨b3, 0, none⟩))) fun (x8 : Int × Int × Int × Int × Int × Int) =>
  evS (storeV E0 S35 37 (.pointer (some ⟨b1, 0, none⟩)) (sv G36 x8)) fun (S40 : St) =>
  hasW S40 b13 DObj.deferred
  (updW S40 b13 DObj.dead fun (S41 : St) =>
  evV (TT.one (Ty.agg G36)) (loadV E0 S41 37 (.pointer (some ⟨b1, 0, none⟩))) fun (x9 : Int × Int × Int × Int × Int × Int) =>
  k (.tuple #[sv G36 x9, .int .i64 0]) S41)))) ∨
  False))
  0 S6
theorem w45 (s_0 : List UInt8) {S : St} {k : Value → St → Prop} (h : c45 s_0 S k) : WC E0 45 [.string ⟨s_0.toArray⟩] S k :=
  WC_den h45 rfl (by kernel_rfl) (by kernel_rfl : Tryz.f45.body = some (bodyOf Tryz.f45)) (by rw [show (denF E0 h45 Tryz.f45 (bodyOf Tryz.f45) [.string ⟨s_0.toArray⟩] S k) = c45 s_0 S k by kernel_rfl]; exact h)

/-! 46 wagonway/diary.steps -/
noncomputable def h46 : Hn := .no
def c46 (l_0 : Sl) (S : St) (k : Value → St → Prop) : Prop :=
  newW S (.cells [.slice l_0.a l_0.len l_0.cap] none false none) fun (b1 : Nat) (S1 : St) => k (.func (Fn.func 69) #[] #[.pointer (some ⟨b1, 0, none⟩)]) S1
theorem w46 (l_0 : Sl) {S : St} {k : Value → St → Prop} (h : c46 l_0 S k) : WC E0 46 [.slice l_0.a l_0.len l_0.cap] S k :=
  WC_den h46 rfl (by kernel_rfl) (by kernel_rfl : Tryz.f46.body = some (bodyOf Tryz.f46)) (by rw [show (denF E0 h46 Tryz.f46 (bodyOf Tryz.f46) [.slice l_0.a l_0.len l_0.cap] S k) = c46 l_0 S k by kernel_rfl]; exact h)

/-! 47 internal/stringslite.TrimSuffix -/
noncomputable def h47 : Hn := .no
def c47 (s_0 : List UInt8) (suffix_1 : List UInt8) (S : St) (k : Value → St → Prop) : Prop :=
  evC E0 tB 48 [.string { data := List.toArray s_0 }, .string { data := List.toArray suffix_1 }] S fun (t1 : Bool) (S1 : St) =>
  ifW t1
  (evV tT (sliceD E0 S1 9 (.string { data := List.toArray s_0 }) none (some (.int .i64 (wrapI .i64 ((↑(List.length s_0) : Int) - (↑(List.length suffix_1) : Int))))) none)
  fun (l1 : List UInt8) => k (.string { data := List.toArray l1 }) S1)
  (k (.string { data := List.toArray s_0 }) S1)
theorem w47 (s_0 : List UInt8) (suffix_1 : List UInt8) {S : St} {k : Value → St → Prop} (h : c47 s_0 suffix_1 S k) : WC E0 47 [.string ⟨s_0.toArray⟩, .string ⟨suffix_1.toArray⟩] S k :=
  WC_den h47 rfl (by kernel_rfl) (by kernel_rfl : Tryz.f47.body = some (bodyOf Tryz.f47)) (by rw [show (denF E0 h47 Tryz.f47 (bodyOf Tryz.f47) [.string ⟨s_0.toArray⟩, .string ⟨suffix_1.toArray⟩] S k) = c47 s_0 suffix_1 S k by kernel_rfl]; exact h)

/-! 48 internal/stringslite.HasSuffix -/
noncomputable def h48 : Hn := .no
def c48 (s_0 : List UInt8) (suffix_1 : List UInt8) (S : St) (k : Value → St → Prop) : Prop :=
  ifW (leI (↑(List.length suffix_1) : Int) (↑(List.length s_0) : Int))
  (evV tT (sliceD E0 S 9 (.string { data := List.toArray s_0 }) (some (.int .i64 (wrapI .i64 ((↑(List.length s_0) : Int) - (↑(List.length suffix_1) : Int))))) none none) fun (l1 : List UInt8) =>
  k (.bool (l1 == suffix_1)) S)
  (k (.bool false) S)
theorem w48 (s_0 : List UInt8) (suffix_1 : List UInt8) {S : St} {k : Value → St → Prop} (h : c48 s_0 suffix_1 S k) : WC E0 48 [.string ⟨s_0.toArray⟩, .string ⟨suffix_1.toArray⟩] S k :=
  WC_den h48 rfl (by kernel_rfl) (by kernel_rfl : Tryz.f48.body = some (bodyOf Tryz.f48)) (by rw [show (denF E0 h48 Tryz.f48 (bodyOf Tryz.f48) [.string ⟨s_0.toArray⟩, .string ⟨suffix_1.toArray⟩] S k) = c48 s_0 suffix_1 S k by kernel_rfl]; exact h)

/-! 49 wagonway/wagonwayref28.parts -/
noncomputable def h49 : Hn := (.n .no (.n .no (.n (.n .no (.n (.n .no .no (some ⟨[0, 1], [(5, .sc .sl), (6, .sc (.int .i64))], false⟩)) .no none) none) .no none) none) none)
def c49 (s_0 : List UInt8) (by_1 : Int) (S : St) (k : Value → St → Prop) : Prop :=
  newW S (.cells [.string { data := #[] }] none false none) fun (b1 : Nat) (S1 : St) =>
  loopW
  (fun (k1 : Sl × Int → St → Prop) (x1 : Sl × Int) (S2 : St) =>
  ifW (ltI x1.2 (↑(List.length s_0) : Int))
  (evV tU8 (indexD E0 9 (.string { data := List.toArray s_0 }) (.int .i64 x1.2)) fun (n1 : Int) =>
  ifW (eqI n1 by_1)
  (newW S2 (.cells [.string { data := #[] }] none false none) fun (b2 : Nat) (S3 : St) =>
  evP tS (appendD E0 S3 78 78 (.slice x1.1.a x1.1.len x1.1.cap) (.slice (some ⟨b2, 0, none⟩) 1 1)) fun (s1 : Sl) (S4 : St) =>
  k1 ({ a := s1.a, len := s1.len, cap := s1.cap }, wrapI .i64 (x1.2 + 1)) S4)
  (idxW x1.1.a x1.1.len (wrapI .i64 ((↑x1.1.len : Int) - 1)) fun (b3 b4 : Nat) =>
  evV tT (loadV E0 S2 9 (.pointer (some ⟨b3, b4 + Int.toNat (wrapI .i64 ((↑x1.1.len : Int) - 1)) * 1, none⟩))) fun (l1 : List UInt8) =>
  evV tT (sliceD E0 S2 9 (.string { data := List.toArray s_0 }) (some (.int .i64 x1.2)) (some (.int .i64 (wrapI .i64 (x1.2 + 1)))) none) fun (l2 : List UInt8) =>
  evV tT (catD { data := List.toArray l1 } { data := List.toArray l2 }) fun (l3 : List UInt8) =>
  idxW x1.1.a x1.1.len (wrapI .i64 ((↑x1.1.len : Int) - 1)) fun (b5 b6 : Nat) =>
  evS (storeV E0 S2 9 (.pointer (some ⟨b5, b6 + Int.toNat (wrapI .i64 ((↑x1.1.len : Int) - 1)) * 1, none⟩)) (.string { data := List.toArray l3 })) fun (S5 : St) =>
  k1 ({ a := x1.1.a, len := x1.1.len, cap := x1.1.cap }, wrapI .i64 (x1.2 + 1)) S5))
  (k (.slice x1.1.a x1.1.len x1.1.cap) S2))
  ({ a := some ⟨b1, 0, none⟩, len := 1, cap := 1 }, 0) S1
theorem w49 (s_0 : List UInt8) (by_1 : Int) {S : St} {k : Value → St → Prop} (h : c49 s_0 by_1 S k) : WC E0 49 [.string ⟨s_0.toArray⟩, .int .u8 by_1] S k :=
  WC_den h49 rfl (by kernel_rfl) (by kernel_rfl : Tryz.f49.body = some (bodyOf Tryz.f49)) (by rw [show (denF E0 h49 Tryz.f49 (bodyOf Tryz.f49) [.string ⟨s_0.toArray⟩, .int .u8 by_1] S k) = c49 s_0 by_1 S k by kernel_rfl]; exact h)

/-! 50 wagonway/wagonwayref23.Read -/
noncomputable def h50 : Hn := (.n .no (.n .no (.n .no (.n (.n .no (.n (.n .no .no (some ⟨[0, 2, 4, 5], [(6, .sc (.int .i64))], false⟩)) .no none) none) (.n (.n (.n .no .no (some ⟨[0, 2, 5], [(4, .sc .sl)], false⟩)) .no none) (.n (.n (.n .no (.n .no (.n .no (.n .no (.n .no (.n .no (.n .no (.n (.n .no (.n .no .no (some ⟨[0, 2, 4, 5], [], false⟩)) none) .no none) none) none) none) none) (some ⟨[0, 2, 4, 5], [(46, .sc .bool)], false⟩)) none) none) .no none) .no (some ⟨[0, 2, 5], [], false⟩)) none) none) none) none) none)
def c50 (s_0 : List UInt8) (S : St) (k : Value → St → Prop) : Prop :=
  newW S (.cells [.int .i64 0, .int .i64 0, .int .i64 0, .int .i64 0, .int .i64 0, .int .u64 0] none false none) fun (b1 : Nat) (S1 : St) =>
  evC E0 tS 71 [.string { data := List.toArray s_0 }] S1 fun (s1 : Sl) (S2 : St) =>
  newW S2 (.cells [.int .i64 0, .int .i64 0, .int .i64 0, .int .i64 0, .int .i64 0, .int .u64 0] none false none) fun (b2 : Nat) (S3 : St) =>
  evS
  (storeV E0 S3 37 (.pointer (some ⟨b2, 0, none⟩))
  (.agg #[.int .i64 0, .int .i64 0, .int .i64 0, .int .i64 0, .int .i64 0, .int .u64 0]))
  fun (S4 : St) =>
  loopW
  (fun (k1 : Int → St → Prop) (n1 : Int) (S5 : St) =>
  ifW (leI n1 9)
  (evC E0 tT 61 [.int .i64 n1] S5 fun (l1 : List UInt8) (S6 : St) =>
  idxW s1.a s1.len 0 fun (b3 b4 : Nat) =>
  evV tT (loadV E0 S6 9 (.pointer (some ⟨b3, b4 + Int.toNat 0 * 1, none⟩))) fun (l2 : List UInt8) =>
  ifW (l1 == l2)
  (ptrW (some ⟨b2, 0, none⟩) fun (b5 b6 : Nat) =>
  evS (storeV E0 S6 3 (.pointer (some ⟨b5, b6 + 0, none⟩)) (.int .i64 n1)) fun (S7 : St) => k1 (wrapI .i64 (n1 + 1)) S7)
  (k1 (wrapI .i64 (n1 + 1)) S6))
  (loopW
  (fun (k2 : Sl → St → Prop) (s2 : Sl) (S8 : St) =>
  ifW (ltI (↑s2.len : Int) 4)
  (newW S8 (.cells [.string { data := #[] }] none false none) fun (b7 : Nat) (S9 : St) =>
  evP tS (appendD E0 S9 78 78 (.slice s2.a s2.len s2.cap) (.slice (some ⟨b7, 0, none⟩) 1 1)) fun (s3 : Sl) (S10 : St) => k2 { a := s3.a, len := s3.len, cap := s3.cap } S10)
  (joinW
  (fun (x1 : PUnit) (S11 : St) =>
  evV (TT.one (Ty.agg G36)) (loadV E0 S11 37 (.pointer (some ⟨b2, 0, none⟩))) fun (x2 : Int × Int × Int × Int × Int × Int) =>
  evC E0 (TT.tup [Ty.sc Sc.str, Ty.sc (Sc.int .i64)]) 37 [sv G36 x2] S11 fun (x3 : List UInt8 × Int) (S12 : St) =>
  ifW (!eqI x3.2 0)
  (evS
  (storeV E0 S12 37 (.pointer (some ⟨b1, 0, none⟩))
  (.agg #[.int .i64 0, .int .i64 0, .int .i64 0, .int .i64 0, .int .i64 0, .int .u64 0]))
  fun (S13 : St) =>
  evV (TT.one (Ty.agg G36)) (loadV E0 S13 37 (.pointer (some ⟨b1, 0, none⟩))) fun (x4 : Int × Int × Int × Int × Int × Int) =>
  k (.tuple #[sv G36 x4, .int .i64 230]) S13)
  (ifW (!x3.1 == s_0)
  (evS
  (storeV E0 S12 37 (.pointer (some ⟨b1, 0, none⟩))
  (.agg #[.int .i64 0, .int .i64 0, .int .i64 0, .int .i64 0, .int .i64 0, .int .u64 0]))
  fun (S14 : St) =>
  evV (TT.one (Ty.agg G36)) (loadV E0 S14 37 (.pointer (some ⟨b1, 0, none⟩))) fun (x5 : Int × Int × Int × Int × Int × Int) =>
  k (.tuple #[sv G36 x5, .int .i64 230]) S14)
  (evV (TT.one (Ty.agg G36)) (loadV E0 S12 37 (.pointer (some ⟨b2, 0, none⟩))) fun (x6 : Int × Int × Int × Int × Int × Int) =>
  evS (storeV E0 S12 37 (.pointer (some ⟨b1, 0, none⟩)) (sv G36 x6)) fun (S15 : St) =>
  evV (TT.one (Ty.agg G36)) (loadV E0 S15 37 (.pointer (some ⟨b1, 0, none⟩))) fun (x7 : Int × Int × Int × Int × Int × Int) =>
  k (.tuple #[sv G36 x7, .int .i64 0]) S15)))
  fun (k3 : PUnit → St → Prop) =>
  ptrW (some ⟨b2, 0, none⟩) fun (b8 b9 : Nat) =>
  evV tI (loadV E0 S8 3 (.pointer (some ⟨b8, b9 + 0, none⟩))) fun (n2 : Int) =>
  ifW (eqI n2 1)
  (idxW s2.a s2.len 1 fun (b10 b11 : Nat) =>
  evV tT (loadV E0 S8 9 (.pointer (some ⟨b10, b11 + Int.toNat 1 * 1, none⟩))) fun (l3 : List UInt8) =>
  evC E0 tI 72 [.string { data := List.toArray l3 }] S8 fun (n3 : Int) (S16 : St) =>
  ptrW (some ⟨b2, 0, none⟩) fun (b12 b13 : Nat) =>
  evS (storeV E0 S16 3 (.pointer (some ⟨b12, b13 + 1, none⟩)) (.int .i64 n3)) fun (S17 : St) =>
  idxW s2.a s2.len 2 fun (b14 b15 : Nat) =>
  evV tT (loadV E0 S17 9 (.pointer (some ⟨b14, b15 + Int.toNat 2 * 1, none⟩))) fun (l4 : List UInt8) =>
  evC E0 tU 73 [.string { data := List.toArray l4 }] S17 fun (n4 : Int) (S18 : St) =>
  ptrW (some ⟨b2, 0, none⟩) fun (b16 b17 : Nat) =>
  evS (storeV E0 S18 35 (.pointer (some ⟨b16, b17 + 5, none⟩)) (.int .u64 n4)) fun (S19 : St) => k3 PUnit.unit S19)
  (joinW
  (fun (t1 : Bool) (S20 : St) =>
  ifW t1
  (idxW s2.a s2.len 1 fun (b18 b19 : Nat) =>
  evV tT (loadV E0 S20 9 (.pointer (some ⟨b18, b19 + Int.toNat 1 * 1, none⟩))) fun (l5 : List UInt8) =>
  evC E0 tI 72 [.string { data := List.toArray l5 }] S20 fun (n5 : Int) (S21 : St) =>
  ptrW (some ⟨b2, 0, none⟩) fun (b20 b21 : Nat) =>
  evS (storeV E0 S21 3 (.pointer (some ⟨b20, b21 + 2, none⟩)) (.int .i64 n5)) fun (S22 : St) => k3 PUnit.unit S22)
  (ptrW (some ⟨b2, 0, none⟩) fun (b22 b23 : Nat) =>
  evV tI (loadV E0 S20 3 (.pointer (some ⟨b22, b23 + 0, none⟩))) fun (n6 : Int) =>
  ifW (eqI n6 5)
  (idxW s2.a s2.len 1 fun (b24 b25 : Nat) =>
  evV tT (loadV E0 S20 9 (.pointer (some ⟨b24, b25 + Int.toNat 1 * 1, none⟩))) fun (l6 : List UInt8) =>
  evC E0 tI 72 [.string { data := List.toArray l6 }] S20 fun (n7 : Int) (S23 : St) =>
  ptrW (some ⟨b2, 0, none⟩) fun (b26 b27 : Nat) =>
  evS (storeV E0 S23 3 (.pointer (some ⟨b26, b27 + 2, none⟩)) (.int .i64 n7)) fun (S24 : St) =>
  idxW s2.a s2.len 2 fun (b28 b29 : Nat) =>
  evV tT (loadV E0 S24 9 (.pointer (some ⟨b28, b29 + Int.toNat 2 * 1, none⟩))) fun (l7 : List UInt8) =>
  evC E0 tI 72 [.string { data := List.toArray l7 }] S24 fun (n8 : Int) (S25 : St) =>
  ptrW (some ⟨b2, 0, none⟩) fun (b30 b31 : Nat) =>
  evS (storeV E0 S25 3 (.pointer (some ⟨b30, b31 + 3, none⟩)) (.int .i64 n8)) fun (S26 : St) =>
  idxW s2.a s2.len 3 fun (b32 b33 : Nat) =>
  evV tT (loadV E0 S26 9 (.pointer (some ⟨b32, b33 + Int.toNat 3 * 1, none⟩))) fun (l8 : List UInt8) =>
  evC E0 tI 72 [.string { data := List.toArray l8 }] S26 fun (n9 : Int) (S27 : St) =>
  ptrW (some ⟨b2, 0, none⟩) fun (b34 b35 : Nat) =>
  evS (storeV E0 S27 3 (.pointer (some ⟨b34, b35 + 4, none⟩)) (.int .i64 n9)) fun (S28 : St) => k3 PUnit.unit S28)
  (ptrW (some ⟨b2, 0, none⟩) fun (b36 b37 : Nat) =>
  evV tI (loadV E0 S20 3 (.pointer (some ⟨b36, b37 + 0, none⟩))) fun (n10 : Int) =>
  ifW (leI 6 n10)
  (idxW s2.a s2.len 1 fun (b38 b39 : Nat) =>
  evV tT (loadV E0 S20 9 (.pointer (some ⟨b38, b39 + Int.toNat 1 * 1, none⟩))) fun (l9 : List UInt8) =>
  evC E0 tI 72 [.string { data := List.toArray l9 }] S20 fun (n11 : Int) (S29 : St) =>
  ptrW (some ⟨b2, 0, none⟩) fun (b40 b41 : Nat) =>
  evS (storeV E0 S29 3 (.pointer (some ⟨b40, b41 + 1, none⟩)) (.int .i64 n11)) fun (S30 : St) =>
  joinW
  (fun (x8 : PUnit) (S31 : St) =>
  ptrW (some ⟨b2, 0, none⟩) fun (b42 b43 : Nat) =>
  evV tI (loadV E0 S31 3 (.pointer (some ⟨b42, b43 + 0, none⟩))) fun (n12 : Int) =>
  ifW (eqI n12 9)
  (idxW s2.a s2.len 2 fun (b44 b45 : Nat) =>
  evV tT (loadV E0 S31 9 (.pointer (some ⟨b44, b45 + Int.toNat 2 * 1, none⟩))) fun (l10 : List UInt8) =>
  ifW (l10 == [UInt8.ofNat 97, UInt8.ofNat 108, UInt8.ofNat 108])
  (ptrW (some ⟨b2, 0, none⟩) fun (b46 b47 : Nat) =>
  evS (storeV E0 S31 3 (.pointer (some ⟨b46, b47 + 2, none⟩)) (.int .i64 (-1))) fun (S32 : St) => k3 PUnit.unit S32)
  (k3 PUnit.unit S31))
  (k3 PUnit.unit S31))
  fun (k4 : PUnit → St → Prop) =>
  ptrW (some ⟨b2, 0, none⟩) fun (b48 b49 : Nat) =>
  evV tI (loadV E0 S30 3 (.pointer (some ⟨b48, b49 + 0, none⟩))) fun (n13 : Int) =>
  ifW (ltI 6 n13)
  (idxW s2.a s2.len 2 fun (b50 b51 : Nat) =>
  evV tT (loadV E0 S30 9 (.pointer (some ⟨b50, b51 + Int.toNat 2 * 1, none⟩))) fun (l11 : List UInt8) =>
  evC E0 tI 72 [.string { data := List.toArray l11 }] S30 fun (n14 : Int) (S33 : St) =>
  ptrW (some ⟨b2, 0, none⟩) fun (b52 b53 : Nat) =>
  evS (storeV E0 S33 3 (.pointer (some ⟨b52, b53 + 2, none⟩)) (.int .i64 n14)) fun (S34 : St) => k4 PUnit.unit S34)
  (k4 PUnit.unit S30))
  (k3 PUnit.unit S20))))
  fun (k5 : Bool → St → Prop) =>
  ptrW (some ⟨b2, 0, none⟩) fun (b54 b55 : Nat) =>
  evV tI (loadV E0 S8 3 (.pointer (some ⟨b54, b55 + 0, none⟩))) fun (n15 : Int) =>
  ifW (leI 2 n15)
  (ptrW (some ⟨b2, 0, none⟩) fun (b56 b57 : Nat) => evV tI (loadV E0 S8 3 (.pointer (some ⟨b56, b57 + 0, none⟩))) fun (n16 : Int) => k5 (leI n16 4) S8)
  (k5 false S8))))
  { a := s1.a, len := s1.len, cap := s1.cap } S5))
  1 S4
theorem w50 (s_0 : List UInt8) {S : St} {k : Value → St → Prop} (h : c50 s_0 S k) : WC E0 50 [.string ⟨s_0.toArray⟩] S k :=
  WC_den h50 rfl (by kernel_rfl) (by kernel_rfl : Tryz.f50.body = some (bodyOf Tryz.f50)) (by rw [show (denF E0 h50 Tryz.f50 (bodyOf Tryz.f50) [.string ⟨s_0.toArray⟩] S k) = c50 s_0 S k by kernel_rfl]; exact h)

/-! 51 wagonway/wagonwayref28.value -/
noncomputable def h51 : Hn := (.n .no (.n .no (.n .no (.n (.n .no (.n (.n .no .no (some ⟨[0], [(3, .sc (.int .i64)), (4, .sc (.int .i64))], false⟩)) .no none) none) .no none) none) none) none)
def c51 (s_0 : List UInt8) (S : St) (k : Value → St → Prop) : Prop :=
  ifW (eqI (↑(List.length s_0) : Int) 0) (k (.int .i64 (-1)) S)
  (loopW
  (fun (k1 : Int × Int → St → Prop) (x1 : Int × Int) (S1 : St) =>
  ifW (ltI x1.2 (↑(List.length s_0) : Int))
  (evV tU8 (indexD E0 9 (.string { data := List.toArray s_0 }) (.int .i64 x1.2)) fun (n1 : Int) =>
  ifW (ltI n1 48) (k (.int .i64 (-1)) S1)
  (evV tU8 (indexD E0 9 (.string { data := List.toArray s_0 }) (.int .i64 x1.2)) fun (n2 : Int) =>
  ifW (ltI 57 n2) (k (.int .i64 (-1)) S1)
  (ifW (ltI 1000000 x1.1) (k (.int .i64 (-1)) S1)
  (evV tU8 (indexD E0 9 (.string { data := List.toArray s_0 }) (.int .i64 x1.2)) fun (n3 : Int) =>
  k1 (wrapI .i64 (wrapI .i64 (10 * x1.1) + wrapI .i64 (wrapI .u8 (n3 - 48))), wrapI .i64 (x1.2 + 1)) S1))))
  (k (.int .i64 x1.1) S1))
  (0, 0) S)
theorem w51 (s_0 : List UInt8) {S : St} {k : Value → St → Prop} (h : c51 s_0 S k) : WC E0 51 [.string ⟨s_0.toArray⟩] S k :=
  WC_den h51 rfl (by kernel_rfl) (by kernel_rfl : Tryz.f51.body = some (bodyOf Tryz.f51)) (by rw [show (denF E0 h51 Tryz.f51 (bodyOf Tryz.f51) [.string ⟨s_0.toArray⟩] S k) = c51 s_0 S k by kernel_rfl]; exact h)

/-! 52 wagonway/order.Name -/
noncomputable def h52 : Hn := .no
def c52 (kind_0 : Int) (S : St) (k : Value → St → Prop) : Prop :=
  ifW (ltI kind_0 0) (k (.string { data := #[] }) S)
  (ifW (leI 10 kind_0) (k (.string { data := #[] }) S)
  (idxW (some ⟨1, 0, none⟩) 10 kind_0 fun (b1 b2 : Nat) =>
  evV tT (loadV E0 S 9 (.pointer (some ⟨b1, b2 + Int.toNat kind_0 * 1, none⟩))) fun (l1 : List UInt8) => k (.string { data := List.toArray l1 }) S))
theorem w52 (kind_0 : Int) {S : St} {k : Value → St → Prop} (h : c52 kind_0 S k) : WC E0 52 [.int .i64 kind_0] S k :=
  WC_den h52 rfl (by kernel_rfl) (by kernel_rfl : Tryz.f52.body = some (bodyOf Tryz.f52)) (by rw [show (denF E0 h52 Tryz.f52 (bodyOf Tryz.f52) [.int .i64 kind_0] S k) = c52 kind_0 S k by kernel_rfl]; exact h)

/-! 53 wagonway/order.parts -/
noncomputable def h53 : Hn := .no
def c53 (kind_0 : Int) (S : St) (k : Value → St → Prop) : Prop :=
  newW S (.cells [.int .i64 kind_0] none false none) fun (b1 : Nat) (S1 : St) => k (.func (Fn.func 74) #[] #[.pointer (some ⟨b1, 0, none⟩)]) S1
theorem w53 (kind_0 : Int) {S : St} {k : Value → St → Prop} (h : c53 kind_0 S k) : WC E0 53 [.int .i64 kind_0] S k :=
  WC_den h53 rfl (by kernel_rfl) (by kernel_rfl : Tryz.f53.body = some (bodyOf Tryz.f53)) (by rw [show (denF E0 h53 Tryz.f53 (bodyOf Tryz.f53) [.int .i64 kind_0] S k) = c53 kind_0 S k by kernel_rfl]; exact h)

/-! 54 wagonway/order.within -/
noncomputable def h54 : Hn := .no
def c54 (n_0 : Int) (from_1 : Int) (to_2 : Int) (S : St) (k : Value → St → Prop) : Prop :=
  ifW (leI from_1 n_0) (k (.bool (leI n_0 to_2)) S) (k (.bool false) S)
theorem w54 (n_0 : Int) (from_1 : Int) (to_2 : Int) {S : St} {k : Value → St → Prop} (h : c54 n_0 from_1 to_2 S k) : WC E0 54 [.int .i64 n_0, .int .i64 from_1, .int .i64 to_2] S k :=
  WC_den h54 rfl (by kernel_rfl) (by kernel_rfl : Tryz.f54.body = some (bodyOf Tryz.f54)) (by rw [show (denF E0 h54 Tryz.f54 (bodyOf Tryz.f54) [.int .i64 n_0, .int .i64 from_1, .int .i64 to_2] S k) = c54 n_0 from_1 to_2 S k by kernel_rfl]; exact h)

/-! 55 slices.IndexFunc[[]wagonway/api.Step,wagonway/api.Step] -/
noncomputable def h55 : Hn := (.n .no (.n (.n .no (.n (.n .no .no (some ⟨[0, 1, 7], [(8, .sc (.int .i64))], false⟩)) .no none) none) .no none) none)
def c55 (s_0 : Sl) (f_1 : Value) (S : St) (k : Value → St → Prop) : Prop :=
  loopW
  (fun (k1 : Int → St → Prop) (n1 : Int) (S1 : St) =>
  ifW (ltI n1 (↑s_0.len : Int))
  (idxW s_0.a s_0.len n1 fun (b1 b2 : Nat) =>
  evV (TT.one (Ty.agg G40)) (loadV E0 S1 41 (.pointer (some ⟨b1, b2 + Int.toNat n1 * 3, none⟩))) fun (x1 : Int × Int × Int) =>
  evY E0 tB f_1 [sv G40 x1] S1 fun (t1 : Bool) (S2 : St) => ifW t1 (k (.int .i64 n1) S2) (k1 (wrapI .i64 (n1 + 1)) S2))
  (k (.int .i64 (-1)) S1))
  0 S
theorem w55 (s_0 : Sl) (f_1 : Value) {S : St} {k : Value → St → Prop} (h : c55 s_0 f_1 S k) : WC E0 55 [.slice s_0.a s_0.len s_0.cap, f_1] S k :=
  WC_den h55 rfl (by kernel_rfl) (by kernel_rfl : Tryz.f55.body = some (bodyOf Tryz.f55)) (by rw [show (denF E0 h55 Tryz.f55 (bodyOf Tryz.f55) [.slice s_0.a s_0.len s_0.cap, f_1] S k) = c55 s_0 f_1 S k by kernel_rfl]; exact h)

/-! 56 strconv.FormatUint -/
noncomputable def h56 : Hn := .no
def c56 (i_0 : Int) (base_1 : Int) (S : St) (k : Value → St → Prop) : Prop :=
  evC E0 tT 75 [.int .u64 i_0, .int .i64 base_1] S fun (l1 : List UInt8) (S1 : St) => k (.string { data := List.toArray l1 }) S1
theorem w56 (i_0 : Int) (base_1 : Int) {S : St} {k : Value → St → Prop} (h : c56 i_0 base_1 S k) : WC E0 56 [.int .u64 i_0, .int .i64 base_1] S k :=
  WC_den h56 rfl (by kernel_rfl) (by kernel_rfl : Tryz.f56.body = some (bodyOf Tryz.f56)) (by rw [show (denF E0 h56 Tryz.f56 (bodyOf Tryz.f56) [.int .u64 i_0, .int .i64 base_1] S k) = c56 i_0 base_1 S k by kernel_rfl]; exact h)

/-! 57 internal/strconv.Itoa -/
noncomputable def h57 : Hn := .no
def c57 (i_0 : Int) (S : St) (k : Value → St → Prop) : Prop :=
  evC E0 tT 76 [.int .i64 i_0, .int .i64 10] S fun (l1 : List UInt8) (S1 : St) => k (.string { data := List.toArray l1 }) S1
theorem w57 (i_0 : Int) {S : St} {k : Value → St → Prop} (h : c57 i_0 S k) : WC E0 57 [.int .i64 i_0] S k :=
  WC_den h57 rfl (by kernel_rfl) (by kernel_rfl : Tryz.f57.body = some (bodyOf Tryz.f57)) (by rw [show (denF E0 h57 Tryz.f57 (bodyOf Tryz.f57) [.int .i64 i_0] S k) = c57 i_0 S k by kernel_rfl]; exact h)

/-! 60 wagonway/wagonwayref23.May -/
noncomputable def h60 : Hn := (.n .no (.n .no (.n .no (.n (.n .no (.n (.n .no (.n .no (.n .no .no (some ⟨[1, 3, 4, 22], [(34, .sc .bool)], false⟩)) none) none) .no none) none) .no none) (some ⟨[1, 3], [(4, .sc .bool)], false⟩)) (some ⟨[1], [(3, .sc .bool)], false⟩)) none)
def c60 (x_0 : Int × Int × Int × Int × Int × Int) (S : St) (k : Value → St → Prop) : Prop :=
  newW S
  (.cells
  [.int .i64 x_0.1, .int .i64 x_0.2.1, .int .i64 x_0.2.2.1, .int .i64 x_0.2.2.2.1, .int .i64 x_0.2.2.2.2.1,
  .int .u64 x_0.2.2.2.2.2]
  none false none)
  fun (b1 : Nat) (S1 : St) =>
  joinW
  (fun (t1 : Bool) (S2 : St) =>
  joinW
  (fun (t2 : Bool) (S3 : St) =>
  ptrW (some ⟨b1, 0, none⟩) fun (b2 b3 : Nat) =>
  evV tI (loadV E0 S3 3 (.pointer (some ⟨b2, b3 + 0, none⟩))) fun (n1 : Int) =>
  ifW (eqI n1 1)
  (ifW t1
  (ifW t2 (ptrW (some ⟨b1, 0, none⟩) fun (b4 b5 : Nat) => evV tI (loadV E0 S3 3 (.pointer (some ⟨b4, b5 + 2, none⟩))) fun (n2 : Int) => k (.bool (eqI n2 0)) S3)
  (k (.bool false) S3))
  (k (.bool false) S3))
  (joinW
  (fun (t3 : Bool) (S4 : St) =>
  ifW t3
  (ptrW (some ⟨b1, 0, none⟩) fun (b6 b7 : Nat) =>
  evV tI (loadV E0 S4 3 (.pointer (some ⟨b6, b7 + 2, none⟩))) fun (n3 : Int) =>
  ifW (leI 1 n3)
  (ptrW (some ⟨b1, 0, none⟩) fun (b8 b9 : Nat) =>
  evV tI (loadV E0 S4 3 (.pointer (some ⟨b8, b9 + 1, none⟩))) fun (n4 : Int) =>
  ifW (eqI n4 0)
  (ifW t2
  (ptrW (some ⟨b1, 0, none⟩) fun (b10 b11 : Nat) =>
  evV tU (loadV E0 S4 35 (.pointer (some ⟨b10, b11 + 5, none⟩))) fun (n5 : Int) => k (.bool (eqI n5 0)) S4)
  (k (.bool false) S4))
  (k (.bool false) S4))
  (k (.bool false) S4))
  (ifW (eqI n1 5)
  (ptrW (some ⟨b1, 0, none⟩) fun (b12 b13 : Nat) =>
  evV tI (loadV E0 S4 3 (.pointer (some ⟨b12, b13 + 2, none⟩))) fun (n6 : Int) =>
  ifW (leI 1 n6)
  (ptrW (some ⟨b1, 0, none⟩) fun (b14 b15 : Nat) =>
  evV tI (loadV E0 S4 3 (.pointer (some ⟨b14, b15 + 3, none⟩))) fun (n7 : Int) =>
  ifW (leI 0 n7)
  (ptrW (some ⟨b1, 0, none⟩) fun (b16 b17 : Nat) =>
  evV tI (loadV E0 S4 3 (.pointer (some ⟨b16, b17 + 4, none⟩))) fun (n8 : Int) =>
  ifW (leI 1 n8)
  (ptrW (some ⟨b1, 0, none⟩) fun (b18 b19 : Nat) =>
  evV tI (loadV E0 S4 3 (.pointer (some ⟨b18, b19 + 4, none⟩))) fun (n9 : Int) =>
  ifW (leI n9 255)
  (ptrW (some ⟨b1, 0, none⟩) fun (b20 b21 : Nat) =>
  evV tI (loadV E0 S4 3 (.pointer (some ⟨b20, b21 + 1, none⟩))) fun (n10 : Int) =>
  ifW (eqI n10 0)
  (ptrW (some ⟨b1, 0, none⟩) fun (b22 b23 : Nat) =>
  evV tU (loadV E0 S4 35 (.pointer (some ⟨b22, b23 + 5, none⟩))) fun (n11 : Int) => k (.bool (eqI n11 0)) S4)
  (k (.bool false) S4))
  (k (.bool false) S4))
  (k (.bool false) S4))
  (k (.bool false) S4))
  (k (.bool false) S4))
  (ifW (eqI n1 6)
  (ifW t1
  (ifW t2
  (ptrW (some ⟨b1, 0, none⟩) fun (b24 b25 : Nat) =>
  evV tI (loadV E0 S4 3 (.pointer (some ⟨b24, b25 + 2, none⟩))) fun (n12 : Int) =>
  ifW (eqI n12 0)
  (ptrW (some ⟨b1, 0, none⟩) fun (b26 b27 : Nat) =>
  evV tU (loadV E0 S4 35 (.pointer (some ⟨b26, b27 + 5, none⟩))) fun (n13 : Int) => k (.bool (eqI n13 0)) S4)
  (k (.bool false) S4))
  (k (.bool false) S4))
  (k (.bool false) S4))
  (ifW (eqI n1 7)
  (ifW t1
  (ifW t2
  (ptrW (some ⟨b1, 0, none⟩) fun (b28 b29 : Nat) =>
  evV tU (loadV E0 S4 35 (.pointer (some ⟨b28, b29 + 5, none⟩))) fun (n14 : Int) =>
  ifW (eqI n14 0)
  (ptrW (some ⟨b1, 0, none⟩) fun (b30 b31 : Nat) =>
  evV tI (loadV E0 S4 3 (.pointer (some ⟨b30, b31 + 2, none⟩))) fun (n15 : Int) =>
  ifW (leI 0 n15)
  (ptrW (some ⟨b1, 0, none⟩) fun (b32 b33 : Nat) =>
  evV tI (loadV E0 S4 3 (.pointer (some ⟨b32, b33 + 2, none⟩))) fun (n16 : Int) => k (.bool (leI n16 1023)) S4)
  (k (.bool false) S4))
  (k (.bool false) S4))
  (k (.bool false) S4))
  (k (.bool false) S4))
  (ifW (eqI n1 8)
  (ifW t1
  (ifW t2
  (ptrW (some ⟨b1, 0, none⟩) fun (b34 b35 : Nat) =>
  evV tU (loadV E0 S4 35 (.pointer (some ⟨b34, b35 + 5, none⟩))) fun (n17 : Int) =>
  ifW (eqI n17 0)
  (ptrW (some ⟨b1, 0, none⟩) fun (b36 b37 : Nat) =>
  evV tI (loadV E0 S4 3 (.pointer (some ⟨b36, b37 + 2, none⟩))) fun (n18 : Int) =>
  ifW (leI 0 n18)
  (ptrW (some ⟨b1, 0, none⟩) fun (b38 b39 : Nat) =>
  evV tI (loadV E0 S4 3 (.pointer (some ⟨b38, b39 + 2, none⟩))) fun (n19 : Int) => k (.bool (leI n19 1000)) S4)
  (k (.bool false) S4))
  (k (.bool false) S4))
  (k (.bool false) S4))
  (k (.bool false) S4))
  (ifW (eqI n1 9)
  (ifW t1
  (ifW t2
  (ptrW (some ⟨b1, 0, none⟩) fun (b40 b41 : Nat) =>
  evV tU (loadV E0 S4 35 (.pointer (some ⟨b40, b41 + 5, none⟩))) fun (n20 : Int) =>
  ifW (eqI n20 0)
  (ptrW (some ⟨b1, 0, none⟩) fun (b42 b43 : Nat) =>
  evV tI (loadV E0 S4 3 (.pointer (some ⟨b42, b43 + 2, none⟩))) fun (n21 : Int) =>
  ifW (leI (-1) n21)
  (ptrW (some ⟨b1, 0, none⟩) fun (b44 b45 : Nat) =>
  evV tI (loadV E0 S4 3 (.pointer (some ⟨b44, b45 + 2, none⟩))) fun (n22 : Int) => k (.bool (leI n22 1000)) S4)
  (k (.bool false) S4))
  (k (.bool false) S4))
  (k (.bool false) S4))
  (k (.bool false) S4))
  (k (.bool false) S4)))))))
  fun (k1 : Bool → St → Prop) => ifW (eqI n1 2) (k1 true S3) (ifW (eqI n1 3) (k1 true S3) (k1 (eqI n1 4) S3))))
  fun (k2 : Bool → St → Prop) =>
  ptrW (some ⟨b1, 0, none⟩) fun (b46 b47 : Nat) =>
  evV tI (loadV E0 S2 3 (.pointer (some ⟨b46, b47 + 3, none⟩))) fun (n23 : Int) =>
  ifW (eqI n23 0) (ptrW (some ⟨b1, 0, none⟩) fun (b48 b49 : Nat) => evV tI (loadV E0 S2 3 (.pointer (some ⟨b48, b49 + 4, none⟩))) fun (n24 : Int) => k2 (eqI n24 0) S2)
  (k2 false S2))
  fun (k3 : Bool → St → Prop) =>
  ptrW (some ⟨b1, 0, none⟩) fun (b50 b51 : Nat) =>
  evV tI (loadV E0 S1 3 (.pointer (some ⟨b50, b51 + 1, none⟩))) fun (n25 : Int) =>
  ifW (leI 0 n25) (ptrW (some ⟨b1, 0, none⟩) fun (b52 b53 : Nat) => evV tI (loadV E0 S1 3 (.pointer (some ⟨b52, b53 + 1, none⟩))) fun (n26 : Int) => k3 (leI n26 63) S1) (k3 false S1)
theorem w60 (x_0 : Int × Int × Int × Int × Int × Int) {S : St} {k : Value → St → Prop} (h : c60 x_0 S k) : WC E0 60 [sv G36 x_0] S k :=
  WC_den h60 rfl (by kernel_rfl) (by kernel_rfl : Tryz.f60.body = some (bodyOf Tryz.f60)) (by rw [show (denF E0 h60 Tryz.f60 (bodyOf Tryz.f60) [sv G36 x_0] S k) = c60 x_0 S k by kernel_rfl]; exact h)

/-! 61 wagonway/wagonwayref23.Name -/
noncomputable def h61 : Hn := .no
def c61 (kind_0 : Int) (S : St) (k : Value → St → Prop) : Prop :=
  ifW (ltI kind_0 1) (k (.string { data := #[] }) S)
  (ifW (ltI 9 kind_0) (k (.string { data := #[] }) S)
  (newW S
  (.cells
  [.string { data := #[] }, .string { data := #[UInt8.ofNat 115, UInt8.ofNat 116, UInt8.ofNat 101, UInt8.ofNat 112] },
  .string { data := #[UInt8.ofNat 100, UInt8.ofNat 101, UInt8.ofNat 108, UInt8.ofNat 105, UInt8.ofNat 118, UInt8.ofNat 101, UInt8.ofNat 114] },
  .string { data := #[UInt8.ofNat 100, UInt8.ofNat 114, UInt8.ofNat 111, UInt8.ofNat 112] },
  .string { data := #[UInt8.ofNat 100, UInt8.ofNat 111, UInt8.ofNat 117, UInt8.ofNat 98, UInt8.ofNat 108, UInt8.ofNat 101] },
  .string { data := #[UInt8.ofNat 115, UInt8.ofNat 112, UInt8.ofNat 111, UInt8.ofNat 105, UInt8.ofNat 108] }, .string { data := #[UInt8.ofNat 116, UInt8.ofNat 105, UInt8.ofNat 99, UInt8.ofNat 107] },
  .string { data := #[UInt8.ofNat 103, UInt8.ofNat 111, UInt8.ofNat 97, UInt8.ofNat 108] }, .string { data := #[UInt8.ofNat 99, UInt8.ofNat 114, UInt8.ofNat 97, UInt8.ofNat 115, UInt8.ofNat 104] },
  .string { data := #[UInt8.ofNat 119, UInt8.ofNat 97, UInt8.ofNat 107, UInt8.ofNat 101] }]
  none false none)
  fun (b1 : Nat) (S1 : St) =>
  idxW (some ⟨b1, 0, none⟩) 10 kind_0 fun (b2 b3 : Nat) =>
  evV tT (loadV E0 S1 9 (.pointer (some ⟨b2, b3 + Int.toNat kind_0 * 1, none⟩))) fun (l1 : List UInt8) => k (.string { data := List.toArray l1 }) S1))
theorem w61 (kind_0 : Int) {S : St} {k : Value → St → Prop} (h : c61 kind_0 S k) : WC E0 61 [.int .i64 kind_0] S k :=
  WC_den h61 rfl (by kernel_rfl) (by kernel_rfl : Tryz.f61.body = some (bodyOf Tryz.f61)) (by rw [show (denF E0 h61 Tryz.f61 (bodyOf Tryz.f61) [.int .i64 kind_0] S k) = c61 kind_0 S k by kernel_rfl]; exact h)

/-! 62 wagonway/wagonwayref23.digits -/
noncomputable def h62 : Hn := (.n .no (.n .no (.n (.n (.n .no .no (some ⟨[], [(0, .sc (.int .u64)), (3, .sc .str)], false⟩)) .no none) .no none) none) none)
def c62 (n_0 : Int) (S : St) (k : Value → St → Prop) : Prop :=
  needW true
  (newW S (.cells [.int .u8 (wrapI .u8 (wrapI .u64 (48 + Int.tmod n_0 10)))] none false none) fun (b1 : Nat) (S1 : St) =>
  evP tT (convertD E0 S1 52 9 (.slice (some ⟨b1, 0, none⟩) 1 1)) fun (l1 : List UInt8) (S2 : St) =>
  loopW
  (fun (k1 : Int × List UInt8 → St → Prop) (x1 : Int × List UInt8) (S3 : St) =>
  ifW (ltI 9 x1.1)
  (needW true
  (needW true
  (newW S3 (.cells [.int .u8 (wrapI .u8 (wrapI .u64 (48 + Int.tmod (wrapI .u64 (Int.tdiv x1.1 10)) 10)))] none false none) fun (b2 : Nat) (S4 : St) =>
  evP tT (convertD E0 S4 52 9 (.slice (some ⟨b2, 0, none⟩) 1 1)) fun (l2 : List UInt8) (S5 : St) =>
  evV tT (catD { data := List.toArray l2 } { data := List.toArray x1.2 }) fun (l3 : List UInt8) => k1 (wrapI .u64 (Int.tdiv x1.1 10), l3) S5)))
  (k (.string { data := List.toArray x1.2 }) S3))
  (n_0, l1) S2)
theorem w62 (n_0 : Int) {S : St} {k : Value → St → Prop} (h : c62 n_0 S k) : WC E0 62 [.int .u64 n_0] S k :=
  WC_den h62 rfl (by kernel_rfl) (by kernel_rfl : Tryz.f62.body = some (bodyOf Tryz.f62)) (by rw [show (denF E0 h62 Tryz.f62 (bodyOf Tryz.f62) [.int .u64 n_0] S k) = c62 n_0 S k by kernel_rfl]; exact h)

/-! 67 wagonway/order.Read$1 -/
noncomputable def h67 : Hn := .no
def c67 (c0 : Nat) (S : St) (k : Value → St → Prop) : Prop :=
  evV tS (loadV E0 S 78 (.pointer (some ⟨c0, 0, none⟩))) fun (s1 : Sl) =>
  ifW (eqI (↑s1.len : Int) 0) (k (.string { data := #[] }) S)
  (evV tS (loadV E0 S 78 (.pointer (some ⟨c0, 0, none⟩))) fun (s2 : Sl) =>
  idxW s2.a s2.len 0 fun (b1 b2 : Nat) =>
  evV tT (loadV E0 S 9 (.pointer (some ⟨b1, b2 + Int.toNat 0 * 1, none⟩))) fun (l1 : List UInt8) =>
  evV tS (loadV E0 S 78 (.pointer (some ⟨c0, 0, none⟩))) fun (s3 : Sl) =>
  evV tS (sliceD E0 S 78 (.slice s3.a s3.len s3.cap) (some (.int .i64 1)) none none) fun (s4 : Sl) =>
  evS (storeV E0 S 78 (.pointer (some ⟨c0, 0, none⟩)) (.slice s4.a s4.len s4.cap)) fun (S1 : St) => k (.string { data := List.toArray l1 }) S1)
theorem w67 (c0 : Nat) {S : St} {k : Value → St → Prop} (h : c67 c0 S k) : WC E0 67 [.pointer (some ⟨c0, 0, none⟩)] S k :=
  WC_den h67 rfl (by kernel_rfl) (by kernel_rfl : Tryz.f67.body = some (bodyOf Tryz.f67)) (by rw [show (denF E0 h67 Tryz.f67 (bodyOf Tryz.f67) [.pointer (some ⟨c0, 0, none⟩)] S k) = c67 c0 S k by kernel_rfl]; exact h)

/-! 69 wagonway/diary.steps$1 -/
noncomputable def h69 : Hn := (.n .no (.n (.n .no .no (some ⟨[0, 5, 6], [(7, .sc (.int .i64))], false⟩)) .no none) none)
def c69 (yield_0 : Value) (c1 : Nat) (S : St) (k : Value → St → Prop) : Prop :=
  evV tS (loadV E0 S 78 (.pointer (some ⟨c1, 0, none⟩))) fun (s1 : Sl) =>
  loopW
  (fun (k1 : Int → St → Prop) (n1 : Int) (S1 : St) =>
  ifW (ltI n1 (↑s1.len : Int))
  (idxW s1.a s1.len n1 fun (b1 b2 : Nat) =>
  evV tT (loadV E0 S1 9 (.pointer (some ⟨b1, b2 + Int.toNat n1 * 1, none⟩))) fun (l1 : List UInt8) =>
  evC E0 (TT.one (Ty.agg G40)) 70 [.string { data := List.toArray l1 }] S1 fun (x1 : Int × Int × Int) (S2 : St) =>
  evY E0 tB yield_0 [sv G40 x1] S2 fun (t1 : Bool) (S3 : St) => ifW (!t1) (k (.tuple #[]) S3) (k1 (wrapI .i64 (n1 + 1)) S3))
  (k (.tuple #[]) S1))
  0 S
theorem w69 (yield_0 : Value) (c1 : Nat) {S : St} {k : Value → St → Prop} (h : c69 yield_0 c1 S k) : WC E0 69 [yield_0, .pointer (some ⟨c1, 0, none⟩)] S k :=
  WC_den h69 rfl (by kernel_rfl) (by kernel_rfl : Tryz.f69.body = some (bodyOf Tryz.f69)) (by rw [show (denF E0 h69 Tryz.f69 (bodyOf Tryz.f69) [yield_0, .pointer (some ⟨c1, 0, none⟩)] S k) = c69 yield_0 c1 S k by kernel_rfl]; exact h)

/-! 70 wagonway/diary.step -/
noncomputable def h70 : Hn := (.n .no (.n .no (.n .no (.n .no (.n (.n .no (.n (.n .no .no (some ⟨[2, 3, 9], [(28, .sc (.int .i64))], false⟩)) .no none) none) .no none) none) none) none) none)
def c70 (w_0 : List UInt8) (S : St) (k : Value → St → Prop) : Prop :=
  newW S (.cells [.int .i64 0, .int .i64 0, .int .i64 0] none false none) fun (b1 : Nat) (S1 : St) =>
  evC E0 (TT.tup [Ty.sc Sc.str, Ty.sc Sc.str, Ty.sc Sc.bool]) 42 [.string { data := List.toArray w_0 }, .string { data := #[UInt8.ofNat 58] }] S1 fun (x1 : List UInt8 × List UInt8 × Bool) (S2 : St) =>
  evC E0 (TT.tup [Ty.sc Sc.str, Ty.sc Sc.str, Ty.sc Sc.bool]) 42 [.string { data := List.toArray x1.2.1 }, .string { data := #[UInt8.ofNat 58] }] S2 fun (x2 : List UInt8 × List UInt8 × Bool) (S3 : St) =>
  evC E0 tI 44 [.string { data := List.toArray x2.1 }] S3 fun (n1 : Int) (S4 : St) =>
  evC E0 tI 44 [.string { data := List.toArray x2.2.1 }] S4 fun (n2 : Int) (S5 : St) =>
  newW S5 (.cells [.int .i64 0, .int .i64 0, .int .i64 0] none false none) fun (b2 : Nat) (S6 : St) =>
  evS (storeV E0 S6 41 (.pointer (some ⟨b2, 0, none⟩)) (.agg #[.int .i64 0, .int .i64 n1, .int .i64 n2])) fun (S7 : St) =>
  loopW
  (fun (k1 : Int → St → Prop) (n3 : Int) (S8 : St) =>
  ifW (ltI n3 4)
  (ifW (ltI 0 n3)
  (idxW (some ⟨0, 0, none⟩) 4 n3 fun (b3 b4 : Nat) =>
  evV tT (loadV E0 S8 9 (.pointer (some ⟨b3, b4 + Int.toNat n3 * 1, none⟩))) fun (l1 : List UInt8) =>
  ifW (l1 == x1.1)
  (ptrW (some ⟨b2, 0, none⟩) fun (b5 b6 : Nat) =>
  evS (storeV E0 S8 3 (.pointer (some ⟨b5, b6 + 0, none⟩)) (.int .i64 n3)) fun (S9 : St) => k1 (wrapI .i64 (n3 + 1)) S9)
  (k1 (wrapI .i64 (n3 + 1)) S8))
  (k1 (wrapI .i64 (n3 + 1)) S8))
  (evV (TT.one (Ty.agg G40)) (loadV E0 S8 41 (.pointer (some ⟨b2, 0, none⟩))) fun (x3 : Int × Int × Int) =>
  evS (storeV E0 S8 41 (.pointer (some ⟨b1, 0, none⟩)) (sv G40 x3)) fun (S10 : St) =>
  evV (TT.one (Ty.agg G40)) (loadV E0 S10 41 (.pointer (some ⟨b1, 0, none⟩))) fun (x4 : Int × Int × Int) => k (sv G40 x4) S10))
  0 S7
theorem w70 (w_0 : List UInt8) {S : St} {k : Value → St → Prop} (h : c70 w_0 S k) : WC E0 70 [.string ⟨w_0.toArray⟩] S k :=
  WC_den h70 rfl (by kernel_rfl) (by kernel_rfl : Tryz.f70.body = some (bodyOf Tryz.f70)) (by rw [show (denF E0 h70 Tryz.f70 (bodyOf Tryz.f70) [.string ⟨w_0.toArray⟩] S k) = c70 w_0 S k by kernel_rfl]; exact h)

/-! 71 wagonway/wagonwayref23.words -/
noncomputable def h71 : Hn := (.n .no (.n .no (.n (.n .no (.n (.n .no .no (some ⟨[0], [(3, .sc .sl), (4, .sc (.int .i64))], false⟩)) .no none) none) .no none) none) none)
def c71 (s_0 : List UInt8) (S : St) (k : Value → St → Prop) : Prop :=
  newW S (.cells [.string { data := #[] }] none false none) fun (b1 : Nat) (S1 : St) =>
  loopW
  (fun (k1 : Sl × Int → St → Prop) (x1 : Sl × Int) (S2 : St) =>
  ifW (ltI x1.2 (↑(List.length s_0) : Int))
  (evV tU8 (indexD E0 9 (.string { data := List.toArray s_0 }) (.int .i64 x1.2)) fun (n1 : Int) =>
  ifW (eqI n1 32)
  (newW S2 (.cells [.string { data := #[] }] none false none) fun (b2 : Nat) (S3 : St) =>
  evP tS (appendD E0 S3 78 78 (.slice x1.1.a x1.1.len x1.1.cap) (.slice (some ⟨b2, 0, none⟩) 1 1)) fun (s1 : Sl) (S4 : St) =>
  k1 ({ a := s1.a, len := s1.len, cap := s1.cap }, wrapI .i64 (x1.2 + 1)) S4)
  (idxW x1.1.a x1.1.len (wrapI .i64 ((↑x1.1.len : Int) - 1)) fun (b3 b4 : Nat) =>
  evV tT (loadV E0 S2 9 (.pointer (some ⟨b3, b4 + Int.toNat (wrapI .i64 ((↑x1.1.len : Int) - 1)) * 1, none⟩))) fun (l1 : List UInt8) =>
  evV tT (sliceD E0 S2 9 (.string { data := List.toArray s_0 }) (some (.int .i64 x1.2)) (some (.int .i64 (wrapI .i64 (x1.2 + 1)))) none) fun (l2 : List UInt8) =>
  evV tT (catD { data := List.toArray l1 } { data := List.toArray l2 }) fun (l3 : List UInt8) =>
  idxW x1.1.a x1.1.len (wrapI .i64 ((↑x1.1.len : Int) - 1)) fun (b5 b6 : Nat) =>
  evS (storeV E0 S2 9 (.pointer (some ⟨b5, b6 + Int.toNat (wrapI .i64 ((↑x1.1.len : Int) - 1)) * 1, none⟩)) (.string { data := List.toArray l3 })) fun (S5 : St) =>
  k1 ({ a := x1.1.a, len := x1.1.len, cap := x1.1.cap }, wrapI .i64 (x1.2 + 1)) S5))
  (k (.slice x1.1.a x1.1.len x1.1.cap) S2))
  ({ a := some ⟨b1, 0, none⟩, len := 1, cap := 1 }, 0) S1
theorem w71 (s_0 : List UInt8) {S : St} {k : Value → St → Prop} (h : c71 s_0 S k) : WC E0 71 [.string ⟨s_0.toArray⟩] S k :=
  WC_den h71 rfl (by kernel_rfl) (by kernel_rfl : Tryz.f71.body = some (bodyOf Tryz.f71)) (by rw [show (denF E0 h71 Tryz.f71 (bodyOf Tryz.f71) [.string ⟨s_0.toArray⟩] S k) = c71 s_0 S k by kernel_rfl]; exact h)

/-! 72 wagonway/wagonwayref23.small -/
noncomputable def h72 : Hn := .no
def c72 (s_0 : List UInt8) (S : St) (k : Value → St → Prop) : Prop :=
  evC E0 tU 73 [.string { data := List.toArray s_0 }] S fun (n1 : Int) (S1 : St) => ifW (ltI 9223372036854775807 n1) (k (.int .i64 (-9)) S1) (k (.int .i64 (wrapI .i64 n1)) S1)
theorem w72 (s_0 : List UInt8) {S : St} {k : Value → St → Prop} (h : c72 s_0 S k) : WC E0 72 [.string ⟨s_0.toArray⟩] S k :=
  WC_den h72 rfl (by kernel_rfl) (by kernel_rfl : Tryz.f72.body = some (bodyOf Tryz.f72)) (by rw [show (denF E0 h72 Tryz.f72 (bodyOf Tryz.f72) [.string ⟨s_0.toArray⟩] S k) = c72 s_0 S k by kernel_rfl]; exact h)

/-! 73 wagonway/wagonwayref23.value -/
noncomputable def h73 : Hn := (.n .no (.n .no (.n (.n .no (.n (.n .no .no (some ⟨[0], [(3, .sc (.int .u64)), (4, .sc (.int .i64))], false⟩)) .no none) none) .no none) none) none)
def c73 (s_0 : List UInt8) (S : St) (k : Value → St → Prop) : Prop :=
  loopW
  (fun (k1 : Int × Int → St → Prop) (x1 : Int × Int) (S1 : St) =>
  ifW (ltI x1.2 (↑(List.length s_0) : Int))
  (evV tU8 (indexD E0 9 (.string { data := List.toArray s_0 }) (.int .i64 x1.2)) fun (n1 : Int) =>
  ifW (ltI n1 48) (k (.int .u64 x1.1) S1)
  (evV tU8 (indexD E0 9 (.string { data := List.toArray s_0 }) (.int .i64 x1.2)) fun (n2 : Int) =>
  ifW (ltI 57 n2) (k (.int .u64 x1.1) S1)
  (ifW (ltI 1844674407370955161 x1.1) (k (.int .u64 x1.1) S1)
  (evV tU8 (indexD E0 9 (.string { data := List.toArray s_0 }) (.int .i64 x1.2)) fun (n3 : Int) =>
  ifW (eqI x1.1 1844674407370955161)
  (ifW (ltI 5 (wrapI .u64 (wrapI .u8 (n3 - 48)))) (k (.int .u64 x1.1) S1)
  (k1 (wrapI .u64 (wrapI .u64 (10 * x1.1) + wrapI .u64 (wrapI .u8 (n3 - 48))), wrapI .i64 (x1.2 + 1)) S1))
  (k1 (wrapI .u64 (wrapI .u64 (10 * x1.1) + wrapI .u64 (wrapI .u8 (n3 - 48))), wrapI .i64 (x1.2 + 1)) S1)))))
  (k (.int .u64 x1.1) S1))
  (0, 0) S
theorem w73 (s_0 : List UInt8) {S : St} {k : Value → St → Prop} (h : c73 s_0 S k) : WC E0 73 [.string ⟨s_0.toArray⟩] S k :=
  WC_den h73 rfl (by kernel_rfl) (by kernel_rfl : Tryz.f73.body = some (bodyOf Tryz.f73)) (by rw [show (denF E0 h73 Tryz.f73 (bodyOf Tryz.f73) [.string ⟨s_0.toArray⟩] S k) = c73 s_0 S k by kernel_rfl]; exact h)

/-! 74 wagonway/order.parts$1 -/
noncomputable def h74 : Hn := (.n .no (.n (.n .no (.n (.n .no (.n .no (.n .no .no (some ⟨[0, 3, 5], [(8, .sc .bool)], false⟩)) none) none) .no none) none) (.n .no (.n (.n .no .no (some ⟨[0, 3, 23], [(24, .sc (.int .i64))], false⟩)) .no none) none) (some ⟨[0], [(3, .sc .str)], false⟩)) none)
def c74 (yield_0 : Value) (c1 : Nat) (S : St) (k : Value → St → Prop) : Prop :=
  joinW
  (fun (l1 : List UInt8) (S1 : St) =>
  loopW
  (fun (k1 : Int → St → Prop) (n1 : Int) (S2 : St) =>
  ifW (ltI n1 (↑(List.length l1) : Int))
  (evV tU8 (indexD E0 9 (.string { data := List.toArray l1 }) (.int .i64 n1)) fun (n2 : Int) =>
  evY E0 tB yield_0 [.int .u8 n2] S2 fun (t1 : Bool) (S3 : St) => ifW (!t1) (k (.tuple #[]) S3) (k1 (wrapI .i64 (n1 + 1)) S3))
  (k (.tuple #[]) S2))
  0 S1)
  fun (k2 : List UInt8 → St → Prop) =>
  evV tI (loadV E0 S 3 (.pointer (some ⟨c1, 0, none⟩))) fun (n3 : Int) =>
  ifW (eqI n3 1) (k2 [UInt8.ofNat 114, UInt8.ofNat 100] S)
  (joinW
  (fun (t2 : Bool) (S4 : St) =>
  ifW t2 (k2 [UInt8.ofNat 112] S4)
  (ifW (eqI n3 5) (k2 [UInt8.ofNat 112, UInt8.ofNat 97, UInt8.ofNat 119] S4)
  (ifW (eqI n3 6) (k2 [UInt8.ofNat 114] S4)
  (ifW (eqI n3 7) (k2 [UInt8.ofNat 114, UInt8.ofNat 99] S4) (ifW (eqI n3 8) (k2 [UInt8.ofNat 114, UInt8.ofNat 101] S4) (ifW (eqI n3 9) (k2 [UInt8.ofNat 114, UInt8.ofNat 117] S4) (k2 [] S4)))))))
  fun (k3 : Bool → St → Prop) => ifW (eqI n3 2) (k3 true S) (ifW (eqI n3 3) (k3 true S) (k3 (eqI n3 4) S)))
theorem w74 (yield_0 : Value) (c1 : Nat) {S : St} {k : Value → St → Prop} (h : c74 yield_0 c1 S k) : WC E0 74 [yield_0, .pointer (some ⟨c1, 0, none⟩)] S k :=
  WC_den h74 rfl (by kernel_rfl) (by kernel_rfl : Tryz.f74.body = some (bodyOf Tryz.f74)) (by rw [show (denF E0 h74 Tryz.f74 (bodyOf Tryz.f74) [yield_0, .pointer (some ⟨c1, 0, none⟩)] S k) = c74 yield_0 c1 S k by kernel_rfl]; exact h)

/-! 75 internal/strconv.FormatUint -/
noncomputable def h75 : Hn := .no
def c75 (i_0 : Int) (base_1 : Int) (S : St) (k : Value → St → Prop) : Prop :=
  ifW (eqI base_1 10)
  (ifW (ltI i_0 100) (evC E0 tT 86 [.int .i64 (wrapI .i64 i_0)] S fun (l1 : List UInt8) (S1 : St) => k (.string { data := List.toArray l1 }) S1)
  (newW S
  (.cells
  [.int .u8 0, .int .u8 0, .int .u8 0, .int .u8 0, .int .u8 0, .int .u8 0, .int .u8 0, .int .u8 0,
  .int .u8 0, .int .u8 0, .int .u8 0, .int .u8 0, .int .u8 0, .int .u8 0, .int .u8 0, .int .u8 0,
  .int .u8 0, .int .u8 0, .int .u8 0, .int .u8 0, .int .u8 0, .int .u8 0, .int .u8 0, .int .u8 0]
  none false none)
  fun (b1 : Nat) (S2 : St) =>
  evC E0 tI 87 [.int .u64 i_0] S2 fun (n1 : Int) (S3 : St) =>
  evV tS (sliceD E0 S3 120 (.pointer (some ⟨b1, 0, none⟩)) none (some (.int .i64 n1)) none) fun (s1 : Sl) =>
  evC E0 (TT.tup []) 88 [.slice s1.a s1.len s1.cap, .int .u64 i_0] S3 fun (x1 : PUnit) (S4 : St) =>
  evV tS (sliceD E0 S4 120 (.pointer (some ⟨b1, 0, none⟩)) none (some (.int .i64 n1)) none) fun (s2 : Sl) =>
  evP tT (convertD E0 S4 52 9 (.slice s2.a s2.len s2.cap)) fun (l2 : List UInt8) (S5 : St) => k (.string { data := List.toArray l2 }) S5))
  (evC E0 (TT.tup [Ty.sc Sc.sl, Ty.sc Sc.str]) 89 [.slice none 0 0, .int .u64 i_0, .int .i64 base_1, .bool false, .bool false] S fun (x2 : Sl × List UInt8) (S6 : St) =>
  k (.string { data := List.toArray x2.2 }) S6)
theorem w75 (i_0 : Int) (base_1 : Int) {S : St} {k : Value → St → Prop} (h : c75 i_0 base_1 S k) : WC E0 75 [.int .u64 i_0, .int .i64 base_1] S k :=
  WC_den h75 rfl (by kernel_rfl) (by kernel_rfl : Tryz.f75.body = some (bodyOf Tryz.f75)) (by rw [show (denF E0 h75 Tryz.f75 (bodyOf Tryz.f75) [.int .u64 i_0, .int .i64 base_1] S k) = c75 i_0 base_1 S k by kernel_rfl]; exact h)

/-! 76 internal/strconv.FormatInt -/
noncomputable def h76 : Hn := (.n .no (.n (.n .no (.n (.n (.n .no .no (some ⟨[0], [(17, .sc .bool)], false⟩)) (.n .no (.n .no (.n .no .no (some ⟨[0, 5], [(6, .sc (.int .u64))], false⟩)) none) none) none) .no none) none) .no none) none)
def c76 (i_0 : Int) (base_1 : Int) (S : St) (k : Value → St → Prop) : Prop :=
  ifW (eqI base_1 10)
  (joinW
  (fun (t1 : Bool) (S1 : St) =>
  ifW t1 (evC E0 tT 86 [.int .i64 i_0] S1 fun (l1 : List UInt8) (S2 : St) => k (.string { data := List.toArray l1 }) S2)
  (newW S1
  (.cells
  [.int .u8 0, .int .u8 0, .int .u8 0, .int .u8 0, .int .u8 0, .int .u8 0, .int .u8 0, .int .u8 0,
  .int .u8 0, .int .u8 0, .int .u8 0, .int .u8 0, .int .u8 0, .int .u8 0, .int .u8 0, .int .u8 0,
  .int .u8 0, .int .u8 0, .int .u8 0, .int .u8 0, .int .u8 0, .int .u8 0, .int .u8 0, .int .u8 0]
  none false none)
  fun (b1 : Nat) (S3 : St) =>
  joinW
  (fun (n1 : Int) (S4 : St) =>
  evC E0 tI 87 [.int .u64 n1] S4 fun (n2 : Int) (S5 : St) =>
  evV tS (sliceD E0 S5 120 (.pointer (some ⟨b1, 0, none⟩)) (some (.int .i64 1)) (some (.int .i64 (wrapI .i64 (1 + n2)))) none) fun (s1 : Sl) =>
  evC E0 (TT.tup []) 88 [.slice s1.a s1.len s1.cap, .int .u64 n1] S5 fun (x1 : PUnit) (S6 : St) =>
  ifW (ltI i_0 0)
  (idxW (some ⟨b1, 0, none⟩) 24 0 fun (b2 b3 : Nat) =>
  evS (storeV E0 S6 5 (.pointer (some ⟨b2, b3 + Int.toNat 0 * 1, none⟩)) (.int .u8 45)) fun (S7 : St) =>
  evV tS (sliceD E0 S7 120 (.pointer (some ⟨b1, 0, none⟩)) none (some (.int .i64 (wrapI .i64 (1 + n2)))) none) fun (s2 : Sl) =>
  evP tT (convertD E0 S7 52 9 (.slice s2.a s2.len s2.cap)) fun (l2 : List UInt8) (S8 : St) => k (.string { data := List.toArray l2 }) S8)
  (evV tS (sliceD E0 S6 120 (.pointer (some ⟨b1, 0, none⟩)) (some (.int .i64 1)) (some (.int .i64 (wrapI .i64 (1 + n2)))) none) fun (s3 : Sl) =>
  evP tT (convertD E0 S6 52 9 (.slice s3.a s3.len s3.cap)) fun (l3 : List UInt8) (S9 : St) => k (.string { data := List.toArray l3 }) S9))
  fun (k1 : Int → St → Prop) => ifW (ltI i_0 0) (k1 (wrapI .u64 (0 - wrapI .u64 i_0)) S3) (k1 (wrapI .u64 i_0) S3)))
  fun (k2 : Bool → St → Prop) => ifW (leI 0 i_0) (k2 (ltI i_0 100) S) (k2 false S))
  (evC E0 (TT.tup [Ty.sc Sc.sl, Ty.sc Sc.str]) 89 [.slice none 0 0, .int .u64 (wrapI .u64 i_0), .int .i64 base_1, .bool (ltI i_0 0), .bool false] S
  fun (x2 : Sl × List UInt8) (S10 : St) => k (.string { data := List.toArray x2.2 }) S10)
theorem w76 (i_0 : Int) (base_1 : Int) {S : St} {k : Value → St → Prop} (h : c76 i_0 base_1 S k) : WC E0 76 [.int .i64 i_0, .int .i64 base_1] S k :=
  WC_den h76 rfl (by kernel_rfl) (by kernel_rfl : Tryz.f76.body = some (bodyOf Tryz.f76)) (by rw [show (denF E0 h76 Tryz.f76 (bodyOf Tryz.f76) [.int .i64 i_0, .int .i64 base_1] S k) = c76 i_0 base_1 S k by kernel_rfl]; exact h)

/-! 87 internal/strconv.numDigits -/
noncomputable def h87 : Hn := .no
def c87 (d_0 : Int) (S : St) (k : Value → St → Prop) : Prop :=
  evC E0 tI 105 [.int .u64 d_0] S fun (n1 : Int) (S1 : St) =>
  evC E0 tI 104 [.int .i64 n1] S1 fun (n2 : Int) (S2 : St) =>
  idxW (some ⟨3, 0, none⟩) 20 n2 fun (b1 b2 : Nat) =>
  evV tU (loadV E0 S2 35 (.pointer (some ⟨b1, b2 + Int.toNat n2 * 1, none⟩))) fun (n3 : Int) =>
  evC E0 tI 106 [.bool (leI n3 d_0)] S2 fun (n4 : Int) (S3 : St) => k (.int .i64 (wrapI .i64 (n2 + n4))) S3
theorem w87 (d_0 : Int) {S : St} {k : Value → St → Prop} (h : c87 d_0 S k) : WC E0 87 [.int .u64 d_0] S k :=
  WC_den h87 rfl (by kernel_rfl) (by kernel_rfl : Tryz.f87.body = some (bodyOf Tryz.f87)) (by rw [show (denF E0 h87 Tryz.f87 (bodyOf Tryz.f87) [.int .u64 d_0] S k) = c87 d_0 S k by kernel_rfl]; exact h)

/-! 104 internal/strconv.log10Pow2 -/
noncomputable def h104 : Hn := .no
def c104 (x_0 : Int) (S : St) (k : Value → St → Prop) : Prop :=
  needW true (k (.int .i64 (Int.fdiv (wrapI .i64 (x_0 * 78913)) (↑(2 ^ min (Int.toNat 18) 64) : Int))) S)
theorem w104 (x_0 : Int) {S : St} {k : Value → St → Prop} (h : c104 x_0 S k) : WC E0 104 [.int .i64 x_0] S k :=
  WC_den h104 rfl (by kernel_rfl) (by kernel_rfl : Tryz.f104.body = some (bodyOf Tryz.f104)) (by rw [show (denF E0 h104 Tryz.f104 (bodyOf Tryz.f104) [.int .i64 x_0] S k) = c104 x_0 S k by kernel_rfl]; exact h)

/-! 106 internal/strconv.bool2[int] -/
noncomputable def h106 : Hn := .no
def c106 (b_0 : Bool) (S : St) (k : Value → St → Prop) : Prop :=
  ifW b_0 (k (.int .i64 1) S) (k (.int .i64 0) S)
theorem w106 (b_0 : Bool) {S : St} {k : Value → St → Prop} (h : c106 b_0 S k) : WC E0 106 [.bool b_0] S k :=
  WC_den h106 rfl (by kernel_rfl) (by kernel_rfl : Tryz.f106.body = some (bodyOf Tryz.f106)) (by rw [show (denF E0 h106 Tryz.f106 (bodyOf Tryz.f106) [.bool b_0] S k) = c106 b_0 S k by kernel_rfl]; exact h)

end
end Go.Proofs.YtfopfocedlbihaaGreatDoor
