/- Parts of the proof, put together. -/
import Derived.Test.YtcdignblakejoaaCA
/- The conditions of functions (printed by GenDen.lean). -/
namespace Go.Proofs.Ytcdignblakejoaa
open Go Go.Proofs.Ytcdignblakejoaa.D
set_option linter.unusedVariables false
noncomputable section

/-! 3 wagonway/wagonwaylaw21.WakeBegins -/
noncomputable def h3 : Hn := (.n .no (.n .no (.n .no (.n .no (.n (.n .no .no (some ⟨[7, 8, 9, 10], [(35, .sc .bool)], false⟩)) .no none) none) none) none) none)
def c3 (a0 : Int) (cells_1 : Int) (places_2 : Sl) (S : St) (k : Value → St → Prop) : Prop :=
  ifW (ltI 70 (↑places_2.len : Int)) (k (.bool true) S)
  (evC E0 (TT.tup [Ty.sc Sc.ptr, Ty.sc (Sc.int .i64)]) 4 [.int .i64 a0, .int .i64 cells_1, .slice places_2.a places_2.len places_2.cap] S fun (x1 : Option Addr × Int) (S1 : St) =>
  evC E0 (TT.tup [Ty.sc Sc.sl, Ty.sc (Sc.int .i64)]) 5 [.int .i64 a0, .int .i64 cells_1, .slice places_2.a places_2.len places_2.cap] S1 fun (x2 : Sl × Int) (S2 : St) =>
  joinW
  (fun (t1 : Bool) (S3 : St) =>
  ifW t1 (ifW (eqI x1.2 x2.2) (eqW E0 S3 23 (.pointer x1.1) (.pointer none) fun (t2 : Bool) => k (.bool t2) S3) (k (.bool false) S3))
  (evC E0 (TT.tup [Ty.sc (Sc.int .u32), Ty.sc Sc.bool]) 6 [.pointer x1.1] S3 fun (x3 : Int × Bool) (S4 : St) =>
  ifW x3.2
  (ifW (eqI x3.1 0)
  (evC E0 tS 8 [.pointer x1.1] S4 fun (s1 : Sl) (S5 : St) =>
  evC E0 tB 7 [.slice s1.a s1.len s1.cap, .slice x2.1.a x2.1.len x2.1.cap] S5 fun (t3 : Bool) (S6 : St) => k (.bool t3) S6)
  (k (.bool false) S4))
  (k (.bool false) S4)))
  fun (k1 : Bool → St → Prop) => ifW (!eqI x1.2 0) (k1 true S2) (k1 (!eqI x2.2 0) S2))
theorem w3 (a0 : Int) (cells_1 : Int) (places_2 : Sl) {S : St} {k : Value → St → Prop} (h : c3 a0 cells_1 places_2 S k) : WC E0 3 [.int .i64 a0, .int .i64 cells_1, .slice places_2.a places_2.len places_2.cap] S k :=
  WC_den h3 rfl (by kernel_rfl) (by kernel_rfl : Try.f3.body = some (bodyOf Try.f3)) (by rw [show (denF E0 h3 Try.f3 (bodyOf Try.f3) [.int .i64 a0, .int .i64 cells_1, .slice places_2.a places_2.len places_2.cap] S k) = c3 a0 cells_1 places_2 S k by kernel_rfl]; exact h)

/-! 4 wagonway/wake.Begin -/
noncomputable def h4 : Hn := (.n .no (.n .no (.n .no (.n .no (.n .no (.n .no (.n .no (.n .no (.n (.n .no (.n (.n .no .no (some ⟨[8, 10, 46, 47], [(48, .sc (.int .i64))], false⟩)) .no none) none) .no none) none) none) none) none) none) none) none) none)
def c4 (a0 : Int) (cells_1 : Int) (places_2 : Sl) (S : St) (k : Value → St → Prop) : Prop :=
  evC E0 tB 9 [.int .i64 a0, .int .i64 cells_1, .slice places_2.a places_2.len places_2.cap] S fun (t1 : Bool) (S1 : St) =>
  ifW (!t1) (k (.tuple #[.pointer none, .int .i64 2]) S1)
  (newW S1 (.cells [.map none] none false none) fun (b1 : Nat) (S2 : St) =>
  evC E0 (TT.one (Ty.agg G41)) 11 [.int .u32 0] S2 fun (x1 : Int × Int × Sl) (S3 : St) =>
  evC E0 tI 10 [.pointer (some ⟨b1, 0, none⟩), sv G41 x1] S3 fun (n1 : Int) (S4 : St) =>
  newW S4 (.cells [.slice none 0 0] none false none) fun (b2 : Nat) (S5 : St) =>
  idxW places_2.a places_2.len a0 fun (b3 b4 : Nat) =>
  evV tI (loadV E0 S5 3 (.pointer (some ⟨b3, b4 + Int.toNat a0 * 1, none⟩))) fun (n2 : Int) =>
  evC E0 tI 12 [.pointer (some ⟨b2, 0, none⟩), .int .i64 n2, .int .u32 1] S5 fun (n3 : Int) (S6 : St) =>
  idxW places_2.a places_2.len a0 fun (b5 b6 : Nat) =>
  evV tI (loadV E0 S6 3 (.pointer (some ⟨b5, b6 + Int.toNat a0 * 1, none⟩))) fun (n4 : Int) =>
  evC E0 (TT.one (Ty.agg G41)) 13 [.pointer (some ⟨b2, 0, none⟩), .int .i64 n4] S6 fun (x2 : Int × Int × Sl) (S7 : St) =>
  evC E0 tI 10 [.pointer (some ⟨b1, 0, none⟩), sv G41 x2] S7 fun (n5 : Int) (S8 : St) =>
  evC E0 (TT.tup [Ty.sc Sc.ptr, Ty.sc (Sc.int .i64)]) 14 [.int .i64 a0, .int .i64 (↑places_2.len : Int), .int .i64 cells_1] S8
  fun (x3 : Option Addr × Int) (S9 : St) =>
  loopW
  (fun (k1 : Int → St → Prop) (n6 : Int) (S10 : St) =>
  ifW (ltI n6 (↑places_2.len : Int))
  (idxW places_2.a places_2.len n6 fun (b7 b8 : Nat) =>
  evV tI (loadV E0 S10 3 (.pointer (some ⟨b7, b8 + Int.toNat n6 * 1, none⟩))) fun (n7 : Int) =>
  evC E0 tB 15 [.pointer x3.1, .int .i64 n7] S10 fun (t2 : Bool) (S11 : St) =>
  ifW t2
  (evC E0 (TT.tup [Ty.agg G41, Ty.sc (Sc.int .i64)]) 16 [.pointer x3.1, .int .i64 n7, .int .i64 n6] S11
  fun (x4 : (Int × Int × Sl) × Int) (S12 : St) =>
  newW S12 (.cells [.int .i64 0, .int .i64 0, .slice none 0 0] none false none) fun (b9 : Nat) (S13 : St) =>
  evS (storeV E0 S13 42 (.pointer (some ⟨b9, 0, none⟩)) (sv G41 x4.1)) fun (S14 : St) =>
  evV (TT.one (Ty.agg G41)) (loadV E0 S14 42 (.pointer (some ⟨b9, 0, none⟩))) fun (x5 : Int × Int × Sl) =>
  evC E0 tI 10 [.pointer (some ⟨b1, 0, none⟩), sv G41 x5] S14 fun (n8 : Int) (S15 : St) => k1 (wrapI .i64 (n6 + 1)) S15)
  (k1 (wrapI .i64 (n6 + 1)) S11))
  (k (.tuple #[.pointer (some ⟨b1, 0, none⟩), .int .i64 0]) S10))
  0 S9)
theorem w4 (a0 : Int) (cells_1 : Int) (places_2 : Sl) {S : St} {k : Value → St → Prop} (h : c4 a0 cells_1 places_2 S k) : WC E0 4 [.int .i64 a0, .int .i64 cells_1, .slice places_2.a places_2.len places_2.cap] S k :=
  WC_den h4 rfl (by kernel_rfl) (by kernel_rfl : Try.f4.body = some (bodyOf Try.f4)) (by rw [show (denF E0 h4 Try.f4 (bodyOf Try.f4) [.int .i64 a0, .int .i64 cells_1, .slice places_2.a places_2.len places_2.cap] S k) = c4 a0 cells_1 places_2 S k by kernel_rfl]; exact h)

/-! 5 wagonway/wagonwayref21.Begin -/
noncomputable def h5 : Hn := (.n .no (.n .no (.n .no (.n (.n .no (.n (.n (.n .no (.n (.n (.n .no (.n .no (.n (.n .no .no (some ⟨[0, 1, 2, 8, 9], [(10, .sc (.int .i64))], false⟩)) .no none) none) none) .no none) .no none) none) .no (some ⟨[0, 1, 2, 8], [(9, .sc (.int .i64))], false⟩)) .no none) none) (.n .no (.n .no (.n .no (.n (.n .no (.n (.n .no .no (some ⟨[0, 2, 8], [(11, .sc .sl), (12, .sc (.int .i64))], false⟩)) .no none) none) .no none) none) none) none) none) none) none) none)
def c5 (a0 : Int) (cells_1 : Int) (places_2 : Sl) (S : St) (k : Value → St → Prop) : Prop :=
  ifW (eqI (↑places_2.len : Int) 0) (k (.tuple #[.slice none 0 0, .int .i64 2]) S)
  (ifW (ltI 64 (↑places_2.len : Int)) (k (.tuple #[.slice none 0 0, .int .i64 2]) S)
  (ifW (ltI a0 0) (k (.tuple #[.slice none 0 0, .int .i64 2]) S)
  (ifW (leI (↑places_2.len : Int) a0) (k (.tuple #[.slice none 0 0, .int .i64 2]) S)
  (ifW (ltI cells_1 1) (k (.tuple #[.slice none 0 0, .int .i64 2]) S)
  (ifW (ltI 1024 cells_1) (k (.tuple #[.slice none 0 0, .int .i64 2]) S)
  (loopW
  (fun (k1 : Int → St → Prop) (n1 : Int) (S1 : St) =>
  ifW (ltI n1 (↑places_2.len : Int))
  (idxW places_2.a places_2.len n1 fun (b1 b2 : Nat) =>
  evV tI (loadV E0 S1 3 (.pointer (some ⟨b1, b2 + Int.toNat n1 * 1, none⟩))) fun (n2 : Int) =>
  ifW (ltI n2 0) (k (.tuple #[.slice none 0 0, .int .i64 2]) S1)
  (idxW places_2.a places_2.len n1 fun (b3 b4 : Nat) =>
  evV tI (loadV E0 S1 3 (.pointer (some ⟨b3, b4 + Int.toNat n1 * 1, none⟩))) fun (n3 : Int) =>
  ifW (leI cells_1 n3) (k (.tuple #[.slice none 0 0, .int .i64 2]) S1)
  (loopW
  (fun (k2 : Int → St → Prop) (n4 : Int) (S2 : St) =>
  ifW (ltI n4 n1)
  (idxW places_2.a places_2.len n4 fun (b5 b6 : Nat) =>
  evV tI (loadV E0 S2 3 (.pointer (some ⟨b5, b6 + Int.toNat n4 * 1, none⟩))) fun (n5 : Int) =>
  idxW places_2.a places_2.len n1 fun (b7 b8 : Nat) =>
  evV tI (loadV E0 S2 3 (.pointer (some ⟨b7, b8 + Int.toNat n1 * 1, none⟩))) fun (n6 : Int) =>
  ifW (eqI n5 n6) (k (.tuple #[.slice none 0 0, .int .i64 2]) S2) (k2 (wrapI .i64 (n4 + 1)) S2))
  (k1 (wrapI .i64 (n1 + 1)) S2))
  0 S1)))
  (evC E0 (TT.one (Ty.agg G41)) 18 [.int .u32 0] S1 fun (x1 : Int × Int × Sl) (S3 : St) =>
  evC E0 (TT.tup [Ty.sc Sc.sl, Ty.sc (Sc.int .i64)]) 17 [.slice none 0 0, sv G41 x1] S3 fun (x2 : Sl × Int) (S4 : St) =>
  idxW places_2.a places_2.len a0 fun (b9 b10 : Nat) =>
  evV tI (loadV E0 S4 3 (.pointer (some ⟨b9, b10 + Int.toNat a0 * 1, none⟩))) fun (n7 : Int) =>
  newW S4 (.cells [.int .u8 0, .int .u8 0, .int .u8 0, .int .u8 1] none false none) fun (b11 : Nat) (S5 : St) =>
  evC E0 (TT.tup [Ty.sc Sc.sl, Ty.sc (Sc.int .i64)]) 17
  [.slice x2.1.a x2.1.len x2.1.cap, .agg #[.int .i64 2, .int .i64 n7, .slice (some ⟨b11, 0, none⟩) 4 4]] S5
  fun (x3 : Sl × Int) (S6 : St) =>
  loopW
  (fun (k3 : Sl × Int → St → Prop) (x4 : Sl × Int) (S7 : St) =>
  ifW (ltI x4.2 (↑places_2.len : Int))
  (idxW places_2.a places_2.len x4.2 fun (b12 b13 : Nat) =>
  evV tI (loadV E0 S7 3 (.pointer (some ⟨b12, b13 + Int.toNat x4.2 * 1, none⟩))) fun (n8 : Int) =>
  needW (!decide ((↑places_2.len : Int) = 0))
  (ifW (eqI (Int.tmod n8 (↑places_2.len : Int)) a0)
  (idxW places_2.a places_2.len x4.2 fun (b14 b15 : Nat) =>
  evV tI (loadV E0 S7 3 (.pointer (some ⟨b14, b15 + Int.toNat x4.2 * 1, none⟩))) fun (n9 : Int) =>
  evC E0 (TT.one (Ty.agg G41)) 19 [.int .i64 n9, .agg #[.int .i64 x4.2, .int .u32 1, .slice none 0 0]] S7
  fun (x5 : Int × Int × Sl) (S8 : St) =>
  evC E0 (TT.tup [Ty.sc Sc.sl, Ty.sc (Sc.int .i64)]) 17 [.slice x4.1.a x4.1.len x4.1.cap, sv G41 x5] S8 fun (x6 : Sl × Int) (S9 : St) =>
  k3 ({ a := x6.1.a, len := x6.1.len, cap := x6.1.cap }, wrapI .i64 (x4.2 + 1)) S9)
  (k3 ({ a := x4.1.a, len := x4.1.len, cap := x4.1.cap }, wrapI .i64 (x4.2 + 1)) S7)))
  (k (.tuple #[.slice x4.1.a x4.1.len x4.1.cap, .int .i64 0]) S7))
  ({ a := x3.1.a, len := x3.1.len, cap := x3.1.cap }, 0) S6))
  0 S))))))
theorem w5 (a0 : Int) (cells_1 : Int) (places_2 : Sl) {S : St} {k : Value → St → Prop} (h : c5 a0 cells_1 places_2 S k) : WC E0 5 [.int .i64 a0, .int .i64 cells_1, .slice places_2.a places_2.len places_2.cap] S k :=
  WC_den h5 rfl (by kernel_rfl) (by kernel_rfl : Try.f5.body = some (bodyOf Try.f5)) (by rw [show (denF E0 h5 Try.f5 (bodyOf Try.f5) [.int .i64 a0, .int .i64 cells_1, .slice places_2.a places_2.len places_2.cap] S k) = c5 a0 cells_1 places_2 S k by kernel_rfl]; exact h)

/-! 6 wagonway/wake.Epoch -/
noncomputable def h6 : Hn := .no
def c6 (s_0 : Option Addr) (S : St) (k : Value → St → Prop) : Prop :=
  evC E0 (TT.tup [Ty.sc Sc.sl, Ty.sc Sc.bool]) 20 [.pointer s_0, .int .i64 1, .int .i64 0] S fun (x1 : Sl × Bool) (S1 : St) =>
  ifW (!eqI (↑x1.1.len : Int) 4) (k (.tuple #[.int .u32 0, .bool false]) S1)
  (idxW x1.1.a x1.1.len 0 fun (b1 b2 : Nat) =>
  evV tU8 (loadV E0 S1 5 (.pointer (some ⟨b1, b2 + Int.toNat 0 * 1, none⟩))) fun (n1 : Int) =>
  needW true
  (idxW x1.1.a x1.1.len 1 fun (b3 b4 : Nat) =>
  evV tU8 (loadV E0 S1 5 (.pointer (some ⟨b3, b4 + Int.toNat 1 * 1, none⟩))) fun (n2 : Int) =>
  needW true
  (idxW x1.1.a x1.1.len 2 fun (b5 b6 : Nat) =>
  evV tU8 (loadV E0 S1 5 (.pointer (some ⟨b5, b6 + Int.toNat 2 * 1, none⟩))) fun (n3 : Int) =>
  needW true
  (idxW x1.1.a x1.1.len 3 fun (b7 b8 : Nat) =>
  evV tU8 (loadV E0 S1 5 (.pointer (some ⟨b7, b8 + Int.toNat 3 * 1, none⟩))) fun (n4 : Int) =>
  k
  (.tuple
  #[.int .u32
  (orI .u32
  (orI .u32
  (orI .u32 (wrapI .u32 (wrapI .u32 n1 * (↑(2 ^ min (Int.toNat 24) 32) : Int))) (wrapI .u32 (wrapI .u32 n2 * (↑(2 ^ min (Int.toNat 16) 32) : Int))))
  (wrapI .u32 (wrapI .u32 n3 * (↑(2 ^ min (Int.toNat 8) 32) : Int))))
  (wrapI .u32 n4)),
  .bool true])
  S1))))
theorem w6 (s_0 : Option Addr) {S : St} {k : Value → St → Prop} (h : c6 s_0 S k) : WC E0 6 [.pointer s_0] S k :=
  WC_den h6 rfl (by kernel_rfl) (by kernel_rfl : Try.f6.body = some (bodyOf Try.f6)) (by rw [show (denF E0 h6 Try.f6 (bodyOf Try.f6) [.pointer s_0] S k) = c6 s_0 S k by kernel_rfl]; exact h)

/-! 7 wagonway/wagonwayref13.Same -/
noncomputable def h7 : Hn := .no
def c7 (a_0 : Sl) (b_1 : Sl) (S : St) (k : Value → St → Prop) : Prop :=
  ifW (eqI (↑a_0.len : Int) (↑b_1.len : Int))
  (evC E0 tS 21 [.slice a_0.a a_0.len a_0.cap] S fun (s1 : Sl) (S1 : St) =>
  evP tT (convertD E0 S1 40 9 (.slice s1.a s1.len s1.cap)) fun (l1 : List UInt8) (S2 : St) =>
  evC E0 tS 21 [.slice b_1.a b_1.len b_1.cap] S2 fun (s2 : Sl) (S3 : St) =>
  evP tT (convertD E0 S3 40 9 (.slice s1.a s1.len s1.cap)) fun (l2 : List UInt8) (S4 : St) =>
  sameV (.string { data := List.toArray l2 }) (.string { data := List.toArray l1 })
  (evP tT (convertD E0 S3 40 9 (.slice s2.a s2.len s2.cap)) fun (l3 : List UInt8) (S5 : St) => k (.bool (l1 == l3)) S5))
  (k (.bool false) S)
theorem w7 (a_0 : Sl) (b_1 : Sl) {S : St} {k : Value → St → Prop} (h : c7 a_0 b_1 S k) : WC E0 7 [.slice a_0.a a_0.len a_0.cap, .slice b_1.a b_1.len b_1.cap] S k :=
  WC_den h7 rfl (by kernel_rfl) (by kernel_rfl : Try.f7.body = some (bodyOf Try.f7)) (by rw [show (denF E0 h7 Try.f7 (bodyOf Try.f7) [.slice a_0.a a_0.len a_0.cap, .slice b_1.a b_1.len b_1.cap] S k) = c7 a_0 b_1 S k by kernel_rfl]; exact h)

/-! 8 (*wagonway/shelf.Shelf).All -/
noncomputable def h8 : Hn := (.n .no (.n .no (.n (.n .no (.n (.n .no .no (some ⟨[], [(7, .agg [(.int .i64), (.int .i64)])], false⟩)) .no none) none) .no none) none) none)
def c8 (s_0 : Option Addr) (S : St) (k : Value → St → Prop) : Prop :=
  newW S (.cells [.pointer s_0] none false none) fun (b1 : Nat) (S1 : St) =>
  newW S1 (.cells [.slice none 0 0] none false none) fun (b2 : Nat) (S2 : St) =>
  evV tP (loadV E0 S2 23 (.pointer (some ⟨b1, 0, none⟩))) fun (p1 : Option Addr) =>
  evC E0 tA 22 [.pointer p1] S2 fun (v1 : Value) (S3 : St) =>
  newW S3 DObj.deferred fun (b3 : Nat) (S4 : St) =>
  ∀ (b4 : Nat) (S5 : St) (k1 : LoopState → Option Code → DObj),
  b4 = S4.next →
  S5 = (St.alloc S4 (k1 LoopState.ready none)).2 →
  (LoopL fun (x1 : LoopState) (p2 : Option Code) => k1 x1 p2) →
  (RoundH E0 b4 [Ty.agg [Sc.int .i64, Sc.int .i64]] fun (x2 : Int × Int) (S6 : St) (k2 : Bool → St → Prop) =>
  hasW S6 b4 (k1 LoopState.ready none)
  (newW S6 (.cells [.int .i64 0, .int .i64 0] none false none) fun (b5 : Nat) (S7 : St) =>
  evS (storeV E0 S7 68 (.pointer (some ⟨b5, 0, none⟩)) (sv G67 x2)) fun (S8 : St) =>
  hasW S8 b4 (k1 LoopState.ready none)
  (updW S8 b4 (k1 LoopState.busy none) fun (S9 : St) =>
  evV tS (loadV E0 S9 27 (.pointer (some ⟨b2, 0, none⟩))) fun (s1 : Sl) =>
  evV tP (loadV E0 S9 23 (.pointer (some ⟨b1, 0, none⟩))) fun (p3 : Option Addr) =>
  evV (TT.one (Ty.agg G67)) (loadV E0 S9 68 (.pointer (some ⟨b5, 0, none⟩))) fun (x3 : Int × Int) =>
  evC E0 (TT.one (Ty.agg G41)) 23 [.pointer p3, sv G67 x3] S9 fun (x4 : Int × Int × Sl) (S10 : St) =>
  evV tS (loadV E0 S10 27 (.pointer (some ⟨b2, 0, none⟩))) fun (s2 : Sl) =>
  sameV (.slice s2.a s2.len s2.cap) (.slice s1.a s1.len s1.cap)
  (newW S10 (.cells [.int .i64 x4.1, .int .i64 x4.2.1, .slice x4.2.2.a x4.2.2.len x4.2.2.cap] none false none)
  fun (b6 : Nat) (S11 : St) =>
  evV tS (loadV E0 S11 27 (.pointer (some ⟨b2, 0, none⟩))) fun (s3 : Sl) =>
  sameV (.slice s3.a s3.len s3.cap) (.slice s1.a s1.len s1.cap)
  (evP tS (appendD E0 S11 27 27 (.slice s1.a s1.len s1.cap) (.slice (some ⟨b6, 0, none⟩) 1 1)) fun (s4 : Sl) (S12 : St) =>
  evS (storeV E0 S12 27 (.pointer (some ⟨b2, 0, none⟩)) (.slice s4.a s4.len s4.cap)) fun (S13 : St) =>
  hasW S13 b4 (k1 LoopState.busy none) (updW S13 b4 (k1 LoopState.ready none) fun (S14 : St) => k2 true S14)))))) →
  WG E0 v1 b4 S5 fun (S15 : St) =>
  hasW S15 b4 (k1 LoopState.ready none)
  (updW S15 b4 (k1 LoopState.exhausted none) fun (S16 : St) =>
  evV tS (loadV E0 S16 27 (.pointer (some ⟨b2, 0, none⟩))) fun (s5 : Sl) =>
  hasW S16 b3 DObj.deferred (updW S16 b3 DObj.dead fun (S17 : St) => k (.slice s5.a s5.len s5.cap) S17)) ∨
  False
theorem w8 (s_0 : Option Addr) {S : St} {k : Value → St → Prop} (h : c8 s_0 S k) : WC E0 8 [.pointer s_0] S k :=
  WC_den h8 rfl (by kernel_rfl) (by kernel_rfl : Try.f8.body = some (bodyOf Try.f8)) (by rw [show (denF E0 h8 Try.f8 (bodyOf Try.f8) [.pointer s_0] S k) = c8 s_0 S k by kernel_rfl]; exact h)

/-! 9 wagonway/wake.may -/
noncomputable def h9 : Hn := .no
def c9 (a0 : Int) (cells_1 : Int) (places_2 : Sl) (S : St) (k : Value → St → Prop) : Prop :=
  ifW (ltI (↑places_2.len : Int) 1) (k (.bool false) S)
  (ifW (ltI 64 (↑places_2.len : Int)) (k (.bool false) S)
  (ifW (ltI a0 0) (k (.bool false) S)
  (ifW (leI (↑places_2.len : Int) a0) (k (.bool false) S)
  (ifW (ltI cells_1 1) (k (.bool false) S)
  (ifW (ltI 1024 cells_1) (k (.bool false) S)
  (evC E0 tA 25 [.slice places_2.a places_2.len places_2.cap] S fun (v1 : Value) (S1 : St) =>
  evC E0 tS 24 [v1] S1 fun (s1 : Sl) (S2 : St) =>
  idxW s1.a s1.len 0 fun (b1 b2 : Nat) =>
  evV tI (loadV E0 S2 3 (.pointer (some ⟨b1, b2 + Int.toNat 0 * 1, none⟩))) fun (n1 : Int) =>
  ifW (leI 0 n1)
  (idxW s1.a s1.len (wrapI .i64 ((↑places_2.len : Int) - 1)) fun (b3 b4 : Nat) =>
  evV tI (loadV E0 S2 3 (.pointer (some ⟨b3, b4 + Int.toNat (wrapI .i64 ((↑places_2.len : Int) - 1)) * 1, none⟩))) fun (n2 : Int) =>
  ifW (ltI n2 cells_1) (evC E0 tS 26 [.slice s1.a s1.len s1.cap] S2 fun (s2 : Sl) (S3 : St) => k (.bool (eqI (↑s2.len : Int) (↑places_2.len : Int))) S3) (k (.bool false) S2))
  (k (.bool false) S2)))))))
theorem w9 (a0 : Int) (cells_1 : Int) (places_2 : Sl) {S : St} {k : Value → St → Prop} (h : c9 a0 cells_1 places_2 S k) : WC E0 9 [.int .i64 a0, .int .i64 cells_1, .slice places_2.a places_2.len places_2.cap] S k :=
  WC_den h9 rfl (by kernel_rfl) (by kernel_rfl : Try.f9.body = some (bodyOf Try.f9)) (by rw [show (denF E0 h9 Try.f9 (bodyOf Try.f9) [.int .i64 a0, .int .i64 cells_1, .slice places_2.a places_2.len places_2.cap] S k) = c9 a0 cells_1 places_2 S k by kernel_rfl]; exact h)

/-! 10 (*wagonway/shelf.Shelf).Write -/
noncomputable def h10 : Hn := (.n .no (.n .no (.n .no (.n .no (.n .no (.n .no (.n .no .no (some ⟨[0, 3, 6], [], false⟩)) none) none) none) none) none) none)
def c10 (s_0 : Option Addr) (r_1 : Int × Int × Sl) (S : St) (k : Value → St → Prop) : Prop :=
  newW S (.cells [.int .i64 r_1.1, .int .i64 r_1.2.1, .slice r_1.2.2.a r_1.2.2.len r_1.2.2.cap] none false none) fun (b1 : Nat) (S1 : St) =>
  eqW E0 S1 23 (.pointer s_0) (.pointer none) fun (t1 : Bool) =>
  ifW t1 (k (.int .i64 1) S1)
  (evV (TT.one (Ty.agg G41)) (loadV E0 S1 42 (.pointer (some ⟨b1, 0, none⟩))) fun (x1 : Int × Int × Sl) =>
  evC E0 tI 27 [sv G41 x1] S1 fun (n1 : Int) (S2 : St) =>
  ifW (!eqI n1 0) (k (.int .i64 n1) S2)
  (ptrW (some ⟨b1, 0, none⟩) fun (b2 b3 : Nat) =>
  evV tI (loadV E0 S2 3 (.pointer (some ⟨b2, b3 + 0, none⟩))) fun (n2 : Int) =>
  ptrW (some ⟨b1, 0, none⟩) fun (b4 b5 : Nat) =>
  evV tI (loadV E0 S2 3 (.pointer (some ⟨b4, b5 + 1, none⟩))) fun (n3 : Int) =>
  newW S2 (.cells [.int .i64 0, .int .i64 0] none false none) fun (b6 : Nat) (S3 : St) =>
  evS (storeV E0 S3 68 (.pointer (some ⟨b6, 0, none⟩)) (.agg #[.int .i64 n2, .int .i64 n3])) fun (S4 : St) =>
  ptrW (some ⟨b1, 0, none⟩) fun (b7 b8 : Nat) =>
  evV tS (loadV E0 S4 40 (.pointer (some ⟨b7, b8 + 2, none⟩))) fun (s1 : Sl) =>
  ifW (eqI (↑s1.len : Int) 0)
  (ptrW s_0 fun (b9 b10 : Nat) =>
  ptrW (some ⟨b9, b10, none⟩) fun (b11 b12 : Nat) =>
  evV tM (loadV E0 S4 36 (.pointer (some ⟨b11, b12 + 0, none⟩))) fun (p1 : Option Nat) =>
  evV (TT.one (Ty.agg G67)) (loadV E0 S4 68 (.pointer (some ⟨b6, 0, none⟩))) fun (x2 : Int × Int) =>
  evS (deleteD E0 S4 36 (.map p1) (sv G67 x2)) fun (S5 : St) => k (.int .i64 0) S5)
  (ptrW s_0 fun (b13 b14 : Nat) =>
  ptrW (some ⟨b13, b14, none⟩) fun (b15 b16 : Nat) =>
  evV tM (loadV E0 S4 36 (.pointer (some ⟨b15, b16 + 0, none⟩))) fun (p2 : Option Nat) =>
  evV (TT.one (Ty.agg G67)) (loadV E0 S4 68 (.pointer (some ⟨b6, 0, none⟩))) fun (x3 : Int × Int) =>
  evV (TT.tup [Ty.sc Sc.sl, Ty.sc Sc.bool]) (lookupD E0 S4 36 (.map p2) (sv G67 x3) true) fun (x4 : Sl × Bool) =>
  ifW (!x4.2)
  (ptrW s_0 fun (b17 b18 : Nat) =>
  ptrW (some ⟨b17, b18, none⟩) fun (b19 b20 : Nat) =>
  evV tM (loadV E0 S4 36 (.pointer (some ⟨b19, b20 + 0, none⟩))) fun (p3 : Option Nat) =>
  evV tI (lenM E0 S4 36 p3) fun (n4 : Int) =>
  ifW (leI 4096 n4) (k (.int .i64 131) S4)
  (joinW
  (fun (x5 : PUnit) (S6 : St) =>
  ptrW s_0 fun (b21 b22 : Nat) =>
  ptrW (some ⟨b21, b22, none⟩) fun (b23 b24 : Nat) =>
  evV tM (loadV E0 S6 36 (.pointer (some ⟨b23, b24 + 0, none⟩))) fun (p4 : Option Nat) =>
  evV (TT.one (Ty.agg G67)) (loadV E0 S6 68 (.pointer (some ⟨b6, 0, none⟩))) fun (x6 : Int × Int) =>
  ptrW (some ⟨b1, 0, none⟩) fun (b25 b26 : Nat) =>
  evV tS (loadV E0 S6 40 (.pointer (some ⟨b25, b26 + 2, none⟩))) fun (s2 : Sl) =>
  evC E0 tS 28 [.slice s2.a s2.len s2.cap] S6 fun (s3 : Sl) (S7 : St) =>
  evV (TT.one (Ty.agg G67)) (loadV E0 S7 68 (.pointer (some ⟨b6, 0, none⟩))) fun (x7 : Int × Int) =>
  sameV (sv G67 x7) (sv G67 x6)
  (evV tM (loadV E0 S7 36 (.pointer (some ⟨b23, b24 + 0, none⟩))) fun (p5 : Option Nat) =>
  sameV (.map p5) (.map p4)
  (evS (mapUpdateD E0 S7 36 (.map p4) (sv G67 x6) (.slice s3.a s3.len s3.cap)) fun (S8 : St) => k (.int .i64 0) S8)))
  fun (k1 : PUnit → St → Prop) =>
  ptrW s_0 fun (b27 b28 : Nat) =>
  ptrW (some ⟨b27, b28, none⟩) fun (b29 b30 : Nat) =>
  evV tM (loadV E0 S4 36 (.pointer (some ⟨b29, b30 + 0, none⟩))) fun (p6 : Option Nat) =>
  eqW E0 S4 36 (.map p6) (.map none) fun (t2 : Bool) =>
  ifW t2
  (newW S4 (DObj.map [] 0) fun (b31 : Nat) (S9 : St) =>
  ptrW s_0 fun (b32 b33 : Nat) =>
  ptrW (some ⟨b32, b33, none⟩) fun (b34 b35 : Nat) =>
  evS (storeV E0 S9 36 (.pointer (some ⟨b34, b35 + 0, none⟩)) (.map (some b31))) fun (S10 : St) => k1 PUnit.unit S10)
  (k1 PUnit.unit S4)))
  (joinW
  (fun (x8 : PUnit) (S11 : St) =>
  ptrW s_0 fun (b36 b37 : Nat) =>
  ptrW (some ⟨b36, b37, none⟩) fun (b38 b39 : Nat) =>
  evV tM (loadV E0 S11 36 (.pointer (some ⟨b38, b39 + 0, none⟩))) fun (p7 : Option Nat) =>
  evV (TT.one (Ty.agg G67)) (loadV E0 S11 68 (.pointer (some ⟨b6, 0, none⟩))) fun (x9 : Int × Int) =>
  ptrW (some ⟨b1, 0, none⟩) fun (b40 b41 : Nat) =>
  evV tS (loadV E0 S11 40 (.pointer (some ⟨b40, b41 + 2, none⟩))) fun (s4 : Sl) =>
  evC E0 tS 28 [.slice s4.a s4.len s4.cap] S11 fun (s5 : Sl) (S12 : St) =>
  evV (TT.one (Ty.agg G67)) (loadV E0 S12 68 (.pointer (some ⟨b6, 0, none⟩))) fun (x10 : Int × Int) =>
  sameV (sv G67 x10) (sv G67 x9)
  (evV tM (loadV E0 S12 36 (.pointer (some ⟨b38, b39 + 0, none⟩))) fun (p8 : Option Nat) =>
  sameV (.map p8) (.map p7)
  (evS (mapUpdateD E0 S12 36 (.map p7) (sv G67 x9) (.slice s5.a s5.len s5.cap)) fun (S13 : St) => k (.int .i64 0) S13)))
  fun (k2 : PUnit → St → Prop) =>
  ptrW s_0 fun (b42 b43 : Nat) =>
  ptrW (some ⟨b42, b43, none⟩) fun (b44 b45 : Nat) =>
  evV tM (loadV E0 S4 36 (.pointer (some ⟨b44, b45 + 0, none⟩))) fun (p9 : Option Nat) =>
  eqW E0 S4 36 (.map p9) (.map none) fun (t3 : Bool) =>
  ifW t3
  (newW S4 (DObj.map [] 0) fun (b46 : Nat) (S14 : St) =>
  ptrW s_0 fun (b47 b48 : Nat) =>
  ptrW (some ⟨b47, b48, none⟩) fun (b49 b50 : Nat) =>
  evS (storeV E0 S14 36 (.pointer (some ⟨b49, b50 + 0, none⟩)) (.map (some b46))) fun (S15 : St) => k2 PUnit.unit S15)
  (k2 PUnit.unit S4)))))
theorem w10 (s_0 : Option Addr) (r_1 : Int × Int × Sl) {S : St} {k : Value → St → Prop} (h : c10 s_0 r_1 S k) : WC E0 10 [.pointer s_0, sv G41 r_1] S k :=
  WC_den h10 rfl (by kernel_rfl) (by kernel_rfl : Try.f10.body = some (bodyOf Try.f10)) (by rw [show (denF E0 h10 Try.f10 (bodyOf Try.f10) [.pointer s_0, sv G41 r_1] S k) = c10 s_0 r_1 S k by kernel_rfl]; exact h)

/-! 11 wagonway/wake.epoch -/
noncomputable def h11 : Hn := .no
def c11 (n_0 : Int) (S : St) (k : Value → St → Prop) : Prop :=
  newW S (.cells [.int .i64 0, .int .i64 0, .slice none 0 0] none false none) fun (b1 : Nat) (S1 : St) =>
  needW true
  (needW true
  (needW true
  (newW S1
  (.cells
  [.int .u8 (wrapI .u8 (Int.fdiv n_0 (↑(2 ^ min (Int.toNat 24) 32) : Int))), .int .u8 (wrapI .u8 (Int.fdiv n_0 (↑(2 ^ min (Int.toNat 16) 32) : Int))),
  .int .u8 (wrapI .u8 (Int.fdiv n_0 (↑(2 ^ min (Int.toNat 8) 32) : Int))), .int .u8 (wrapI .u8 n_0)]
  none false none)
  fun (b2 : Nat) (S2 : St) =>
  evS (storeV E0 S2 42 (.pointer (some ⟨b1, 0, none⟩)) (.agg #[.int .i64 1, .int .i64 0, .slice (some ⟨b2, 0, none⟩) 4 4])) fun (S3 : St) =>
  evV (TT.one (Ty.agg G41)) (loadV E0 S3 42 (.pointer (some ⟨b1, 0, none⟩))) fun (x1 : Int × Int × Sl) => k (sv G41 x1) S3)))
theorem w11 (n_0 : Int) {S : St} {k : Value → St → Prop} (h : c11 n_0 S k) : WC E0 11 [.int .u32 n_0] S k :=
  WC_den h11 rfl (by kernel_rfl) (by kernel_rfl : Try.f11.body = some (bodyOf Try.f11)) (by rw [show (denF E0 h11 Try.f11 (bodyOf Try.f11) [.int .u32 n_0] S k) = c11 n_0 S k by kernel_rfl]; exact h)

/-! 12 (*wagonway/claim.Claims).Take -/
noncomputable def h12 : Hn := .no
def c12 (c_0 : Option Addr) (cell_1 : Int) (gen_2 : Int) (S : St) (k : Value → St → Prop) : Prop :=
  eqW E0 S 76 (.pointer c_0) (.pointer none) fun (t1 : Bool) =>
  ifW t1 (k (.int .i64 1) S)
  (evC E0 (TT.tup [Ty.sc (Sc.int .i64), Ty.sc Sc.bool]) 29 [.pointer c_0, .int .i64 cell_1] S fun (x1 : Int × Bool) (S1 : St) =>
  evC E0 tB 30 [.int .i64 cell_1] S1 fun (t2 : Bool) (S2 : St) =>
  ifW (!t2) (k (.int .i64 2) S2)
  (ifW x1.2 (k (.int .i64 150) S2)
  (ptrW c_0 fun (b1 b2 : Nat) =>
  ptrW (some ⟨b1, b2, none⟩) fun (b3 b4 : Nat) =>
  evV tS (loadV E0 S2 44 (.pointer (some ⟨b3, b4 + 0, none⟩))) fun (s1 : Sl) =>
  ifW (leI 16 (↑s1.len : Int)) (k (.int .i64 151) S2)
  (ptrW c_0 fun (b5 b6 : Nat) =>
  ptrW (some ⟨b5, b6, none⟩) fun (b7 b8 : Nat) =>
  evV tS (loadV E0 S2 44 (.pointer (some ⟨b7, b8 + 0, none⟩))) fun (s2 : Sl) =>
  newW S2 (.cells [.int .i64 cell_1, .int .u32 gen_2] none false none) fun (b9 : Nat) (S3 : St) =>
  evC E0 tS 31 [.slice s2.a s2.len s2.cap, .int .i64 x1.1, .slice (some ⟨b9, 0, none⟩) 1 1] S3 fun (s3 : Sl) (S4 : St) =>
  ptrW c_0 fun (b10 b11 : Nat) =>
  ptrW (some ⟨b10, b11, none⟩) fun (b12 b13 : Nat) =>
  evS (storeV E0 S4 44 (.pointer (some ⟨b12, b13 + 0, none⟩)) (.slice s3.a s3.len s3.cap)) fun (S5 : St) => k (.int .i64 0) S5))))
theorem w12 (c_0 : Option Addr) (cell_1 : Int) (gen_2 : Int) {S : St} {k : Value → St → Prop} (h : c12 c_0 cell_1 gen_2 S k) : WC E0 12 [.pointer c_0, .int .i64 cell_1, .int .u32 gen_2] S k :=
  WC_den h12 rfl (by kernel_rfl) (by kernel_rfl : Try.f12.body = some (bodyOf Try.f12)) (by rw [show (denF E0 h12 Try.f12 (bodyOf Try.f12) [.pointer c_0, .int .i64 cell_1, .int .u32 gen_2] S k) = c12 c_0 cell_1 gen_2 S k by kernel_rfl]; exact h)

/-! 13 (*wagonway/claim.Claims).Record -/
noncomputable def h13 : Hn := (.n .no (.n .no (.n (.n .no (.n .no (.n (.n .no (.n (.n .no .no (some ⟨[4, 5, 6], [(18, .sc (.int .i64))], false⟩)) .no none) none) .no none) none) none) .no none) none) none)
def c13 (c_0 : Option Addr) (cell_1 : Int) (S : St) (k : Value → St → Prop) : Prop :=
  newW S (.cells [.int .i64 0, .int .i64 0, .slice none 0 0] none false none) fun (b1 : Nat) (S1 : St) =>
  newW S1 (.cells [.int .i64 0, .int .i64 0, .slice none 0 0] none false none) fun (b2 : Nat) (S2 : St) =>
  evS (storeV E0 S2 42 (.pointer (some ⟨b2, 0, none⟩)) (.agg #[.int .i64 2, .int .i64 cell_1, .slice none 0 0])) fun (S3 : St) =>
  evC E0 (TT.tup [Ty.sc (Sc.int .u32), Ty.sc Sc.bool]) 32 [.pointer c_0, .int .i64 cell_1] S3 fun (x1 : Int × Bool) (S4 : St) =>
  ifW x1.2
  (loopW
  (fun (k1 : Int → St → Prop) (n1 : Int) (S5 : St) =>
  ifW (ltI n1 4)
  (ptrW (some ⟨b2, 0, none⟩) fun (b3 b4 : Nat) =>
  evV tS (loadV E0 S5 40 (.pointer (some ⟨b3, b4 + 2, none⟩))) fun (s1 : Sl) =>
  needW (!decide (wrapI .i64 (8 * wrapI .i64 (3 - n1)) < 0))
  (newW S5 (.cells [.int .u8 (wrapI .u8 (Int.fdiv x1.1 (↑(2 ^ min (Int.toNat (wrapI .i64 (8 * wrapI .i64 (3 - n1)))) 32) : Int)))] none false none)
  fun (b5 : Nat) (S6 : St) =>
  evV tS (loadV E0 S6 40 (.pointer (some ⟨b3, b4 + 2, none⟩))) fun (s2 : Sl) =>
  sameV (.slice s2.a s2.len s2.cap) (.slice s1.a s1.len s1.cap)
  (evP tS (appendD E0 S6 40 40 (.slice s1.a s1.len s1.cap) (.slice (some ⟨b5, 0, none⟩) 1 1)) fun (s3 : Sl) (S7 : St) =>
  ptrW (some ⟨b2, 0, none⟩) fun (b6 b7 : Nat) =>
  evS (storeV E0 S7 40 (.pointer (some ⟨b6, b7 + 2, none⟩)) (.slice s3.a s3.len s3.cap)) fun (S8 : St) => k1 (wrapI .i64 (n1 + 1)) S8)))
  (evV (TT.one (Ty.agg G41)) (loadV E0 S5 42 (.pointer (some ⟨b2, 0, none⟩))) fun (x2 : Int × Int × Sl) =>
  evS (storeV E0 S5 42 (.pointer (some ⟨b1, 0, none⟩)) (sv G41 x2)) fun (S9 : St) =>
  evV (TT.one (Ty.agg G41)) (loadV E0 S9 42 (.pointer (some ⟨b1, 0, none⟩))) fun (x3 : Int × Int × Sl) => k (sv G41 x3) S9))
  0 S4)
  (evV (TT.one (Ty.agg G41)) (loadV E0 S4 42 (.pointer (some ⟨b2, 0, none⟩))) fun (x4 : Int × Int × Sl) =>
  evS (storeV E0 S4 42 (.pointer (some ⟨b1, 0, none⟩)) (sv G41 x4)) fun (S10 : St) =>
  evV (TT.one (Ty.agg G41)) (loadV E0 S10 42 (.pointer (some ⟨b1, 0, none⟩))) fun (x5 : Int × Int × Sl) => k (sv G41 x5) S10)
theorem w13 (c_0 : Option Addr) (cell_1 : Int) {S : St} {k : Value → St → Prop} (h : c13 c_0 cell_1 S k) : WC E0 13 [.pointer c_0, .int .i64 cell_1] S k :=
  WC_den h13 rfl (by kernel_rfl) (by kernel_rfl : Try.f13.body = some (bodyOf Try.f13)) (by rw [show (denF E0 h13 Try.f13 (bodyOf Try.f13) [.pointer c_0, .int .i64 cell_1] S k) = c13 c_0 cell_1 S k by kernel_rfl]; exact h)

/-! 14 wagonway/ledger.New -/
noncomputable def h14 : Hn := .no
def c14 (home_0 : Int) (robots_1 : Int) (cells_2 : Int) (S : St) (k : Value → St → Prop) : Prop :=
  ifW (ltI robots_1 1) (k (.tuple #[.pointer none, .int .i64 2]) S)
  (ifW (ltI 64 robots_1) (k (.tuple #[.pointer none, .int .i64 2]) S)
  (ifW (ltI home_0 0) (k (.tuple #[.pointer none, .int .i64 2]) S)
  (ifW (leI robots_1 home_0) (k (.tuple #[.pointer none, .int .i64 2]) S)
  (ifW (ltI cells_2 1) (k (.tuple #[.pointer none, .int .i64 2]) S)
  (ifW (ltI 1024 cells_2) (k (.tuple #[.pointer none, .int .i64 2]) S)
  (newW S (DObj.map [] 0) fun (b1 : Nat) (S1 : St) =>
  newW S1 (DObj.map [] 0) fun (b2 : Nat) (S2 : St) =>
  newW S2 (DObj.map [] 0) fun (b3 : Nat) (S3 : St) =>
  evS (mapUpdateD E0 S3 85 (.map (some b3)) (.int .i64 home_0) (.int .i64 1)) fun (S4 : St) =>
  newW S4 (.cells [.int .i64 home_0, .int .i64 robots_1, .int .i64 cells_2, .map (some b1), .map (some b2), .map (some b3)] none false none)
  fun (b4 : Nat) (S5 : St) => k (.tuple #[.pointer (some ⟨b4, 0, none⟩), .int .i64 0]) S5))))))
theorem w14 (home_0 : Int) (robots_1 : Int) (cells_2 : Int) {S : St} {k : Value → St → Prop} (h : c14 home_0 robots_1 cells_2 S k) : WC E0 14 [.int .i64 home_0, .int .i64 robots_1, .int .i64 cells_2] S k :=
  WC_den h14 rfl (by kernel_rfl) (by kernel_rfl : Try.f14.body = some (bodyOf Try.f14)) (by rw [show (denF E0 h14 Try.f14 (bodyOf Try.f14) [.int .i64 home_0, .int .i64 robots_1, .int .i64 cells_2] S k) = c14 home_0 robots_1 cells_2 S k by kernel_rfl]; exact h)

/-! 15 (*wagonway/ledger.Ledger).Is -/
noncomputable def h15 : Hn := .no
def c15 (l_0 : Option Addr) (cell_1 : Int) (S : St) (k : Value → St → Prop) : Prop :=
  evC E0 tB 33 [.pointer l_0] S fun (t1 : Bool) (S1 : St) =>
  ifW (!t1)
  (ifW (leI 0 cell_1)
  (ptrW l_0 fun (b1 b2 : Nat) =>
  ptrW (some ⟨b1, b2, none⟩) fun (b3 b4 : Nat) =>
  evV tI (loadV E0 S1 3 (.pointer (some ⟨b3, b4 + 2, none⟩))) fun (n1 : Int) =>
  ifW (ltI cell_1 n1)
  (ptrW l_0 fun (b5 b6 : Nat) =>
  ptrW (some ⟨b5, b6, none⟩) fun (b7 b8 : Nat) =>
  evV tI (loadV E0 S1 3 (.pointer (some ⟨b7, b8 + 1, none⟩))) fun (n2 : Int) =>
  needW (!decide (n2 = 0))
  (ptrW l_0 fun (b9 b10 : Nat) =>
  ptrW (some ⟨b9, b10, none⟩) fun (b11 b12 : Nat) =>
  evV tI (loadV E0 S1 3 (.pointer (some ⟨b11, b12 + 0, none⟩))) fun (n3 : Int) => k (.bool (eqI (Int.tmod cell_1 n2) n3)) S1))
  (k (.bool false) S1))
  (k (.bool false) S1))
  (k (.bool false) S1)
theorem w15 (l_0 : Option Addr) (cell_1 : Int) {S : St} {k : Value → St → Prop} (h : c15 l_0 cell_1 S k) : WC E0 15 [.pointer l_0, .int .i64 cell_1] S k :=
  WC_den h15 rfl (by kernel_rfl) (by kernel_rfl : Try.f15.body = some (bodyOf Try.f15)) (by rw [show (denF E0 h15 Try.f15 (bodyOf Try.f15) [.pointer l_0, .int .i64 cell_1] S k) = c15 l_0 cell_1 S k by kernel_rfl]; exact h)

/-! 16 (*wagonway/ledger.Ledger).Place -/
noncomputable def h16 : Hn := (.n .no (.n (.n (.n .no (.n .no (.n .no .no (some ⟨[0, 1, 2, 6], [(13, .sc .bool)], false⟩)) none) none) .no none) .no none) none)
def c16 (l_0 : Option Addr) (cell_1 : Int) (robot_2 : Int) (S : St) (k : Value → St → Prop) : Prop :=
  newW S (.cells [.int .i64 0, .int .i64 0, .slice none 0 0] none false none) fun (b1 : Nat) (S1 : St) =>
  evC E0 tB 33 [.pointer l_0] S1 fun (t1 : Bool) (S2 : St) =>
  ifW t1
  (evS (storeV E0 S2 42 (.pointer (some ⟨b1, 0, none⟩)) (.agg #[.int .i64 0, .int .i64 0, .slice none 0 0])) fun (S3 : St) =>
  evV (TT.one (Ty.agg G41)) (loadV E0 S3 42 (.pointer (some ⟨b1, 0, none⟩))) fun (x1 : Int × Int × Sl) => k (.tuple #[sv G41 x1, .int .i64 1]) S3)
  (joinW
  (fun (t2 : Bool) (S4 : St) =>
  ifW t2
  (evS (storeV E0 S4 42 (.pointer (some ⟨b1, 0, none⟩)) (.agg #[.int .i64 0, .int .i64 0, .slice none 0 0])) fun (S5 : St) =>
  evV (TT.one (Ty.agg G41)) (loadV E0 S5 42 (.pointer (some ⟨b1, 0, none⟩))) fun (x2 : Int × Int × Sl) => k (.tuple #[sv G41 x2, .int .i64 2]) S5)
  (evC E0 (TT.one (Ty.agg G80)) 35 [.pointer l_0, .int .i64 cell_1] S4 fun (x3 : Int × Int) (S6 : St) =>
  evC E0 (TT.one (Ty.agg G80)) 36 [] S6 fun (x4 : Int × Int) (S7 : St) =>
  eqW E0 S7 90 (sv G80 x3) (sv G80 x4) fun (t3 : Bool) =>
  ifW (!t3)
  (evS (storeV E0 S7 42 (.pointer (some ⟨b1, 0, none⟩)) (.agg #[.int .i64 0, .int .i64 0, .slice none 0 0])) fun (S8 : St) =>
  evV (TT.one (Ty.agg G41)) (loadV E0 S8 42 (.pointer (some ⟨b1, 0, none⟩))) fun (x5 : Int × Int × Sl) => k (.tuple #[sv G41 x5, .int .i64 140]) S8)
  (newW S7 (.cells [.slice none 0 0, .slice none 0 0, .slice none 0 0] none false none) fun (b2 : Nat) (S9 : St) =>
  evC E0 (TT.tup []) 37 [.pointer l_0, .int .i64 cell_1, .agg #[.int .i64 robot_2, .int .u32 1], .pointer (some ⟨b2, 0, none⟩)] S9
  fun (x6 : PUnit) (S10 : St) =>
  ptrW (some ⟨b2, 0, none⟩) fun (b3 b4 : Nat) =>
  evV tS (loadV E0 S10 27 (.pointer (some ⟨b3, b4 + 0, none⟩))) fun (s1 : Sl) =>
  idxW s1.a s1.len 0 fun (b5 b6 : Nat) =>
  evV (TT.one (Ty.agg G41)) (loadV E0 S10 42 (.pointer (some ⟨b5, b6 + Int.toNat 0 * 3, none⟩))) fun (x7 : Int × Int × Sl) =>
  evS (storeV E0 S10 42 (.pointer (some ⟨b1, 0, none⟩)) (sv G41 x7)) fun (S11 : St) =>
  evV (TT.one (Ty.agg G41)) (loadV E0 S11 42 (.pointer (some ⟨b1, 0, none⟩))) fun (x8 : Int × Int × Sl) => k (.tuple #[sv G41 x8, .int .i64 0]) S11)))
  fun (k1 : Bool → St → Prop) =>
  evC E0 tB 15 [.pointer l_0, .int .i64 cell_1] S2 fun (t4 : Bool) (S12 : St) =>
  ifW (!t4) (k1 true S12) (evC E0 tB 34 [.pointer l_0, .int .i64 robot_2] S12 fun (t5 : Bool) (S13 : St) => k1 (!t5) S13))
theorem w16 (l_0 : Option Addr) (cell_1 : Int) (robot_2 : Int) {S : St} {k : Value → St → Prop} (h : c16 l_0 cell_1 robot_2 S k) : WC E0 16 [.pointer l_0, .int .i64 cell_1, .int .i64 robot_2] S k :=
  WC_den h16 rfl (by kernel_rfl) (by kernel_rfl : Try.f16.body = some (bodyOf Try.f16)) (by rw [show (denF E0 h16 Try.f16 (bodyOf Try.f16) [.pointer l_0, .int .i64 cell_1, .int .i64 robot_2] S k) = c16 l_0 cell_1 robot_2 S k by kernel_rfl]; exact h)

/-! 17 wagonway/wagonwayref13.Write -/
noncomputable def h17 : Hn := (.n .no (.n .no (.n .no (.n .no (.n .no (.n (.n .no (.n (.n (.n .no (.n (.n (.n (.n .no .no (some ⟨[0, 3, 7, 8, 9], [(35, .sc .bool)], false⟩)) (.n (.n .no .no (some ⟨[0, 3, 7, 8, 9], [(57, .sc .bool)], false⟩)) .no none) (some ⟨[0, 3, 9], [(7, .sc .sl), (8, .sc .bool)], false⟩)) .no none) .no none) none) .no (some ⟨[0, 3], [(7, .sc .sl), (8, .sc .bool), (9, .sc (.int .i64))], false⟩)) .no none) none) (.n .no .no (some ⟨[0], [(7, .sc .sl)], false⟩)) none) none) none) none) none) none)
def c17 (l_0 : Sl) (r_1 : Int × Int × Sl) (S : St) (k : Value → St → Prop) : Prop :=
  newW S (.cells [.int .i64 r_1.1, .int .i64 r_1.2.1, .slice r_1.2.2.a r_1.2.2.len r_1.2.2.cap] none false none) fun (b1 : Nat) (S1 : St) =>
  evV (TT.one (Ty.agg G41)) (loadV E0 S1 42 (.pointer (some ⟨b1, 0, none⟩))) fun (x1 : Int × Int × Sl) =>
  evC E0 tI 38 [sv G41 x1] S1 fun (n1 : Int) (S2 : St) =>
  ifW (!eqI n1 0) (k (.tuple #[.slice l_0.a l_0.len l_0.cap, .int .i64 n1]) S2)
  (ptrW (some ⟨b1, 0, none⟩) fun (b2 b3 : Nat) =>
  evV tS (loadV E0 S2 40 (.pointer (some ⟨b2, b3 + 2, none⟩))) fun (s1 : Sl) =>
  loopW
  (fun (k1 : Sl × Bool × Int → St → Prop) (x2 : Sl × Bool × Int) (S3 : St) =>
  ifW (ltI x2.2.2 (↑l_0.len : Int))
  (joinW
  (fun (x3 : Sl × Bool) (S4 : St) =>
  joinW
  (fun (t1 : Bool) (S5 : St) =>
  ifW t1
  (ifW (!x3.2)
  (evV (TT.one (Ty.agg G41)) (loadV E0 S5 42 (.pointer (some ⟨b1, 0, none⟩))) fun (x4 : Int × Int × Sl) =>
  newW S5 (.cells [.int .i64 x4.1, .int .i64 x4.2.1, .slice x4.2.2.a x4.2.2.len x4.2.2.cap] none false none) fun (b4 : Nat) (S6 : St) =>
  evP tS (appendD E0 S6 27 27 (.slice x3.1.a x3.1.len x3.1.cap) (.slice (some ⟨b4, 0, none⟩) 1 1)) fun (s2 : Sl) (S7 : St) =>
  k1 ({ a := s2.a, len := s2.len, cap := s2.cap }, true, wrapI .i64 (x2.2.2 + 1)) S7)
  (k1 ({ a := x3.1.a, len := x3.1.len, cap := x3.1.cap }, x3.2, wrapI .i64 (x2.2.2 + 1)) S5))
  (idxW l_0.a l_0.len x2.2.2 fun (b5 b6 : Nat) =>
  evV (TT.one (Ty.agg G41)) (loadV E0 S5 42 (.pointer (some ⟨b5, b6 + Int.toNat x2.2.2 * 3, none⟩))) fun (x5 : Int × Int × Sl) =>
  newW S5 (.cells [.int .i64 x5.1, .int .i64 x5.2.1, .slice x5.2.2.a x5.2.2.len x5.2.2.cap] none false none) fun (b7 : Nat) (S8 : St) =>
  evP tS (appendD E0 S8 27 27 (.slice x3.1.a x3.1.len x3.1.cap) (.slice (some ⟨b7, 0, none⟩) 1 1)) fun (s3 : Sl) (S9 : St) =>
  k1 ({ a := s3.a, len := s3.len, cap := s3.cap }, x3.2, wrapI .i64 (x2.2.2 + 1)) S9))
  fun (k2 : Bool → St → Prop) =>
  idxW l_0.a l_0.len x2.2.2 fun (b8 b9 : Nat) =>
  ptrW (some ⟨b8, b9 + Int.toNat x2.2.2 * 3, none⟩) fun (b10 b11 : Nat) =>
  evV tI (loadV E0 S4 3 (.pointer (some ⟨b10, b11 + 0, none⟩))) fun (n2 : Int) =>
  ptrW (some ⟨b1, 0, none⟩) fun (b12 b13 : Nat) =>
  evV tI (loadV E0 S4 3 (.pointer (some ⟨b12, b13 + 0, none⟩))) fun (n3 : Int) =>
  ifW (eqI n2 n3)
  (idxW l_0.a l_0.len x2.2.2 fun (b14 b15 : Nat) =>
  ptrW (some ⟨b14, b15 + Int.toNat x2.2.2 * 3, none⟩) fun (b16 b17 : Nat) =>
  evV tI (loadV E0 S4 3 (.pointer (some ⟨b16, b17 + 1, none⟩))) fun (n4 : Int) =>
  ptrW (some ⟨b1, 0, none⟩) fun (b18 b19 : Nat) => evV tI (loadV E0 S4 3 (.pointer (some ⟨b18, b19 + 1, none⟩))) fun (n5 : Int) => k2 (eqI n4 n5) S4)
  (k2 false S4))
  fun (k3 : Sl × Bool → St → Prop) =>
  joinW
  (fun (t2 : Bool) (S10 : St) =>
  ifW t2
  (evV (TT.one (Ty.agg G41)) (loadV E0 S10 42 (.pointer (some ⟨b1, 0, none⟩))) fun (x6 : Int × Int × Sl) =>
  newW S10 (.cells [.int .i64 x6.1, .int .i64 x6.2.1, .slice x6.2.2.a x6.2.2.len x6.2.2.cap] none false none) fun (b20 : Nat) (S11 : St) =>
  evP tS (appendD E0 S11 27 27 (.slice x2.1.a x2.1.len x2.1.cap) (.slice (some ⟨b20, 0, none⟩) 1 1)) fun (s4 : Sl) (S12 : St) =>
  k3 ({ a := s4.a, len := s4.len, cap := s4.cap }, true) S12)
  (k3 ({ a := x2.1.a, len := x2.1.len, cap := x2.1.cap }, x2.2.1) S10))
  fun (k4 : Bool → St → Prop) =>
  ifW (!x2.2.1)
  (evV (TT.one (Ty.agg G41)) (loadV E0 S3 42 (.pointer (some ⟨b1, 0, none⟩))) fun (x7 : Int × Int × Sl) =>
  idxW l_0.a l_0.len x2.2.2 fun (b21 b22 : Nat) =>
  evV (TT.one (Ty.agg G41)) (loadV E0 S3 42 (.pointer (some ⟨b21, b22 + Int.toNat x2.2.2 * 3, none⟩))) fun (x8 : Int × Int × Sl) =>
  evC E0 tB 39 [sv G41 x7, sv G41 x8] S3 fun (t3 : Bool) (S13 : St) => k4 t3 S13)
  (k4 false S3))
  (joinW
  (fun (s5 : Sl) (S14 : St) =>
  ifW (ltI 4096 (↑s5.len : Int)) (k (.tuple #[.slice l_0.a l_0.len l_0.cap, .int .i64 131]) S14) (k (.tuple #[.slice s5.a s5.len s5.cap, .int .i64 0]) S14))
  fun (k5 : Sl → St → Prop) =>
  ifW (!x2.2.1)
  (evV (TT.one (Ty.agg G41)) (loadV E0 S3 42 (.pointer (some ⟨b1, 0, none⟩))) fun (x9 : Int × Int × Sl) =>
  newW S3 (.cells [.int .i64 x9.1, .int .i64 x9.2.1, .slice x9.2.2.a x9.2.2.len x9.2.2.cap] none false none) fun (b23 : Nat) (S15 : St) =>
  evP tS (appendD E0 S15 27 27 (.slice x2.1.a x2.1.len x2.1.cap) (.slice (some ⟨b23, 0, none⟩) 1 1)) fun (s6 : Sl) (S16 : St) =>
  k5 { a := s6.a, len := s6.len, cap := s6.cap } S16)
  (k5 { a := x2.1.a, len := x2.1.len, cap := x2.1.cap } S3)))
  ({ a := none, len := 0, cap := 0 }, eqI (↑s1.len : Int) 0, 0) S2)
theorem w17 (l_0 : Sl) (r_1 : Int × Int × Sl) {S : St} {k : Value → St → Prop} (h : c17 l_0 r_1 S k) : WC E0 17 [.slice l_0.a l_0.len l_0.cap, sv G41 r_1] S k :=
  WC_den h17 rfl (by kernel_rfl) (by kernel_rfl : Try.f17.body = some (bodyOf Try.f17)) (by rw [show (denF E0 h17 Try.f17 (bodyOf Try.f17) [.slice l_0.a l_0.len l_0.cap, sv G41 r_1] S k) = c17 l_0 r_1 S k by kernel_rfl]; exact h)

/-! 18 wagonway/wagonwayref21.Number -/
noncomputable def h18 : Hn := .no
def c18 (n_0 : Int) (S : St) (k : Value → St → Prop) : Prop :=
  newW S (.cells [.int .i64 0, .int .i64 0, .slice none 0 0] none false none) fun (b1 : Nat) (S1 : St) =>
  needW true
  (needW true
  (needW true
  (needW true
  (needW true
  (needW true
  (newW S1
  (.cells
  [.int .u8 (wrapI .u8 (wrapI .u32 (Int.tdiv n_0 16777216))), .int .u8 (wrapI .u8 (Int.tmod (wrapI .u32 (Int.tdiv n_0 65536)) 256)),
  .int .u8 (wrapI .u8 (Int.tmod (wrapI .u32 (Int.tdiv n_0 256)) 256)), .int .u8 (wrapI .u8 (Int.tmod n_0 256))]
  none false none)
  fun (b2 : Nat) (S2 : St) =>
  evS (storeV E0 S2 42 (.pointer (some ⟨b1, 0, none⟩)) (.agg #[.int .i64 1, .int .i64 0, .slice (some ⟨b2, 0, none⟩) 4 4])) fun (S3 : St) =>
  evV (TT.one (Ty.agg G41)) (loadV E0 S3 42 (.pointer (some ⟨b1, 0, none⟩))) fun (x1 : Int × Int × Sl) => k (sv G41 x1) S3))))))
theorem w18 (n_0 : Int) {S : St} {k : Value → St → Prop} (h : c18 n_0 S k) : WC E0 18 [.int .u32 n_0] S k :=
  WC_den h18 rfl (by kernel_rfl) (by kernel_rfl : Try.f18.body = some (bodyOf Try.f18)) (by rw [show (denF E0 h18 Try.f18 (bodyOf Try.f18) [.int .u32 n_0] S k) = c18 n_0 S k by kernel_rfl]; exact h)

/-! 19 wagonway/wagonwayref14.Record -/
noncomputable def h19 : Hn := (.n .no (.n .no (.n .no (.n .no .no (some ⟨[0, 3, 4], [(5, .sc (.int .i64))], false⟩)) none) none) none)
def c19 (cell_0 : Int) (e_1 : Int × Int × Sl) (S : St) (k : Value → St → Prop) : Prop :=
  newW S (.cells [.int .i64 e_1.1, .int .u32 e_1.2.1, .slice e_1.2.2.a e_1.2.2.len e_1.2.2.cap] none false none) fun (b1 : Nat) (S1 : St) =>
  newW S1 (.cells [.int .i64 0, .int .i64 0, .slice none 0 0] none false none) fun (b2 : Nat) (S2 : St) =>
  ptrW (some ⟨b1, 0, none⟩) fun (b3 b4 : Nat) =>
  evV tI (loadV E0 S2 3 (.pointer (some ⟨b3, b4 + 0, none⟩))) fun (n1 : Int) =>
  ifW (eqI n1 (-1))
  (ptrW (some ⟨b1, 0, none⟩) fun (b5 b6 : Nat) =>
  evV tU32 (loadV E0 S2 30 (.pointer (some ⟨b5, b6 + 1, none⟩))) fun (n2 : Int) =>
  ifW (eqI n2 0)
  (evS (storeV E0 S2 42 (.pointer (some ⟨b2, 0, none⟩)) (.agg #[.int .i64 3, .int .i64 cell_0, .slice none 0 0])) fun (S3 : St) =>
  evV (TT.one (Ty.agg G41)) (loadV E0 S3 42 (.pointer (some ⟨b2, 0, none⟩))) fun (x1 : Int × Int × Sl) => k (sv G41 x1) S3)
  (joinW
  (fun (n3 : Int) (S4 : St) =>
  ptrW (some ⟨b1, 0, none⟩) fun (b7 b8 : Nat) =>
  evV tU32 (loadV E0 S4 30 (.pointer (some ⟨b7, b8 + 1, none⟩))) fun (n4 : Int) =>
  needW true
  (needW true
  (needW true
  (needW true
  (needW true
  (needW true
  (newW S4
  (.cells
  [.int .u8 (wrapI .u8 n3), .int .u8 (wrapI .u8 (wrapI .i64 (Int.tdiv (wrapI .i64 n4) 16777216))),
  .int .u8 (wrapI .u8 (Int.tmod (wrapI .i64 (Int.tdiv (wrapI .i64 n4) 65536)) 256)),
  .int .u8 (wrapI .u8 (Int.tmod (wrapI .i64 (Int.tdiv (wrapI .i64 n4) 256)) 256)),
  .int .u8 (wrapI .u8 (Int.tmod (wrapI .i64 n4) 256))]
  none false none)
  fun (b9 : Nat) (S5 : St) =>
  evS
  (storeV E0 S5 42 (.pointer (some ⟨b2, 0, none⟩))
  (.agg #[.int .i64 3, .int .i64 cell_0, .slice (some ⟨b9, 0, none⟩) 5 5]))
  fun (S6 : St) => evV (TT.one (Ty.agg G41)) (loadV E0 S6 42 (.pointer (some ⟨b2, 0, none⟩))) fun (x2 : Int × Int × Sl) => k (sv G41 x2) S6)))))))
  fun (k1 : Int → St → Prop) =>
  ptrW (some ⟨b1, 0, none⟩) fun (b10 b11 : Nat) =>
  evV tI (loadV E0 S2 3 (.pointer (some ⟨b10, b11 + 0, none⟩))) fun (n5 : Int) =>
  ifW (leI 0 n5) (ptrW (some ⟨b1, 0, none⟩) fun (b12 b13 : Nat) => evV tI (loadV E0 S2 3 (.pointer (some ⟨b12, b13 + 0, none⟩))) fun (n6 : Int) => k1 n6 S2) (k1 255 S2)))
  (joinW
  (fun (n7 : Int) (S7 : St) =>
  ptrW (some ⟨b1, 0, none⟩) fun (b14 b15 : Nat) =>
  evV tU32 (loadV E0 S7 30 (.pointer (some ⟨b14, b15 + 1, none⟩))) fun (n8 : Int) =>
  needW true
  (needW true
  (needW true
  (needW true
  (needW true
  (needW true
  (newW S7
  (.cells
  [.int .u8 (wrapI .u8 n7), .int .u8 (wrapI .u8 (wrapI .i64 (Int.tdiv (wrapI .i64 n8) 16777216))),
  .int .u8 (wrapI .u8 (Int.tmod (wrapI .i64 (Int.tdiv (wrapI .i64 n8) 65536)) 256)),
  .int .u8 (wrapI .u8 (Int.tmod (wrapI .i64 (Int.tdiv (wrapI .i64 n8) 256)) 256)),
  .int .u8 (wrapI .u8 (Int.tmod (wrapI .i64 n8) 256))]
  none false none)
  fun (b16 : Nat) (S8 : St) =>
  evS
  (storeV E0 S8 42 (.pointer (some ⟨b2, 0, none⟩)) (.agg #[.int .i64 3, .int .i64 cell_0, .slice (some ⟨b16, 0, none⟩) 5 5]))
  fun (S9 : St) => evV (TT.one (Ty.agg G41)) (loadV E0 S9 42 (.pointer (some ⟨b2, 0, none⟩))) fun (x3 : Int × Int × Sl) => k (sv G41 x3) S9)))))))
  fun (k2 : Int → St → Prop) =>
  ptrW (some ⟨b1, 0, none⟩) fun (b17 b18 : Nat) =>
  evV tI (loadV E0 S2 3 (.pointer (some ⟨b17, b18 + 0, none⟩))) fun (n9 : Int) =>
  ifW (leI 0 n9) (ptrW (some ⟨b1, 0, none⟩) fun (b19 b20 : Nat) => evV tI (loadV E0 S2 3 (.pointer (some ⟨b19, b20 + 0, none⟩))) fun (n10 : Int) => k2 n10 S2) (k2 255 S2))
theorem w19 (cell_0 : Int) (e_1 : Int × Int × Sl) {S : St} {k : Value → St → Prop} (h : c19 cell_0 e_1 S k) : WC E0 19 [.int .i64 cell_0, sv G58 e_1] S k :=
  WC_den h19 rfl (by kernel_rfl) (by kernel_rfl : Try.f19.body = some (bodyOf Try.f19)) (by rw [show (denF E0 h19 Try.f19 (bodyOf Try.f19) [.int .i64 cell_0, sv G58 e_1] S k) = c19 cell_0 e_1 S k by kernel_rfl]; exact h)

/-! 20 (*wagonway/shelf.Shelf).Get -/
noncomputable def h20 : Hn := .no
def c20 (s_0 : Option Addr) (kind_1 : Int) (n_2 : Int) (S : St) (k : Value → St → Prop) : Prop :=
  eqW E0 S 23 (.pointer s_0) (.pointer none) fun (t1 : Bool) =>
  ifW t1 (k (.tuple #[.slice none 0 0, .bool false]) S)
  (ptrW s_0 fun (b1 b2 : Nat) =>
  ptrW (some ⟨b1, b2, none⟩) fun (b3 b4 : Nat) =>
  evV tM (loadV E0 S 36 (.pointer (some ⟨b3, b4 + 0, none⟩))) fun (p1 : Option Nat) =>
  evV (TT.tup [Ty.sc Sc.sl, Ty.sc Sc.bool]) (lookupD E0 S 36 (.map p1) (.agg #[.int .i64 kind_1, .int .i64 n_2]) true) fun (x1 : Sl × Bool) =>
  evC E0 tS 28 [.slice x1.1.a x1.1.len x1.1.cap] S fun (s1 : Sl) (S1 : St) => k (.tuple #[.slice s1.a s1.len s1.cap, .bool x1.2]) S1)
theorem w20 (s_0 : Option Addr) (kind_1 : Int) (n_2 : Int) {S : St} {k : Value → St → Prop} (h : c20 s_0 kind_1 n_2 S k) : WC E0 20 [.pointer s_0, .int .i64 kind_1, .int .i64 n_2] S k :=
  WC_den h20 rfl (by kernel_rfl) (by kernel_rfl : Try.f20.body = some (bodyOf Try.f20)) (by rw [show (denF E0 h20 Try.f20 (bodyOf Try.f20) [.pointer s_0, .int .i64 kind_1, .int .i64 n_2] S k) = c20 s_0 kind_1 n_2 S k by kernel_rfl]; exact h)

/-! 21 wagonway/wagonwayref13.Bytes -/
noncomputable def h21 : Hn := (.n .no (.n .no (.n (.n .no (.n (.n .no .no (some ⟨[0], [(3, .sc .sl), (4, .sc (.int .i64))], false⟩)) .no none) none) .no none) none) none)
def c21 (l_0 : Sl) (S : St) (k : Value → St → Prop) : Prop :=
  loopW
  (fun (k1 : Sl × Int → St → Prop) (x1 : Sl × Int) (S1 : St) =>
  ifW (ltI x1.2 (↑l_0.len : Int))
  (idxW l_0.a l_0.len x1.2 fun (b1 b2 : Nat) =>
  ptrW (some ⟨b1, b2 + Int.toNat x1.2 * 3, none⟩) fun (b3 b4 : Nat) =>
  evV tS (loadV E0 S1 40 (.pointer (some ⟨b3, b4 + 2, none⟩))) fun (s1 : Sl) =>
  idxW l_0.a l_0.len x1.2 fun (b5 b6 : Nat) =>
  ptrW (some ⟨b5, b6 + Int.toNat x1.2 * 3, none⟩) fun (b7 b8 : Nat) =>
  evV tI (loadV E0 S1 3 (.pointer (some ⟨b7, b8 + 0, none⟩))) fun (n1 : Int) =>
  idxW l_0.a l_0.len x1.2 fun (b9 b10 : Nat) =>
  ptrW (some ⟨b9, b10 + Int.toNat x1.2 * 3, none⟩) fun (b11 b12 : Nat) =>
  evV tI (loadV E0 S1 3 (.pointer (some ⟨b11, b12 + 1, none⟩))) fun (n2 : Int) =>
  needW true
  (idxW l_0.a l_0.len x1.2 fun (b13 b14 : Nat) =>
  ptrW (some ⟨b13, b14 + Int.toNat x1.2 * 3, none⟩) fun (b15 b16 : Nat) =>
  evV tI (loadV E0 S1 3 (.pointer (some ⟨b15, b16 + 1, none⟩))) fun (n3 : Int) =>
  needW true
  (needW true
  (needW true
  (newW S1
  (.cells
  [.int .u8 (wrapI .u8 n1), .int .u8 (wrapI .u8 (wrapI .i64 (Int.tdiv n2 256))),
  .int .u8 (wrapI .u8 (Int.tmod n3 256)), .int .u8 (wrapI .u8 (wrapI .i64 (Int.tdiv (↑s1.len : Int) 256))),
  .int .u8 (wrapI .u8 (Int.tmod (↑s1.len : Int) 256))]
  none false none)
  fun (b17 : Nat) (S2 : St) =>
  evP tS (appendD E0 S2 40 40 (.slice x1.1.a x1.1.len x1.1.cap) (.slice (some ⟨b17, 0, none⟩) 5 5)) fun (s2 : Sl) (S3 : St) =>
  idxW l_0.a l_0.len x1.2 fun (b18 b19 : Nat) =>
  ptrW (some ⟨b18, b19 + Int.toNat x1.2 * 3, none⟩) fun (b20 b21 : Nat) =>
  evV tS (loadV E0 S3 40 (.pointer (some ⟨b20, b21 + 2, none⟩))) fun (s3 : Sl) =>
  evP tS (appendD E0 S3 40 40 (.slice s2.a s2.len s2.cap) (.slice s3.a s3.len s3.cap)) fun (s4 : Sl) (S4 : St) =>
  k1 ({ a := s4.a, len := s4.len, cap := s4.cap }, wrapI .i64 (x1.2 + 1)) S4)))))
  (k (.slice x1.1.a x1.1.len x1.1.cap) S1))
  ({ a := none, len := 0, cap := 0 }, 0) S
theorem w21 (l_0 : Sl) {S : St} {k : Value → St → Prop} (h : c21 l_0 S k) : WC E0 21 [.slice l_0.a l_0.len l_0.cap] S k :=
  WC_den h21 rfl (by kernel_rfl) (by kernel_rfl : Try.f21.body = some (bodyOf Try.f21)) (by rw [show (denF E0 h21 Try.f21 (bodyOf Try.f21) [.slice l_0.a l_0.len l_0.cap] S k) = c21 l_0 S k by kernel_rfl]; exact h)

/-! 22 (*wagonway/shelf.Shelf).keys -/
noncomputable def h22 : Hn := .no
def c22 (s_0 : Option Addr) (S : St) (k : Value → St → Prop) : Prop :=
  newW S (.cells [.pointer s_0] none false none) fun (b1 : Nat) (S1 : St) => k (.func (Fn.func 40) #[] #[.pointer (some ⟨b1, 0, none⟩)]) S1
theorem w22 (s_0 : Option Addr) {S : St} {k : Value → St → Prop} (h : c22 s_0 S k) : WC E0 22 [.pointer s_0] S k :=
  WC_den h22 rfl (by kernel_rfl) (by kernel_rfl : Try.f22.body = some (bodyOf Try.f22)) (by rw [show (denF E0 h22 Try.f22 (bodyOf Try.f22) [.pointer s_0] S k) = c22 s_0 S k by kernel_rfl]; exact h)

/-! 23 (*wagonway/shelf.Shelf).record -/
noncomputable def h23 : Hn := .no
def c23 (s_0 : Option Addr) (a1 : Int × Int) (S : St) (k : Value → St → Prop) : Prop :=
  newW S (.cells [.int .i64 a1.1, .int .i64 a1.2] none false none) fun (b1 : Nat) (S1 : St) =>
  newW S1 (.cells [.int .i64 0, .int .i64 0, .slice none 0 0] none false none) fun (b2 : Nat) (S2 : St) =>
  ptrW (some ⟨b1, 0, none⟩) fun (b3 b4 : Nat) =>
  evV tI (loadV E0 S2 3 (.pointer (some ⟨b3, b4 + 0, none⟩))) fun (n1 : Int) =>
  ptrW (some ⟨b1, 0, none⟩) fun (b5 b6 : Nat) =>
  evV tI (loadV E0 S2 3 (.pointer (some ⟨b5, b6 + 1, none⟩))) fun (n2 : Int) =>
  ptrW s_0 fun (b7 b8 : Nat) =>
  ptrW (some ⟨b7, b8, none⟩) fun (b9 b10 : Nat) =>
  evV tM (loadV E0 S2 36 (.pointer (some ⟨b9, b10 + 0, none⟩))) fun (p1 : Option Nat) =>
  evV (TT.one (Ty.agg G67)) (loadV E0 S2 68 (.pointer (some ⟨b1, 0, none⟩))) fun (x1 : Int × Int) =>
  evV tS (lookupD E0 S2 36 (.map p1) (sv G67 x1) false) fun (s1 : Sl) =>
  evC E0 tS 28 [.slice s1.a s1.len s1.cap] S2 fun (s2 : Sl) (S3 : St) =>
  evV tI (loadV E0 S3 3 (.pointer (some ⟨b5, b6 + 1, none⟩))) fun (n3 : Int) =>
  sameV (.int .i64 n3) (.int .i64 n2)
  (evV tI (loadV E0 S3 3 (.pointer (some ⟨b3, b4 + 0, none⟩))) fun (n4 : Int) =>
  sameV (.int .i64 n4) (.int .i64 n1)
  (evS (storeV E0 S3 42 (.pointer (some ⟨b2, 0, none⟩)) (.agg #[.int .i64 n1, .int .i64 n2, .slice s2.a s2.len s2.cap])) fun (S4 : St) =>
  evV (TT.one (Ty.agg G41)) (loadV E0 S4 42 (.pointer (some ⟨b2, 0, none⟩))) fun (x2 : Int × Int × Sl) => k (sv G41 x2) S4))
theorem w23 (s_0 : Option Addr) (a1 : Int × Int) {S : St} {k : Value → St → Prop} (h : c23 s_0 a1 S k) : WC E0 23 [.pointer s_0, sv G67 a1] S k :=
  WC_den h23 rfl (by kernel_rfl) (by kernel_rfl : Try.f23.body = some (bodyOf Try.f23)) (by rw [show (denF E0 h23 Try.f23 (bodyOf Try.f23) [.pointer s_0, sv G67 a1] S k) = c23 s_0 a1 S k by kernel_rfl]; exact h)

/-! 24 slices.Sorted[int] -/
noncomputable def h24 : Hn := .no
def c24 (seq_0 : Value) (S : St) (k : Value → St → Prop) : Prop :=
  evC E0 tS 46 [seq_0] S fun (s1 : Sl) (S1 : St) => evC E0 (TT.tup []) 47 [.slice s1.a s1.len s1.cap] S1 fun (x1 : PUnit) (S2 : St) => k (.slice s1.a s1.len s1.cap) S2
theorem w24 (seq_0 : Value) {S : St} {k : Value → St → Prop} (h : c24 seq_0 S k) : WC E0 24 [seq_0] S k :=
  WC_den h24 rfl (by kernel_rfl) (by kernel_rfl : Try.f24.body = some (bodyOf Try.f24)) (by rw [show (denF E0 h24 Try.f24 (bodyOf Try.f24) [seq_0] S k) = c24 seq_0 S k by kernel_rfl]; exact h)

/-! 25 slices.Values[[]int,int] -/
noncomputable def h25 : Hn := .no
def c25 (s_0 : Sl) (S : St) (k : Value → St → Prop) : Prop :=
  newW S (.cells [.slice s_0.a s_0.len s_0.cap] none false none) fun (b1 : Nat) (S1 : St) => k (.func (Fn.func 48) #[] #[.pointer (some ⟨b1, 0, none⟩)]) S1
theorem w25 (s_0 : Sl) {S : St} {k : Value → St → Prop} (h : c25 s_0 S k) : WC E0 25 [.slice s_0.a s_0.len s_0.cap] S k :=
  WC_den h25 rfl (by kernel_rfl) (by kernel_rfl : Try.f25.body = some (bodyOf Try.f25)) (by rw [show (denF E0 h25 Try.f25 (bodyOf Try.f25) [.slice s_0.a s_0.len s_0.cap] S k) = c25 s_0 S k by kernel_rfl]; exact h)

/-! 26 slices.Compact[[]int,int] -/
noncomputable def h26 : Hn := (.n .no (.n .no (.n (.n .no (.n (.n (.n .no (.n (.n (.n .no (.n (.n .no (.n (.n .no (.n (.n .no .no (some ⟨[0, 4], [(3, .sc (.int .i64)), (5, .sc (.int .i64))], false⟩)) .no none) none) .no none) none) .no none) none) .no none) .no none) none) .no (some ⟨[0], [(3, .sc (.int .i64))], false⟩)) .no none) none) .no none) none) none)
def c26 (s_0 : Sl) (S : St) (k : Value → St → Prop) : Prop :=
  ifW (ltI (↑s_0.len : Int) 2) (k (.slice s_0.a s_0.len s_0.cap) S)
  (loopW
  (fun (k1 : Int → St → Prop) (n1 : Int) (S1 : St) =>
  ifW (ltI n1 (↑s_0.len : Int))
  (idxW s_0.a s_0.len n1 fun (b1 b2 : Nat) =>
  evV tI (loadV E0 S1 3 (.pointer (some ⟨b1, b2 + Int.toNat n1 * 1, none⟩))) fun (n2 : Int) =>
  idxW s_0.a s_0.len (wrapI .i64 (n1 - 1)) fun (b3 b4 : Nat) =>
  evV tI (loadV E0 S1 3 (.pointer (some ⟨b3, b4 + Int.toNat (wrapI .i64 (n1 - 1)) * 1, none⟩))) fun (n3 : Int) =>
  ifW (eqI n2 n3)
  (evV tS (sliceD E0 S1 22 (.slice s_0.a s_0.len s_0.cap) (some (.int .i64 n1)) none none) fun (s1 : Sl) =>
  loopW
  (fun (k2 : Int × Int → St → Prop) (x1 : Int × Int) (S2 : St) =>
  ifW (ltI x1.2 (↑s1.len : Int))
  (idxW s1.a s1.len x1.2 fun (b5 b6 : Nat) =>
  evV tI (loadV E0 S2 3 (.pointer (some ⟨b5, b6 + Int.toNat x1.2 * 1, none⟩))) fun (n4 : Int) =>
  idxW s1.a s1.len (wrapI .i64 (x1.2 - 1)) fun (b7 b8 : Nat) =>
  evV tI (loadV E0 S2 3 (.pointer (some ⟨b7, b8 + Int.toNat (wrapI .i64 (x1.2 - 1)) * 1, none⟩))) fun (n5 : Int) =>
  ifW (!eqI n4 n5)
  (idxW s1.a s1.len x1.2 fun (b9 b10 : Nat) =>
  evV tI (loadV E0 S2 3 (.pointer (some ⟨b9, b10 + Int.toNat x1.2 * 1, none⟩))) fun (n6 : Int) =>
  idxW s_0.a s_0.len x1.1 fun (b11 b12 : Nat) =>
  evS (storeV E0 S2 3 (.pointer (some ⟨b11, b12 + Int.toNat x1.1 * 1, none⟩)) (.int .i64 n6)) fun (S3 : St) =>
  k2 (wrapI .i64 (x1.1 + 1), wrapI .i64 (x1.2 + 1)) S3)
  (k2 (x1.1, wrapI .i64 (x1.2 + 1)) S2))
  (evV tS (sliceD E0 S2 22 (.slice s_0.a s_0.len s_0.cap) (some (.int .i64 x1.1)) none none) fun (s2 : Sl) =>
  evS (clearD E0 S2 22 (.slice s2.a s2.len s2.cap)) fun (S4 : St) =>
  evV tS (sliceD E0 S4 22 (.slice s_0.a s_0.len s_0.cap) none (some (.int .i64 x1.1)) none) fun (s3 : Sl) => k (.slice s3.a s3.len s3.cap) S4))
  (n1, 1) S1)
  (k1 (wrapI .i64 (n1 + 1)) S1))
  (k (.slice s_0.a s_0.len s_0.cap) S1))
  1 S)
theorem w26 (s_0 : Sl) {S : St} {k : Value → St → Prop} (h : c26 s_0 S k) : WC E0 26 [.slice s_0.a s_0.len s_0.cap] S k :=
  WC_den h26 rfl (by kernel_rfl) (by kernel_rfl : Try.f26.body = some (bodyOf Try.f26)) (by rw [show (denF E0 h26 Try.f26 (bodyOf Try.f26) [.slice s_0.a s_0.len s_0.cap] S k) = c26 s_0 S k by kernel_rfl]; exact h)

/-! 27 wagonway/shelf.Check -/
noncomputable def h27 : Hn := .no
def c27 (r_0 : Int × Int × Sl) (S : St) (k : Value → St → Prop) : Prop :=
  newW S (.cells [.int .i64 r_0.1, .int .i64 r_0.2.1, .slice r_0.2.2.a r_0.2.2.len r_0.2.2.cap] none false none) fun (b1 : Nat) (S1 : St) =>
  ptrW (some ⟨b1, 0, none⟩) fun (b2 b3 : Nat) =>
  evV tI (loadV E0 S1 3 (.pointer (some ⟨b2, b3 + 0, none⟩))) fun (n1 : Int) =>
  ifW (ltI n1 0) (k (.int .i64 130) S1)
  (ptrW (some ⟨b1, 0, none⟩) fun (b4 b5 : Nat) =>
  evV tI (loadV E0 S1 3 (.pointer (some ⟨b4, b5 + 0, none⟩))) fun (n2 : Int) =>
  ifW (ltI 255 n2) (k (.int .i64 130) S1)
  (ptrW (some ⟨b1, 0, none⟩) fun (b6 b7 : Nat) =>
  evV tI (loadV E0 S1 3 (.pointer (some ⟨b6, b7 + 1, none⟩))) fun (n3 : Int) =>
  ifW (ltI n3 0) (k (.int .i64 130) S1)
  (ptrW (some ⟨b1, 0, none⟩) fun (b8 b9 : Nat) =>
  evV tI (loadV E0 S1 3 (.pointer (some ⟨b8, b9 + 1, none⟩))) fun (n4 : Int) =>
  ifW (ltI 1024 n4) (k (.int .i64 130) S1)
  (ptrW (some ⟨b1, 0, none⟩) fun (b10 b11 : Nat) =>
  evV tS (loadV E0 S1 40 (.pointer (some ⟨b10, b11 + 2, none⟩))) fun (s1 : Sl) =>
  ifW (ltI 1024 (↑s1.len : Int)) (k (.int .i64 130) S1) (k (.int .i64 0) S1)))))
theorem w27 (r_0 : Int × Int × Sl) {S : St} {k : Value → St → Prop} (h : c27 r_0 S k) : WC E0 27 [sv G41 r_0] S k :=
  WC_den h27 rfl (by kernel_rfl) (by kernel_rfl : Try.f27.body = some (bodyOf Try.f27)) (by rw [show (denF E0 h27 Try.f27 (bodyOf Try.f27) [sv G41 r_0] S k) = c27 r_0 S k by kernel_rfl]; exact h)

/-! 28 slices.Clone[[]byte,byte] -/
noncomputable def h28 : Hn := .no
def c28 (s_0 : Sl) (S : St) (k : Value → St → Prop) : Prop :=
  eqW E0 S 40 (.slice s_0.a s_0.len s_0.cap) (.slice none 0 0) fun (t1 : Bool) =>
  ifW t1 (k (.slice none 0 0) S)
  (newW S (.cells [] none false none) fun (b1 : Nat) (S1 : St) =>
  evP tS (appendD E0 S1 40 40 (.slice (some ⟨b1, 0, none⟩) 0 0) (.slice s_0.a s_0.len s_0.cap)) fun (s1 : Sl) (S2 : St) => k (.slice s1.a s1.len s1.cap) S2)
theorem w28 (s_0 : Sl) {S : St} {k : Value → St → Prop} (h : c28 s_0 S k) : WC E0 28 [.slice s_0.a s_0.len s_0.cap] S k :=
  WC_den h28 rfl (by kernel_rfl) (by kernel_rfl : Try.f28.body = some (bodyOf Try.f28)) (by rw [show (denF E0 h28 Try.f28 (bodyOf Try.f28) [.slice s_0.a s_0.len s_0.cap] S k) = c28 s_0 S k by kernel_rfl]; exact h)

/-! 29 (*wagonway/claim.Claims).find -/
noncomputable def h29 : Hn := .no
def c29 (c_0 : Option Addr) (cell_1 : Int) (S : St) (k : Value → St → Prop) : Prop :=
  eqW E0 S 76 (.pointer c_0) (.pointer none) fun (t1 : Bool) =>
  ifW t1 (k (.tuple #[.int .i64 0, .bool false]) S)
  (ptrW c_0 fun (b1 b2 : Nat) =>
  ptrW (some ⟨b1, b2, none⟩) fun (b3 b4 : Nat) =>
  evV tS (loadV E0 S 44 (.pointer (some ⟨b3, b4 + 0, none⟩))) fun (s1 : Sl) =>
  evC E0 (TT.tup [Ty.sc (Sc.int .i64), Ty.sc Sc.bool]) 49 [.slice s1.a s1.len s1.cap, .int .i64 cell_1, .func (Fn.func 50) #[] #[]] S fun (x1 : Int × Bool) (S1 : St) =>
  k (.tuple #[.int .i64 x1.1, .bool x1.2]) S1)
theorem w29 (c_0 : Option Addr) (cell_1 : Int) {S : St} {k : Value → St → Prop} (h : c29 c_0 cell_1 S k) : WC E0 29 [.pointer c_0, .int .i64 cell_1] S k :=
  WC_den h29 rfl (by kernel_rfl) (by kernel_rfl : Try.f29.body = some (bodyOf Try.f29)) (by rw [show (denF E0 h29 Try.f29 (bodyOf Try.f29) [.pointer c_0, .int .i64 cell_1] S k) = c29 c_0 cell_1 S k by kernel_rfl]; exact h)

/-! 30 wagonway/claim.known -/
noncomputable def h30 : Hn := .no
def c30 (cell_0 : Int) (S : St) (k : Value → St → Prop) : Prop :=
  ifW (leI 0 cell_0) (k (.bool (ltI cell_0 1024)) S) (k (.bool false) S)
theorem w30 (cell_0 : Int) {S : St} {k : Value → St → Prop} (h : c30 cell_0 S k) : WC E0 30 [.int .i64 cell_0] S k :=
  WC_den h30 rfl (by kernel_rfl) (by kernel_rfl : Try.f30.body = some (bodyOf Try.f30)) (by rw [show (denF E0 h30 Try.f30 (bodyOf Try.f30) [.int .i64 cell_0] S k) = c30 cell_0 S k by kernel_rfl]; exact h)

/-! 32 (*wagonway/claim.Claims).Gen -/
noncomputable def h32 : Hn := .no
def c32 (c_0 : Option Addr) (cell_1 : Int) (S : St) (k : Value → St → Prop) : Prop :=
  evC E0 (TT.tup [Ty.sc (Sc.int .i64), Ty.sc Sc.bool]) 29 [.pointer c_0, .int .i64 cell_1] S fun (x1 : Int × Bool) (S1 : St) =>
  ifW (!x1.2) (k (.tuple #[.int .u32 0, .bool false]) S1)
  (ptrW c_0 fun (b1 b2 : Nat) =>
  ptrW (some ⟨b1, b2, none⟩) fun (b3 b4 : Nat) =>
  evV tS (loadV E0 S1 44 (.pointer (some ⟨b3, b4 + 0, none⟩))) fun (s1 : Sl) =>
  idxW s1.a s1.len x1.1 fun (b5 b6 : Nat) =>
  ptrW (some ⟨b5, b6 + Int.toNat x1.1 * 2, none⟩) fun (b7 b8 : Nat) =>
  evV tU32 (loadV E0 S1 30 (.pointer (some ⟨b7, b8 + 1, none⟩))) fun (n1 : Int) => k (.tuple #[.int .u32 n1, .bool true]) S1)
theorem w32 (c_0 : Option Addr) (cell_1 : Int) {S : St} {k : Value → St → Prop} (h : c32 c_0 cell_1 S k) : WC E0 32 [.pointer c_0, .int .i64 cell_1] S k :=
  WC_den h32 rfl (by kernel_rfl) (by kernel_rfl : Try.f32.body = some (bodyOf Try.f32)) (by rw [show (denF E0 h32 Try.f32 (bodyOf Try.f32) [.pointer c_0, .int .i64 cell_1] S k) = c32 c_0 cell_1 S k by kernel_rfl]; exact h)

/-! 33 (*wagonway/ledger.Ledger).none -/
noncomputable def h33 : Hn := .no
def c33 (l_0 : Option Addr) (S : St) (k : Value → St → Prop) : Prop :=
  eqW E0 S 49 (.pointer l_0) (.pointer none) fun (t1 : Bool) =>
  ifW t1 (k (.bool true) S)
  (ptrW l_0 fun (b1 b2 : Nat) => ptrW (some ⟨b1, b2, none⟩) fun (b3 b4 : Nat) => evV tI (loadV E0 S 3 (.pointer (some ⟨b3, b4 + 1, none⟩))) fun (n1 : Int) => k (.bool (eqI n1 0)) S)
theorem w33 (l_0 : Option Addr) {S : St} {k : Value → St → Prop} (h : c33 l_0 S k) : WC E0 33 [.pointer l_0] S k :=
  WC_den h33 rfl (by kernel_rfl) (by kernel_rfl : Try.f33.body = some (bodyOf Try.f33)) (by rw [show (denF E0 h33 Try.f33 (bodyOf Try.f33) [.pointer l_0] S k) = c33 l_0 S k by kernel_rfl]; exact h)

/-! 34 (*wagonway/ledger.Ledger).robot -/
noncomputable def h34 : Hn := .no
def c34 (l_0 : Option Addr) (n_1 : Int) (S : St) (k : Value → St → Prop) : Prop :=
  evC E0 tB 33 [.pointer l_0] S fun (t1 : Bool) (S1 : St) =>
  ifW (!t1)
  (ifW (leI 0 n_1)
  (ptrW l_0 fun (b1 b2 : Nat) =>
  ptrW (some ⟨b1, b2, none⟩) fun (b3 b4 : Nat) => evV tI (loadV E0 S1 3 (.pointer (some ⟨b3, b4 + 1, none⟩))) fun (n1 : Int) => k (.bool (ltI n_1 n1)) S1)
  (k (.bool false) S1))
  (k (.bool false) S1)
theorem w34 (l_0 : Option Addr) (n_1 : Int) {S : St} {k : Value → St → Prop} (h : c34 l_0 n_1 S k) : WC E0 34 [.pointer l_0, .int .i64 n_1] S k :=
  WC_den h34 rfl (by kernel_rfl) (by kernel_rfl : Try.f34.body = some (bodyOf Try.f34)) (by rw [show (denF E0 h34 Try.f34 (bodyOf Try.f34) [.pointer l_0, .int .i64 n_1] S k) = c34 l_0 n_1 S k by kernel_rfl]; exact h)

/-! 35 (*wagonway/ledger.Ledger).entry -/
noncomputable def h35 : Hn := .no
def c35 (l_0 : Option Addr) (cell_1 : Int) (S : St) (k : Value → St → Prop) : Prop :=
  newW S (.cells [.int .i64 0, .int .u32 0] none false none) fun (b1 : Nat) (S1 : St) =>
  ptrW l_0 fun (b2 b3 : Nat) =>
  ptrW (some ⟨b2, b3, none⟩) fun (b4 b5 : Nat) =>
  evV tM (loadV E0 S1 83 (.pointer (some ⟨b4, b5 + 3, none⟩))) fun (p1 : Option Nat) =>
  evV (TT.tup [Ty.agg G80, Ty.sc Sc.bool]) (lookupD E0 S1 83 (.map p1) (.int .i64 cell_1) true) fun (x1 : (Int × Int) × Bool) =>
  newW S1 (.cells [.int .i64 0, .int .u32 0] none false none) fun (b6 : Nat) (S2 : St) =>
  evS (storeV E0 S2 90 (.pointer (some ⟨b6, 0, none⟩)) (sv G80 x1.1)) fun (S3 : St) =>
  ifW x1.2
  (evV (TT.one (Ty.agg G80)) (loadV E0 S3 90 (.pointer (some ⟨b6, 0, none⟩))) fun (x2 : Int × Int) =>
  evS (storeV E0 S3 90 (.pointer (some ⟨b1, 0, none⟩)) (sv G80 x2)) fun (S4 : St) =>
  evV (TT.one (Ty.agg G80)) (loadV E0 S4 90 (.pointer (some ⟨b1, 0, none⟩))) fun (x3 : Int × Int) => k (sv G80 x3) S4)
  (evC E0 (TT.one (Ty.agg G80)) 36 [] S3 fun (x4 : Int × Int) (S5 : St) =>
  evS (storeV E0 S5 90 (.pointer (some ⟨b1, 0, none⟩)) (sv G80 x4)) fun (S6 : St) =>
  evV (TT.one (Ty.agg G80)) (loadV E0 S6 90 (.pointer (some ⟨b1, 0, none⟩))) fun (x5 : Int × Int) => k (sv G80 x5) S6)
theorem w35 (l_0 : Option Addr) (cell_1 : Int) {S : St} {k : Value → St → Prop} (h : c35 l_0 cell_1 S k) : WC E0 35 [.pointer l_0, .int .i64 cell_1] S k :=
  WC_den h35 rfl (by kernel_rfl) (by kernel_rfl : Try.f35.body = some (bodyOf Try.f35)) (by rw [show (denF E0 h35 Try.f35 (bodyOf Try.f35) [.pointer l_0, .int .i64 cell_1] S k) = c35 l_0 cell_1 S k by kernel_rfl]; exact h)

/-! 36 wagonway/ledger.first -/
noncomputable def h36 : Hn := .no
def c36  (S : St) (k : Value → St → Prop) : Prop :=
  newW S (.cells [.int .i64 0, .int .u32 0] none false none) fun (b1 : Nat) (S1 : St) =>
  evS (storeV E0 S1 90 (.pointer (some ⟨b1, 0, none⟩)) (.agg #[.int .i64 (-1), .int .u32 0])) fun (S2 : St) =>
  evV (TT.one (Ty.agg G80)) (loadV E0 S2 90 (.pointer (some ⟨b1, 0, none⟩))) fun (x1 : Int × Int) => k (sv G80 x1) S2
theorem w36  {S : St} {k : Value → St → Prop} (h : c36  S k) : WC E0 36 [] S k :=
  WC_den h36 rfl (by kernel_rfl) (by kernel_rfl : Try.f36.body = some (bodyOf Try.f36)) (by rw [show (denF E0 h36 Try.f36 (bodyOf Try.f36) [] S k) = c36  S k by kernel_rfl]; exact h)

/-! 37 (*wagonway/ledger.Ledger).set -/
noncomputable def h37 : Hn := (.n .no (.n .no (.n .no .no (some ⟨[1, 3, 6], [], false⟩)) none) none)
def c37 (l_0 : Option Addr) (cell_1 : Int) (e_2 : Int × Int) (out_3 : Option Addr) (S : St) (k : Value → St → Prop) : Prop :=
  newW S (.cells [.int .i64 e_2.1, .int .u32 e_2.2] none false none) fun (b1 : Nat) (S1 : St) =>
  ptrW l_0 fun (b2 b3 : Nat) =>
  ptrW (some ⟨b2, b3, none⟩) fun (b4 b5 : Nat) =>
  evV tM (loadV E0 S1 83 (.pointer (some ⟨b4, b5 + 3, none⟩))) fun (p1 : Option Nat) =>
  evV (TT.one (Ty.agg G80)) (loadV E0 S1 90 (.pointer (some ⟨b1, 0, none⟩))) fun (x1 : Int × Int) =>
  evS (mapUpdateD E0 S1 83 (.map p1) (.int .i64 cell_1) (sv G80 x1)) fun (S2 : St) =>
  joinW
  (fun (x2 : PUnit) (S3 : St) =>
  ptrW out_3 fun (b6 b7 : Nat) =>
  ptrW (some ⟨b6, b7, none⟩) fun (b8 b9 : Nat) =>
  evV tS (loadV E0 S3 27 (.pointer (some ⟨b8, b9 + 0, none⟩))) fun (s1 : Sl) =>
  evV (TT.one (Ty.agg G80)) (loadV E0 S3 90 (.pointer (some ⟨b1, 0, none⟩))) fun (x3 : Int × Int) =>
  evC E0 (TT.one (Ty.agg G41)) 53 [.int .i64 cell_1, sv G80 x3] S3 fun (x4 : Int × Int × Sl) (S4 : St) =>
  evV tS (loadV E0 S4 27 (.pointer (some ⟨b8, b9 + 0, none⟩))) fun (s2 : Sl) =>
  sameV (.slice s2.a s2.len s2.cap) (.slice s1.a s1.len s1.cap)
  (newW S4 (.cells [.int .i64 x4.1, .int .i64 x4.2.1, .slice x4.2.2.a x4.2.2.len x4.2.2.cap] none false none) fun (b10 : Nat) (S5 : St) =>
  evV tS (loadV E0 S5 27 (.pointer (some ⟨b8, b9 + 0, none⟩))) fun (s3 : Sl) =>
  sameV (.slice s3.a s3.len s3.cap) (.slice s1.a s1.len s1.cap)
  (evP tS (appendD E0 S5 27 27 (.slice s1.a s1.len s1.cap) (.slice (some ⟨b10, 0, none⟩) 1 1)) fun (s4 : Sl) (S6 : St) =>
  ptrW out_3 fun (b11 b12 : Nat) =>
  ptrW (some ⟨b11, b12, none⟩) fun (b13 b14 : Nat) =>
  evS (storeV E0 S6 27 (.pointer (some ⟨b13, b14 + 0, none⟩)) (.slice s4.a s4.len s4.cap)) fun (S7 : St) => k (.tuple #[]) S7)))
  fun (k1 : PUnit → St → Prop) =>
  evV (TT.one (Ty.agg G80)) (loadV E0 S2 90 (.pointer (some ⟨b1, 0, none⟩))) fun (x5 : Int × Int) =>
  evC E0 (TT.one (Ty.agg G80)) 36 [] S2 fun (x6 : Int × Int) (S8 : St) =>
  evV (TT.one (Ty.agg G80)) (loadV E0 S8 90 (.pointer (some ⟨b1, 0, none⟩))) fun (x7 : Int × Int) =>
  sameV (sv G80 x7) (sv G80 x5)
  (eqW E0 S8 90 (sv G80 x5) (sv G80 x6) fun (t1 : Bool) =>
  ifW t1
  (ptrW l_0 fun (b15 b16 : Nat) =>
  ptrW (some ⟨b15, b16, none⟩) fun (b17 b18 : Nat) =>
  evV tM (loadV E0 S8 83 (.pointer (some ⟨b17, b18 + 3, none⟩))) fun (p2 : Option Nat) =>
  evS (deleteD E0 S8 83 (.map p2) (.int .i64 cell_1)) fun (S9 : St) => k1 PUnit.unit S9)
  (k1 PUnit.unit S8))
theorem w37 (l_0 : Option Addr) (cell_1 : Int) (e_2 : Int × Int) (out_3 : Option Addr) {S : St} {k : Value → St → Prop} (h : c37 l_0 cell_1 e_2 out_3 S k) : WC E0 37 [.pointer l_0, .int .i64 cell_1, sv G80 e_2, .pointer out_3] S k :=
  WC_den h37 rfl (by kernel_rfl) (by kernel_rfl : Try.f37.body = some (bodyOf Try.f37)) (by rw [show (denF E0 h37 Try.f37 (bodyOf Try.f37) [.pointer l_0, .int .i64 cell_1, sv G80 e_2, .pointer out_3] S k) = c37 l_0 cell_1 e_2 out_3 S k by kernel_rfl]; exact h)

/-! 38 wagonway/wagonwayref13.Check -/
noncomputable def h38 : Hn := .no
def c38 (r_0 : Int × Int × Sl) (S : St) (k : Value → St → Prop) : Prop :=
  newW S (.cells [.int .i64 r_0.1, .int .i64 r_0.2.1, .slice r_0.2.2.a r_0.2.2.len r_0.2.2.cap] none false none) fun (b1 : Nat) (S1 : St) =>
  ptrW (some ⟨b1, 0, none⟩) fun (b2 b3 : Nat) =>
  evV tI (loadV E0 S1 3 (.pointer (some ⟨b2, b3 + 0, none⟩))) fun (n1 : Int) =>
  ifW (ltI n1 0) (k (.int .i64 130) S1)
  (ptrW (some ⟨b1, 0, none⟩) fun (b4 b5 : Nat) =>
  evV tI (loadV E0 S1 3 (.pointer (some ⟨b4, b5 + 0, none⟩))) fun (n2 : Int) =>
  ifW (ltI 255 n2) (k (.int .i64 130) S1)
  (ptrW (some ⟨b1, 0, none⟩) fun (b6 b7 : Nat) =>
  evV tI (loadV E0 S1 3 (.pointer (some ⟨b6, b7 + 1, none⟩))) fun (n3 : Int) =>
  ifW (ltI n3 0) (k (.int .i64 130) S1)
  (ptrW (some ⟨b1, 0, none⟩) fun (b8 b9 : Nat) =>
  evV tI (loadV E0 S1 3 (.pointer (some ⟨b8, b9 + 1, none⟩))) fun (n4 : Int) =>
  ifW (ltI 1024 n4) (k (.int .i64 130) S1)
  (ptrW (some ⟨b1, 0, none⟩) fun (b10 b11 : Nat) =>
  evV tS (loadV E0 S1 40 (.pointer (some ⟨b10, b11 + 2, none⟩))) fun (s1 : Sl) =>
  ifW (ltI 1024 (↑s1.len : Int)) (k (.int .i64 130) S1) (k (.int .i64 0) S1)))))
theorem w38 (r_0 : Int × Int × Sl) {S : St} {k : Value → St → Prop} (h : c38 r_0 S k) : WC E0 38 [sv G41 r_0] S k :=
  WC_den h38 rfl (by kernel_rfl) (by kernel_rfl : Try.f38.body = some (bodyOf Try.f38)) (by rw [show (denF E0 h38 Try.f38 (bodyOf Try.f38) [sv G41 r_0] S k) = c38 r_0 S k by kernel_rfl]; exact h)

/-! 39 wagonway/wagonwayref13.ahead -/
noncomputable def h39 : Hn := .no
def c39 (a_0 : Int × Int × Sl) (b_1 : Int × Int × Sl) (S : St) (k : Value → St → Prop) : Prop :=
  newW S (.cells [.int .i64 a_0.1, .int .i64 a_0.2.1, .slice a_0.2.2.a a_0.2.2.len a_0.2.2.cap] none false none) fun (b1 : Nat) (S1 : St) =>
  newW S1 (.cells [.int .i64 b_1.1, .int .i64 b_1.2.1, .slice b_1.2.2.a b_1.2.2.len b_1.2.2.cap] none false none) fun (b2 : Nat) (S2 : St) =>
  ptrW (some ⟨b1, 0, none⟩) fun (b3 b4 : Nat) =>
  evV tI (loadV E0 S2 3 (.pointer (some ⟨b3, b4 + 0, none⟩))) fun (n1 : Int) =>
  ptrW (some ⟨b2, 0, none⟩) fun (b5 b6 : Nat) =>
  evV tI (loadV E0 S2 3 (.pointer (some ⟨b5, b6 + 0, none⟩))) fun (n2 : Int) =>
  ifW (ltI n1 n2) (k (.bool true) S2)
  (ptrW (some ⟨b1, 0, none⟩) fun (b7 b8 : Nat) =>
  evV tI (loadV E0 S2 3 (.pointer (some ⟨b7, b8 + 0, none⟩))) fun (n3 : Int) =>
  ptrW (some ⟨b2, 0, none⟩) fun (b9 b10 : Nat) =>
  evV tI (loadV E0 S2 3 (.pointer (some ⟨b9, b10 + 0, none⟩))) fun (n4 : Int) =>
  ifW (eqI n3 n4)
  (ptrW (some ⟨b1, 0, none⟩) fun (b11 b12 : Nat) =>
  evV tI (loadV E0 S2 3 (.pointer (some ⟨b11, b12 + 1, none⟩))) fun (n5 : Int) =>
  ptrW (some ⟨b2, 0, none⟩) fun (b13 b14 : Nat) => evV tI (loadV E0 S2 3 (.pointer (some ⟨b13, b14 + 1, none⟩))) fun (n6 : Int) => k (.bool (ltI n5 n6)) S2)
  (k (.bool false) S2))
theorem w39 (a_0 : Int × Int × Sl) (b_1 : Int × Int × Sl) {S : St} {k : Value → St → Prop} (h : c39 a_0 b_1 S k) : WC E0 39 [sv G41 a_0, sv G41 b_1] S k :=
  WC_den h39 rfl (by kernel_rfl) (by kernel_rfl : Try.f39.body = some (bodyOf Try.f39)) (by rw [show (denF E0 h39 Try.f39 (bodyOf Try.f39) [sv G41 a_0, sv G41 b_1] S k) = c39 a_0 b_1 S k by kernel_rfl]; exact h)

/-! 40 (*wagonway/shelf.Shelf).keys$1 -/
noncomputable def h40 : Hn := (.n .no (.n .no (.n (.n .no .no (some ⟨[0, 12, 13], [(14, .sc (.int .i64))], false⟩)) .no none) none) none)
def c40 (yield_0 : Value) (c1 : Nat) (S : St) (k : Value → St → Prop) : Prop :=
  evV tP (loadV E0 S 23 (.pointer (some ⟨c1, 0, none⟩))) fun (p1 : Option Addr) =>
  eqW E0 S 23 (.pointer p1) (.pointer none) fun (t1 : Bool) =>
  ifW t1 (k (.tuple #[]) S)
  (evV tP (loadV E0 S 23 (.pointer (some ⟨c1, 0, none⟩))) fun (p2 : Option Addr) =>
  ptrW p2 fun (b1 b2 : Nat) =>
  ptrW (some ⟨b1, b2, none⟩) fun (b3 b4 : Nat) =>
  evV tM (loadV E0 S 36 (.pointer (some ⟨b3, b4 + 0, none⟩))) fun (p3 : Option Nat) =>
  evC E0 tA 42 [.map p3] S fun (v1 : Value) (S1 : St) =>
  evC E0 tS 41 [v1, .func (Fn.func 43) #[] #[]] S1 fun (s1 : Sl) (S2 : St) =>
  loopW
  (fun (k1 : Int → St → Prop) (n1 : Int) (S3 : St) =>
  ifW (ltI n1 (↑s1.len : Int))
  (idxW s1.a s1.len n1 fun (b5 b6 : Nat) =>
  evV (TT.one (Ty.agg G67)) (loadV E0 S3 68 (.pointer (some ⟨b5, b6 + Int.toNat n1 * 2, none⟩))) fun (x1 : Int × Int) =>
  newW S3 (.cells [.int .i64 0, .int .i64 0] none false none) fun (b7 : Nat) (S4 : St) =>
  evS (storeV E0 S4 68 (.pointer (some ⟨b7, 0, none⟩)) (sv G67 x1)) fun (S5 : St) =>
  evV (TT.one (Ty.agg G67)) (loadV E0 S5 68 (.pointer (some ⟨b7, 0, none⟩))) fun (x2 : Int × Int) =>
  evY E0 tB yield_0 [sv G67 x2] S5 fun (t2 : Bool) (S6 : St) => ifW (!t2) (k (.tuple #[]) S6) (k1 (wrapI .i64 (n1 + 1)) S6))
  (k (.tuple #[]) S3))
  0 S2)
theorem w40 (yield_0 : Value) (c1 : Nat) {S : St} {k : Value → St → Prop} (h : c40 yield_0 c1 S k) : WC E0 40 [yield_0, .pointer (some ⟨c1, 0, none⟩)] S k :=
  WC_den h40 rfl (by kernel_rfl) (by kernel_rfl : Try.f40.body = some (bodyOf Try.f40)) (by rw [show (denF E0 h40 Try.f40 (bodyOf Try.f40) [yield_0, .pointer (some ⟨c1, 0, none⟩)] S k) = c40 yield_0 c1 S k by kernel_rfl]; exact h)

/-! 42 maps.Keys[map[wagonway/shelf.key][]byte,wagonway/shelf.key,[]byte] -/
noncomputable def h42 : Hn := .no
def c42 (m_0 : Option Nat) (S : St) (k : Value → St → Prop) : Prop :=
  newW S (.cells [.map m_0] none false none) fun (b1 : Nat) (S1 : St) => k (.func (Fn.func 56) #[] #[.pointer (some ⟨b1, 0, none⟩)]) S1
theorem w42 (m_0 : Option Nat) {S : St} {k : Value → St → Prop} (h : c42 m_0 S k) : WC E0 42 [.map m_0] S k :=
  WC_den h42 rfl (by kernel_rfl) (by kernel_rfl : Try.f42.body = some (bodyOf Try.f42)) (by rw [show (denF E0 h42 Try.f42 (bodyOf Try.f42) [.map m_0] S k) = c42 m_0 S k by kernel_rfl]; exact h)

/-! 45 cmp.Compare[int] -/
noncomputable def h45 : Hn := .no
def c45 (x_0 : Int) (y_1 : Int) (S : St) (k : Value → St → Prop) : Prop :=
  evC E0 tB 57 [.int .i64 x_0] S fun (t1 : Bool) (S1 : St) =>
  evC E0 tB 57 [.int .i64 y_1] S1 fun (t2 : Bool) (S2 : St) =>
  ifW t1 (ifW t2 (k (.int .i64 0) S2) (k (.int .i64 (-1)) S2))
  (ifW t2 (k (.int .i64 1) S2) (ifW (ltI x_0 y_1) (k (.int .i64 (-1)) S2) (ifW (ltI y_1 x_0) (k (.int .i64 1) S2) (k (.int .i64 0) S2))))
theorem w45 (x_0 : Int) (y_1 : Int) {S : St} {k : Value → St → Prop} (h : c45 x_0 y_1 S k) : WC E0 45 [.int .i64 x_0, .int .i64 y_1] S k :=
  WC_den h45 rfl (by kernel_rfl) (by kernel_rfl : Try.f45.body = some (bodyOf Try.f45)) (by rw [show (denF E0 h45 Try.f45 (bodyOf Try.f45) [.int .i64 x_0, .int .i64 y_1] S k) = c45 x_0 y_1 S k by kernel_rfl]; exact h)

/-! 46 slices.Collect[int] -/
noncomputable def h46 : Hn := .no
def c46 (seq_0 : Value) (S : St) (k : Value → St → Prop) : Prop :=
  evC E0 tS 58 [.slice none 0 0, seq_0] S fun (s1 : Sl) (S1 : St) => k (.slice s1.a s1.len s1.cap) S1
theorem w46 (seq_0 : Value) {S : St} {k : Value → St → Prop} (h : c46 seq_0 S k) : WC E0 46 [seq_0] S k :=
  WC_den h46 rfl (by kernel_rfl) (by kernel_rfl : Try.f46.body = some (bodyOf Try.f46)) (by rw [show (denF E0 h46 Try.f46 (bodyOf Try.f46) [seq_0] S k) = c46 seq_0 S k by kernel_rfl]; exact h)

/-! 48 slices.Values[[]int,int]$1 -/
noncomputable def h48 : Hn := (.n .no (.n (.n .no .no (some ⟨[0, 5, 6], [(7, .sc (.int .i64))], false⟩)) .no none) none)
def c48 (yield_0 : Value) (c1 : Nat) (S : St) (k : Value → St → Prop) : Prop :=
  evV tS (loadV E0 S 22 (.pointer (some ⟨c1, 0, none⟩))) fun (s1 : Sl) =>
  loopW
  (fun (k1 : Int → St → Prop) (n1 : Int) (S1 : St) =>
  ifW (ltI n1 (↑s1.len : Int))
  (idxW s1.a s1.len n1 fun (b1 b2 : Nat) =>
  evV tI (loadV E0 S1 3 (.pointer (some ⟨b1, b2 + Int.toNat n1 * 1, none⟩))) fun (n2 : Int) =>
  evY E0 tB yield_0 [.int .i64 n2] S1 fun (t1 : Bool) (S2 : St) => ifW (!t1) (k (.tuple #[]) S2) (k1 (wrapI .i64 (n1 + 1)) S2))
  (k (.tuple #[]) S1))
  0 S
theorem w48 (yield_0 : Value) (c1 : Nat) {S : St} {k : Value → St → Prop} (h : c48 yield_0 c1 S k) : WC E0 48 [yield_0, .pointer (some ⟨c1, 0, none⟩)] S k :=
  WC_den h48 rfl (by kernel_rfl) (by kernel_rfl : Try.f48.body = some (bodyOf Try.f48)) (by rw [show (denF E0 h48 Try.f48 (bodyOf Try.f48) [yield_0, .pointer (some ⟨c1, 0, none⟩)] S k) = c48 yield_0 c1 S k by kernel_rfl]; exact h)

/-! 49 slices.BinarySearchFunc[[]wagonway/api.Claim,wagonway/api.Claim,int] -/
noncomputable def h49 : Hn := (.n .no (.n .no (.n .no (.n (.n (.n .no .no (some ⟨[0, 1, 2, 8], [(9, .sc (.int .i64)), (10, .sc (.int .i64))], false⟩)) .no none) .no none) none) none) none)
def c49 (x_0 : Sl) (target_1 : Int) (cmp_2 : Value) (S : St) (k : Value → St → Prop) : Prop :=
  loopW
  (fun (k1 : Int × Int → St → Prop) (x1 : Int × Int) (S1 : St) =>
  ifW (ltI x1.1 x1.2)
  (needW true
  (idxW x_0.a x_0.len (wrapI .i64 (Int.fdiv (wrapI .u64 (wrapI .i64 (x1.1 + x1.2))) (↑(2 ^ min (Int.toNat 1) 64) : Int))) fun (b1 b2 : Nat) =>
  evV (TT.one (Ty.agg G80))
  (loadV E0 S1 81 (.pointer (some ⟨b1, b2 + Int.toNat (wrapI .i64 (Int.fdiv (wrapI .u64 (wrapI .i64 (x1.1 + x1.2))) (↑(2 ^ min (Int.toNat 1) 64) : Int))) * 2, none⟩)))
  fun (x2 : Int × Int) =>
  evY E0 tI cmp_2 [sv G80 x2, .int .i64 target_1] S1 fun (n1 : Int) (S2 : St) =>
  ifW (ltI n1 0) (k1 (wrapI .i64 (wrapI .i64 (Int.fdiv (wrapI .u64 (wrapI .i64 (x1.1 + x1.2))) (↑(2 ^ min (Int.toNat 1) 64) : Int)) + 1), x1.2) S2)
  (k1 (x1.1, wrapI .i64 (Int.fdiv (wrapI .u64 (wrapI .i64 (x1.1 + x1.2))) (↑(2 ^ min (Int.toNat 1) 64) : Int))) S2)))
  (ifW (ltI x1.1 (↑x_0.len : Int))
  (idxW x_0.a x_0.len x1.1 fun (b3 b4 : Nat) =>
  evV (TT.one (Ty.agg G80)) (loadV E0 S1 81 (.pointer (some ⟨b3, b4 + Int.toNat x1.1 * 2, none⟩))) fun (x3 : Int × Int) =>
  evY E0 tI cmp_2 [sv G80 x3, .int .i64 target_1] S1 fun (n2 : Int) (S3 : St) => k (.tuple #[.int .i64 x1.1, .bool (eqI n2 0)]) S3)
  (k (.tuple #[.int .i64 x1.1, .bool false]) S1)))
  (0, (↑x_0.len : Int)) S
theorem w49 (x_0 : Sl) (target_1 : Int) (cmp_2 : Value) {S : St} {k : Value → St → Prop} (h : c49 x_0 target_1 cmp_2 S k) : WC E0 49 [.slice x_0.a x_0.len x_0.cap, .int .i64 target_1, cmp_2] S k :=
  WC_den h49 rfl (by kernel_rfl) (by kernel_rfl : Try.f49.body = some (bodyOf Try.f49)) (by rw [show (denF E0 h49 Try.f49 (bodyOf Try.f49) [.slice x_0.a x_0.len x_0.cap, .int .i64 target_1, cmp_2] S k) = c49 x_0 target_1 cmp_2 S k by kernel_rfl]; exact h)

/-! 50 (*wagonway/claim.Claims).find$1 -/
noncomputable def h50 : Hn := .no
def c50 (x_0 : Int × Int) (n_1 : Int) (S : St) (k : Value → St → Prop) : Prop :=
  newW S (.cells [.int .i64 x_0.1, .int .u32 x_0.2] none false none) fun (b1 : Nat) (S1 : St) =>
  ptrW (some ⟨b1, 0, none⟩) fun (b2 b3 : Nat) =>
  evV tI (loadV E0 S1 3 (.pointer (some ⟨b2, b3 + 0, none⟩))) fun (n1 : Int) =>
  evC E0 tI 45 [.int .i64 n1, .int .i64 n_1] S1 fun (n2 : Int) (S2 : St) => k (.int .i64 n2) S2
theorem w50 (x_0 : Int × Int) (n_1 : Int) {S : St} {k : Value → St → Prop} (h : c50 x_0 n_1 S k) : WC E0 50 [sv G80 x_0, .int .i64 n_1] S k :=
  WC_den h50 rfl (by kernel_rfl) (by kernel_rfl : Try.f50.body = some (bodyOf Try.f50)) (by rw [show (denF E0 h50 Try.f50 (bodyOf Try.f50) [sv G80 x_0, .int .i64 n_1] S k) = c50 x_0 n_1 S k by kernel_rfl]; exact h)

/-! 53 wagonway/ledger.record -/
noncomputable def h53 : Hn := .no
def c53 (cell_0 : Int) (e_1 : Int × Int) (S : St) (k : Value → St → Prop) : Prop :=
  newW S (.cells [.int .i64 e_1.1, .int .u32 e_1.2] none false none) fun (b1 : Nat) (S1 : St) =>
  newW S1 (.cells [.int .i64 0, .int .i64 0, .slice none 0 0] none false none) fun (b2 : Nat) (S2 : St) =>
  newW S2 (.cells [.int .i64 0, .int .i64 0, .slice none 0 0] none false none) fun (b3 : Nat) (S3 : St) =>
  evS (storeV E0 S3 42 (.pointer (some ⟨b3, 0, none⟩)) (.agg #[.int .i64 3, .int .i64 cell_0, .slice none 0 0])) fun (S4 : St) =>
  evV (TT.one (Ty.agg G80)) (loadV E0 S4 90 (.pointer (some ⟨b1, 0, none⟩))) fun (x1 : Int × Int) =>
  evC E0 (TT.one (Ty.agg G80)) 36 [] S4 fun (x2 : Int × Int) (S5 : St) =>
  evV (TT.one (Ty.agg G80)) (loadV E0 S5 90 (.pointer (some ⟨b1, 0, none⟩))) fun (x3 : Int × Int) =>
  sameV (sv G80 x3) (sv G80 x1)
  (eqW E0 S5 90 (sv G80 x1) (sv G80 x2) fun (t1 : Bool) =>
  ifW (!t1)
  (ptrW (some ⟨b1, 0, none⟩) fun (b4 b5 : Nat) =>
  evV tI (loadV E0 S5 3 (.pointer (some ⟨b4, b5 + 0, none⟩))) fun (n1 : Int) =>
  ptrW (some ⟨b1, 0, none⟩) fun (b6 b7 : Nat) =>
  evV tU32 (loadV E0 S5 30 (.pointer (some ⟨b6, b7 + 1, none⟩))) fun (n2 : Int) =>
  needW true
  (ptrW (some ⟨b1, 0, none⟩) fun (b8 b9 : Nat) =>
  evV tU32 (loadV E0 S5 30 (.pointer (some ⟨b8, b9 + 1, none⟩))) fun (n3 : Int) =>
  needW true
  (ptrW (some ⟨b1, 0, none⟩) fun (b10 b11 : Nat) =>
  evV tU32 (loadV E0 S5 30 (.pointer (some ⟨b10, b11 + 1, none⟩))) fun (n4 : Int) =>
  needW true
  (ptrW (some ⟨b1, 0, none⟩) fun (b12 b13 : Nat) =>
  evV tU32 (loadV E0 S5 30 (.pointer (some ⟨b12, b13 + 1, none⟩))) fun (n5 : Int) =>
  newW S5
  (.cells
  [.int .u8 (wrapI .u8 n1), .int .u8 (wrapI .u8 (Int.fdiv n2 (↑(2 ^ min (Int.toNat 24) 32) : Int))),
  .int .u8 (wrapI .u8 (Int.fdiv n3 (↑(2 ^ min (Int.toNat 16) 32) : Int))),
  .int .u8 (wrapI .u8 (Int.fdiv n4 (↑(2 ^ min (Int.toNat 8) 32) : Int))), .int .u8 (wrapI .u8 n5)]
  none false none)
  fun (b14 : Nat) (S6 : St) =>
  ptrW (some ⟨b3, 0, none⟩) fun (b15 b16 : Nat) =>
  evS (storeV E0 S6 40 (.pointer (some ⟨b15, b16 + 2, none⟩)) (.slice (some ⟨b14, 0, none⟩) 5 5)) fun (S7 : St) =>
  evV (TT.one (Ty.agg G41)) (loadV E0 S7 42 (.pointer (some ⟨b3, 0, none⟩))) fun (x4 : Int × Int × Sl) =>
  evS (storeV E0 S7 42 (.pointer (some ⟨b2, 0, none⟩)) (sv G41 x4)) fun (S8 : St) =>
  evV (TT.one (Ty.agg G41)) (loadV E0 S8 42 (.pointer (some ⟨b2, 0, none⟩))) fun (x5 : Int × Int × Sl) => k (sv G41 x5) S8))))
  (evV (TT.one (Ty.agg G41)) (loadV E0 S5 42 (.pointer (some ⟨b3, 0, none⟩))) fun (x6 : Int × Int × Sl) =>
  evS (storeV E0 S5 42 (.pointer (some ⟨b2, 0, none⟩)) (sv G41 x6)) fun (S9 : St) =>
  evV (TT.one (Ty.agg G41)) (loadV E0 S9 42 (.pointer (some ⟨b2, 0, none⟩))) fun (x7 : Int × Int × Sl) => k (sv G41 x7) S9))
theorem w53 (cell_0 : Int) (e_1 : Int × Int) {S : St} {k : Value → St → Prop} (h : c53 cell_0 e_1 S k) : WC E0 53 [.int .i64 cell_0, sv G80 e_1] S k :=
  WC_den h53 rfl (by kernel_rfl) (by kernel_rfl : Try.f53.body = some (bodyOf Try.f53)) (by rw [show (denF E0 h53 Try.f53 (bodyOf Try.f53) [.int .i64 cell_0, sv G80 e_1] S k) = c53 cell_0 e_1 S k by kernel_rfl]; exact h)

/-! 57 cmp.isNaN[int] -/
noncomputable def h57 : Hn := .no
def c57 (x_0 : Int) (S : St) (k : Value → St → Prop) : Prop :=
  k (.bool !eqI x_0 x_0) S
theorem w57 (x_0 : Int) {S : St} {k : Value → St → Prop} (h : c57 x_0 S k) : WC E0 57 [.int .i64 x_0] S k :=
  WC_den h57 rfl (by kernel_rfl) (by kernel_rfl : Try.f57.body = some (bodyOf Try.f57)) (by rw [show (denF E0 h57 Try.f57 (bodyOf Try.f57) [.int .i64 x_0] S k) = c57 x_0 S k by kernel_rfl]; exact h)

/-! 58 slices.AppendSeq[[]int,int] -/
noncomputable def h58 : Hn := (.n .no (.n (.n .no (.n (.n .no .no (some ⟨[], [(7, .sc (.int .i64))], false⟩)) .no none) none) .no none) none)
def c58 (s_0 : Sl) (seq_1 : Value) (S : St) (k : Value → St → Prop) : Prop :=
  newW S (.cells [.slice s_0.a s_0.len s_0.cap] none false none) fun (b1 : Nat) (S1 : St) =>
  newW S1 DObj.deferred fun (b2 : Nat) (S2 : St) =>
  ∀ (b3 : Nat) (S3 : St) (k1 : LoopState → Option Code → DObj),
  b3 = S2.next →
  S3 = (St.alloc S2 (k1 LoopState.ready none)).2 →
  (LoopL fun (x1 : LoopState) (p1 : Option Code) => k1 x1 p1) →
  (RoundH E0 b3 [Ty.sc (Sc.int .i64)] fun (n1 : Int) (S4 : St) (k2 : Bool → St → Prop) =>
  hasW S4 b3 (k1 LoopState.ready none)
  (hasW S4 b3 (k1 LoopState.ready none)
  (updW S4 b3 (k1 LoopState.busy none) fun (S5 : St) =>
  evV tS (loadV E0 S5 22 (.pointer (some ⟨b1, 0, none⟩))) fun (s1 : Sl) =>
  newW S5 (.cells [.int .i64 n1] none false none) fun (b4 : Nat) (S6 : St) =>
  evP tS (appendD E0 S6 22 22 (.slice s1.a s1.len s1.cap) (.slice (some ⟨b4, 0, none⟩) 1 1)) fun (s2 : Sl) (S7 : St) =>
  evS (storeV E0 S7 22 (.pointer (some ⟨b1, 0, none⟩)) (.slice s2.a s2.len s2.cap)) fun (S8 : St) =>
  hasW S8 b3 (k1 LoopState.busy none) (updW S8 b3 (k1 LoopState.ready none) fun (S9 : St) => k2 true S9)))) →
  WG E0 seq_1 b3 S3 fun (S10 : St) =>
  hasW S10 b3 (k1 LoopState.ready none)
  (updW S10 b3 (k1 LoopState.exhausted none) fun (S11 : St) =>
  evV tS (loadV E0 S11 22 (.pointer (some ⟨b1, 0, none⟩))) fun (s3 : Sl) =>
  hasW S11 b2 DObj.deferred (updW S11 b2 DObj.dead fun (S12 : St) => k (.slice s3.a s3.len s3.cap) S12)) ∨
  False
theorem w58 (s_0 : Sl) (seq_1 : Value) {S : St} {k : Value → St → Prop} (h : c58 s_0 seq_1 S k) : WC E0 58 [.slice s_0.a s_0.len s_0.cap, seq_1] S k :=
  WC_den h58 rfl (by kernel_rfl) (by kernel_rfl : Try.f58.body = some (bodyOf Try.f58)) (by rw [show (denF E0 h58 Try.f58 (bodyOf Try.f58) [.slice s_0.a s_0.len s_0.cap, seq_1] S k) = c58 s_0 seq_1 S k by kernel_rfl]; exact h)

end
end Go.Proofs.Ytcdignblakejoaa
