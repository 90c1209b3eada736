/- Parts of the proof, put together. -/
import Derived.Test.YtgdijpcopdgapaaDoorCA
/- The conditions of functions (printed by GenDen.lean). -/
namespace Go.Proofs.YtgdijpcopdgapaaDoor
open Go Go.Proofs.YtgdijpcopdgapaaDoor.D
set_option linter.unusedVariables false
noncomputable section

/-! 3 wagonway/wagonwaylaw29.TallyCounts -/
noncomputable def h3 : Hn := (.n .no (.n .no (.n .no (.n .no (.n (.n .no (.n (.n .no .no (some ⟨[0, 1, 2, 7, 8], [(9, .sc (.int .i64))], false⟩)) .no none) none) (.n .no (.n .no (.n .no (.n .no (.n .no (.n (.n .no (.n (.n .no .no (some ⟨[2, 7, 8], [(10, .sc (.int .u64)), (11, .sc (.int .u64)), (12, .sc .bool), (13, .sc (.int .i64))], false⟩)) .no none) none) .no none) none) none) none) none) none) none) none) none) none) none)
def c3 (l_0 : Sl) (s_1 : Sl) (name_2 : List UInt8) (S : St) (k : Value → St → Prop) : Prop :=
  ifW (ltI 20 (↑l_0.len : Int)) (k (.bool true) S)
  (ifW (ltI 100 (↑s_1.len : Int)) (k (.bool true) S)
  (ifW (ltI 40 (↑(List.length name_2) : Int)) (k (.bool true) S)
  (newW S
  (.cells
  [.int .u64 0, .int .u64 0, .int .u64 0, .int .u64 0, .int .u64 0, .int .u64 0, .int .u64 0, .int .u64 0,
  .int .u64 0, .int .u64 0, .int .u64 0, .int .u64 0, .int .u64 0, .int .u64 0, .int .u64 0, .int .u64 0,
  .int .u64 0, .int .u64 0, .int .u64 0, .int .u64 0, .int .u64 0, .int .u64 0, .int .u64 0, .int .u64 0,
  .int .u64 0]
  none false none)
  fun (b1 : Nat) (S1 : St) =>
  evC E0 tP 4 [] S1 fun (p1 : Option Addr) (S2 : St) =>
  loopW
  (fun (k1 : Int → St → Prop) (n1 : Int) (S3 : St) =>
  ifW (ltI n1 (↑l_0.len : Int))
  (idxW l_0.a l_0.len n1 fun (b2 b3 : Nat) =>
  evV tS (loadV E0 S3 36 (.pointer (some ⟨b2, b3 + Int.toNat n1 * 1, none⟩))) fun (s1 : Sl) =>
  ifW (leI (↑s1.len : Int) 300)
  (idxW l_0.a l_0.len n1 fun (b4 b5 : Nat) =>
  evV tS (loadV E0 S3 36 (.pointer (some ⟨b4, b5 + Int.toNat n1 * 1, none⟩))) fun (s2 : Sl) =>
  evC E0 (TT.tup []) 5 [.pointer (some ⟨b1, 0, none⟩), .slice s2.a s2.len s2.cap] S3 fun (x1 : PUnit) (S4 : St) =>
  idxW l_0.a l_0.len n1 fun (b6 b7 : Nat) =>
  evV tS (loadV E0 S4 36 (.pointer (some ⟨b6, b7 + Int.toNat n1 * 1, none⟩))) fun (s3 : Sl) =>
  evC E0 (TT.tup []) 6 [.pointer p1, .slice s3.a s3.len s3.cap] S4 fun (x2 : PUnit) (S5 : St) => k1 (wrapI .i64 (n1 + 1)) S5)
  (k1 (wrapI .i64 (n1 + 1)) S3))
  (evC E0 (TT.tup []) 7 [.pointer (some ⟨b1, 0, none⟩), .slice s_1.a s_1.len s_1.cap] S3 fun (x3 : PUnit) (S6 : St) =>
  evC E0 (TT.tup []) 8 [.pointer p1, .slice s_1.a s_1.len s_1.cap] S6 fun (x4 : PUnit) (S7 : St) =>
  loopW
  (fun (k2 : Int × Int × Bool × Int → St → Prop) (x5 : Int × Int × Bool × Int) (S8 : St) =>
  ptrW p1 fun (b8 b9 : Nat) =>
  ptrW (some ⟨b8, b9, none⟩) fun (b10 b11 : Nat) =>
  evV tS (loadV E0 S8 39 (.pointer (some ⟨b10, b11 + 0, none⟩))) fun (s4 : Sl) =>
  ifW (ltI x5.2.2.2 (↑s4.len : Int))
  (ptrW p1 fun (b12 b13 : Nat) =>
  ptrW (some ⟨b12, b13, none⟩) fun (b14 b15 : Nat) =>
  evV tS (loadV E0 S8 39 (.pointer (some ⟨b14, b15 + 0, none⟩))) fun (s5 : Sl) =>
  idxW s5.a s5.len x5.2.2.2 fun (b16 b17 : Nat) =>
  ptrW (some ⟨b16, b17 + Int.toNat x5.2.2.2 * 2, none⟩) fun (b18 b19 : Nat) =>
  evV tU (loadV E0 S8 28 (.pointer (some ⟨b18, b19 + 1, none⟩))) fun (n2 : Int) =>
  ptrW p1 fun (b20 b21 : Nat) =>
  ptrW (some ⟨b20, b21, none⟩) fun (b22 b23 : Nat) =>
  evV tS (loadV E0 S8 39 (.pointer (some ⟨b22, b23 + 0, none⟩))) fun (s6 : Sl) =>
  idxW s6.a s6.len x5.2.2.2 fun (b24 b25 : Nat) =>
  ptrW (some ⟨b24, b25 + Int.toNat x5.2.2.2 * 2, none⟩) fun (b26 b27 : Nat) =>
  evV tT (loadV E0 S8 9 (.pointer (some ⟨b26, b27 + 0, none⟩))) fun (l1 : List UInt8) =>
  evC E0 (TT.tup [Ty.sc (Sc.int .u64), Ty.sc Sc.bool]) 9 [.pointer (some ⟨b1, 0, none⟩), .string { data := List.toArray l1 }] S8
  fun (x6 : Int × Bool) (S9 : St) =>
  ifW (!x6.2) (k (.bool false) S9)
  (ptrW p1 fun (b28 b29 : Nat) =>
  ptrW (some ⟨b28, b29, none⟩) fun (b30 b31 : Nat) =>
  evV tS (loadV E0 S9 39 (.pointer (some ⟨b30, b31 + 0, none⟩))) fun (s7 : Sl) =>
  idxW s7.a s7.len x5.2.2.2 fun (b32 b33 : Nat) =>
  ptrW (some ⟨b32, b33 + Int.toNat x5.2.2.2 * 2, none⟩) fun (b34 b35 : Nat) =>
  evV tU (loadV E0 S9 28 (.pointer (some ⟨b34, b35 + 1, none⟩))) fun (n3 : Int) =>
  ifW (!eqI x6.1 n3) (k (.bool false) S9)
  (ptrW p1 fun (b36 b37 : Nat) =>
  ptrW (some ⟨b36, b37, none⟩) fun (b38 b39 : Nat) =>
  evV tS (loadV E0 S9 39 (.pointer (some ⟨b38, b39 + 0, none⟩))) fun (s8 : Sl) =>
  idxW s8.a s8.len x5.2.2.2 fun (b40 b41 : Nat) =>
  ptrW (some ⟨b40, b41 + Int.toNat x5.2.2.2 * 2, none⟩) fun (b42 b43 : Nat) =>
  evV tT (loadV E0 S9 9 (.pointer (some ⟨b42, b43 + 0, none⟩))) fun (l2 : List UInt8) =>
  ifW (l2 == name_2) (k2 (wrapI .u64 (x5.1 + n2), x6.1, true, wrapI .i64 (x5.2.2.2 + 1)) S9)
  (k2 (wrapI .u64 (x5.1 + n2), x5.2.1, x5.2.2.1, wrapI .i64 (x5.2.2.2 + 1)) S9))))
  (evC E0 (TT.tup [Ty.sc (Sc.int .u64), Ty.sc Sc.bool]) 9 [.pointer (some ⟨b1, 0, none⟩), .string { data := List.toArray name_2 }] S8
  fun (x7 : Int × Bool) (S10 : St) =>
  ifW (eqI x7.1 x5.2.1)
  (eqW E0 S10 4 (.bool x7.2) (.bool x5.2.2.1) fun (t1 : Bool) =>
  ifW t1
  (evC E0 tU 10 [.pointer (some ⟨b1, 0, none⟩)] S10 fun (n4 : Int) (S11 : St) =>
  ifW (eqI n4 x5.1)
  (evC E0 tS 12 [.pointer (some ⟨b1, 0, none⟩)] S11 fun (s9 : Sl) (S12 : St) =>
  evC E0 tS 13 [.pointer p1] S12 fun (s10 : Sl) (S13 : St) =>
  evC E0 tB 11 [.slice s9.a s9.len s9.cap, .slice s10.a s10.len s10.cap] S13 fun (t2 : Bool) (S14 : St) =>
  ifW t2
  (evC E0 tS 14 [] S14 fun (s11 : Sl) (S15 : St) =>
  evC E0 tS 15 [] S15 fun (s12 : Sl) (S16 : St) =>
  evC E0 tB 11 [.slice s11.a s11.len s11.cap, .slice s12.a s12.len s12.cap] S16 fun (t3 : Bool) (S17 : St) => k (.bool t3) S17)
  (k (.bool false) S14))
  (k (.bool false) S11))
  (k (.bool false) S10))
  (k (.bool false) S10)))
  (0, 0, false, 0) S7))
  0 S2)))
theorem w3 (l_0 : Sl) (s_1 : Sl) (name_2 : List UInt8) {S : St} {k : Value → St → Prop} (h : c3 l_0 s_1 name_2 S k) : WC E0 3 [.slice l_0.a l_0.len l_0.cap, .slice s_1.a s_1.len s_1.cap, .string ⟨name_2.toArray⟩] S k :=
  WC_den h3 rfl (by kernel_rfl) (by kernel_rfl : Tryd.f3.body = some (bodyOf Tryd.f3)) (by rw [show (denF E0 h3 Tryd.f3 (bodyOf Tryd.f3) [.slice l_0.a l_0.len l_0.cap, .slice s_1.a s_1.len s_1.cap, .string ⟨name_2.toArray⟩] S k) = c3 l_0 s_1 name_2 S k by kernel_rfl]; exact h)

/-! 4 wagonway/wagonwayref29.New -/
noncomputable def h4 : Hn := (.n .no (.n .no (.n .no (.n (.n .no (.n (.n .no .no (some ⟨[1, 2], [(3, .sc (.int .i64))], false⟩)) .no none) none) .no none) none) none) none)
def c4  (S : St) (k : Value → St → Prop) : Prop :=
  newW S (.cells [.slice none 0 0] none false none) fun (b1 : Nat) (S1 : St) =>
  evC E0 tS 15 [] S1 fun (s1 : Sl) (S2 : St) =>
  loopW
  (fun (k1 : Int → St → Prop) (n1 : Int) (S3 : St) =>
  ifW (ltI n1 (↑s1.len : Int))
  (ptrW (some ⟨b1, 0, none⟩) fun (b2 b3 : Nat) =>
  ptrW (some ⟨b2, b3, none⟩) fun (b4 b5 : Nat) =>
  evV tS (loadV E0 S3 39 (.pointer (some ⟨b4, b5 + 0, none⟩))) fun (s2 : Sl) =>
  idxW s1.a s1.len n1 fun (b6 b7 : Nat) =>
  evV tT (loadV E0 S3 9 (.pointer (some ⟨b6, b7 + Int.toNat n1 * 1, none⟩))) fun (l1 : List UInt8) =>
  newW S3 (.cells [.string { data := List.toArray l1 }, .int .u64 0] none false none) fun (b8 : Nat) (S4 : St) =>
  evV tS (loadV E0 S4 39 (.pointer (some ⟨b4, b5 + 0, none⟩))) fun (s3 : Sl) =>
  sameV (.slice s3.a s3.len s3.cap) (.slice s2.a s2.len s2.cap)
  (evP tS (appendD E0 S4 39 39 (.slice s2.a s2.len s2.cap) (.slice (some ⟨b8, 0, none⟩) 1 1)) fun (s4 : Sl) (S5 : St) =>
  ptrW (some ⟨b1, 0, none⟩) fun (b9 b10 : Nat) =>
  ptrW (some ⟨b9, b10, none⟩) fun (b11 b12 : Nat) =>
  evS (storeV E0 S5 39 (.pointer (some ⟨b11, b12 + 0, none⟩)) (.slice s4.a s4.len s4.cap)) fun (S6 : St) => k1 (wrapI .i64 (n1 + 1)) S6))
  (k (.pointer (some ⟨b1, 0, none⟩)) S3))
  0 S2
theorem w4  {S : St} {k : Value → St → Prop} (h : c4  S k) : WC E0 4 [] S k :=
  WC_den h4 rfl (by kernel_rfl) (by kernel_rfl : Tryd.f4.body = some (bodyOf Tryd.f4)) (by rw [show (denF E0 h4 Tryd.f4 (bodyOf Tryd.f4) [] S k) = c4  S k by kernel_rfl]; exact h)

/-! 5 (*wagonway/tally.Tally).Packet -/
noncomputable def h5 : Hn := .no
def c5 (t_0 : Option Addr) (b_1 : Sl) (S : St) (k : Value → St → Prop) : Prop :=
  eqW E0 S 24 (.pointer t_0) (.pointer none) fun (t1 : Bool) =>
  ifW t1 (k (.tuple #[]) S)
  (evC E0 (TT.tup [Ty.agg G55, Ty.sc (Sc.int .i64)]) 16 [.slice b_1.a b_1.len b_1.cap] S
  fun (x1 : (Int × Int × Int × Int × Int × Int × Int × Int × Int × Int × Int × Int × Int × Int × Sl) × Int) (S1 : St) =>
  newW S1
  (.cells
  [.int .i64 0, .int .i64 0, .int .u32 0, .int .u32 0, .int .u32 0, .int .u32 0, .int .i64 0, .int .i64 0,
  .int .u32 0, .int .u64 0, .int .i64 0, .int .i64 0, .int .i64 0, .int .i64 0, .slice none 0 0]
  none false none)
  fun (b1 : Nat) (S2 : St) =>
  evS (storeV E0 S2 56 (.pointer (some ⟨b1, 0, none⟩)) (sv G55 x1.1)) fun (S3 : St) =>
  ifW (!eqI x1.2 0)
  (ptrW t_0 fun (b2 b3 : Nat) =>
  ptrW (some ⟨b2, b3, none⟩) fun (b4 b5 : Nat) =>
  idxW (some ⟨b4, b5 + 0, none⟩) 25 24 fun (b6 b7 : Nat) =>
  evC E0 tU 17 [.pointer (some ⟨b6, b7 + Int.toNat 24 * 1, none⟩), .int .u64 1] S3 fun (n1 : Int) (S4 : St) => k (.tuple #[]) S4)
  (ptrW (some ⟨b1, 0, none⟩) fun (b8 b9 : Nat) =>
  ptrW (some ⟨b8, b9 + 6, none⟩) fun (b10 b11 : Nat) =>
  evV tI (loadV E0 S3 3 (.pointer (some ⟨b10, b11 + 0, none⟩))) fun (n2 : Int) =>
  ptrW t_0 fun (b12 b13 : Nat) =>
  ptrW (some ⟨b12, b13, none⟩) fun (b14 b15 : Nat) =>
  idxW (some ⟨b14, b15 + 0, none⟩) 25 (wrapI .i64 (wrapI .i64 (13 + n2) - 1)) fun (b16 b17 : Nat) =>
  evC E0 tU 17 [.pointer (some ⟨b16, b17 + Int.toNat (wrapI .i64 (wrapI .i64 (13 + n2) - 1)) * 1, none⟩), .int .u64 1] S3 fun (n3 : Int) (S5 : St) =>
  k (.tuple #[]) S5))
theorem w5 (t_0 : Option Addr) (b_1 : Sl) {S : St} {k : Value → St → Prop} (h : c5 t_0 b_1 S k) : WC E0 5 [.pointer t_0, .slice b_1.a b_1.len b_1.cap] S k :=
  WC_den h5 rfl (by kernel_rfl) (by kernel_rfl : Tryd.f5.body = some (bodyOf Tryd.f5)) (by rw [show (denF E0 h5 Tryd.f5 (bodyOf Tryd.f5) [.pointer t_0, .slice b_1.a b_1.len b_1.cap] S k) = c5 t_0 b_1 S k by kernel_rfl]; exact h)

/-! 6 (*wagonway/wagonwayref29.Tally).Packet -/
noncomputable def h6 : Hn := .no
def c6 (t_0 : Option Addr) (b_1 : Sl) (S : St) (k : Value → St → Prop) : Prop :=
  evC E0 (TT.tup [Ty.agg G55, Ty.sc (Sc.int .i64)]) 18 [.slice b_1.a b_1.len b_1.cap] S fun (x1 : (Int × Int × Int × Int × Int × Int × Int × Int × Int × Int × Int × Int × Int × Int × Sl) × Int) (S1 : St) =>
  newW S1
  (.cells
  [.int .i64 0, .int .i64 0, .int .u32 0, .int .u32 0, .int .u32 0, .int .u32 0, .int .i64 0, .int .i64 0,
  .int .u32 0, .int .u64 0, .int .i64 0, .int .i64 0, .int .i64 0, .int .i64 0, .slice none 0 0]
  none false none)
  fun (b1 : Nat) (S2 : St) =>
  evS (storeV E0 S2 56 (.pointer (some ⟨b1, 0, none⟩)) (sv G55 x1.1)) fun (S3 : St) =>
  ifW (!eqI x1.2 0)
  (evC E0 (TT.tup []) 19
  [.pointer t_0,
  .string
  { data := #[UInt8.ofNat 112, UInt8.ofNat 97, UInt8.ofNat 99, UInt8.ofNat 107, UInt8.ofNat 101, UInt8.ofNat 116, UInt8.ofNat 46, UInt8.ofNat 110, UInt8.ofNat 111, UInt8.ofNat 110, UInt8.ofNat 101] }]
  S3 fun (x2 : PUnit) (S4 : St) => k (.tuple #[]) S4)
  (ptrW (some ⟨b1, 0, none⟩) fun (b2 b3 : Nat) =>
  ptrW (some ⟨b2, b3 + 6, none⟩) fun (b4 b5 : Nat) =>
  evV tI (loadV E0 S3 3 (.pointer (some ⟨b4, b5 + 0, none⟩))) fun (n1 : Int) =>
  evC E0 tT 20 [.int .i64 n1] S3 fun (l1 : List UInt8) (S5 : St) =>
  evV tT (catD { data := #[UInt8.ofNat 112, UInt8.ofNat 97, UInt8.ofNat 99, UInt8.ofNat 107, UInt8.ofNat 101, UInt8.ofNat 116, UInt8.ofNat 46] } { data := List.toArray l1 }) fun (l2 : List UInt8) =>
  evC E0 (TT.tup []) 19 [.pointer t_0, .string { data := List.toArray l2 }] S5 fun (x3 : PUnit) (S6 : St) => k (.tuple #[]) S6)
theorem w6 (t_0 : Option Addr) (b_1 : Sl) {S : St} {k : Value → St → Prop} (h : c6 t_0 b_1 S k) : WC E0 6 [.pointer t_0, .slice b_1.a b_1.len b_1.cap] S k :=
  WC_den h6 rfl (by kernel_rfl) (by kernel_rfl : Tryd.f6.body = some (bodyOf Tryd.f6)) (by rw [show (denF E0 h6 Tryd.f6 (bodyOf Tryd.f6) [.pointer t_0, .slice b_1.a b_1.len b_1.cap] S k) = c6 t_0 b_1 S k by kernel_rfl]; exact h)

/-! 7 (*wagonway/tally.Tally).Steps -/
noncomputable def h7 : Hn := (.n .no (.n (.n (.n .no (.n .no (.n (.n (.n .no (.n .no .no (some ⟨[0, 5, 6, 7, 8], [(23, .sc .bool)], false⟩)) none) .no none) .no none) none) none) .no (some ⟨[0, 6, 7], [(8, .sc (.int .i64))], false⟩)) .no none) none)
def c7 (t_0 : Option Addr) (l_1 : Sl) (S : St) (k : Value → St → Prop) : Prop :=
  loopW
  (fun (k1 : Int → St → Prop) (n1 : Int) (S1 : St) =>
  ifW (ltI n1 (↑l_1.len : Int))
  (idxW l_1.a l_1.len n1 fun (b1 b2 : Nat) =>
  evV (TT.one (Ty.agg G65)) (loadV E0 S1 66 (.pointer (some ⟨b1, b2 + Int.toNat n1 * 3, none⟩))) fun (x1 : Int × Int × Int) =>
  newW S1 (.cells [.int .i64 0, .int .i64 0, .int .i64 0] none false none) fun (b3 : Nat) (S2 : St) =>
  evS (storeV E0 S2 66 (.pointer (some ⟨b3, 0, none⟩)) (sv G65 x1)) fun (S3 : St) =>
  joinW
  (fun (t1 : Bool) (S4 : St) =>
  ifW t1
  (ptrW (some ⟨b3, 0, none⟩) fun (b4 b5 : Nat) =>
  evV tI (loadV E0 S4 3 (.pointer (some ⟨b4, b5 + 0, none⟩))) fun (n2 : Int) =>
  ptrW t_0 fun (b6 b7 : Nat) =>
  ptrW (some ⟨b6, b7, none⟩) fun (b8 b9 : Nat) =>
  idxW (some ⟨b8, b9 + 0, none⟩) 25 (wrapI .i64 (wrapI .i64 (10 + n2) - 1)) fun (b10 b11 : Nat) =>
  evC E0 tU 17 [.pointer (some ⟨b10, b11 + Int.toNat (wrapI .i64 (wrapI .i64 (10 + n2) - 1)) * 1, none⟩), .int .u64 1] S4 fun (n3 : Int) (S5 : St) =>
  k1 (wrapI .i64 (n1 + 1)) S5)
  (k1 (wrapI .i64 (n1 + 1)) S4))
  fun (k2 : Bool → St → Prop) =>
  eqW E0 S3 24 (.pointer t_0) (.pointer none) fun (t2 : Bool) =>
  ifW (!t2)
  (ptrW (some ⟨b3, 0, none⟩) fun (b12 b13 : Nat) =>
  evV tI (loadV E0 S3 3 (.pointer (some ⟨b12, b13 + 0, none⟩))) fun (n4 : Int) =>
  ifW (leI 1 n4) (ptrW (some ⟨b3, 0, none⟩) fun (b14 b15 : Nat) => evV tI (loadV E0 S3 3 (.pointer (some ⟨b14, b15 + 0, none⟩))) fun (n5 : Int) => k2 (leI n5 3) S3)
  (k2 false S3))
  (k2 false S3))
  (k (.tuple #[]) S1))
  0 S
theorem w7 (t_0 : Option Addr) (l_1 : Sl) {S : St} {k : Value → St → Prop} (h : c7 t_0 l_1 S k) : WC E0 7 [.pointer t_0, .slice l_1.a l_1.len l_1.cap] S k :=
  WC_den h7 rfl (by kernel_rfl) (by kernel_rfl : Tryd.f7.body = some (bodyOf Tryd.f7)) (by rw [show (denF E0 h7 Tryd.f7 (bodyOf Tryd.f7) [.pointer t_0, .slice l_1.a l_1.len l_1.cap] S k) = c7 t_0 l_1 S k by kernel_rfl]; exact h)

/-! 8 (*wagonway/wagonwayref29.Tally).Steps -/
noncomputable def h8 : Hn := (.n .no (.n (.n .no .no (some ⟨[0, 1], [(4, .sc (.int .i64))], false⟩)) .no none) none)
def c8 (t_0 : Option Addr) (l_1 : Sl) (S : St) (k : Value → St → Prop) : Prop :=
  loopW
  (fun (k1 : Int → St → Prop) (n1 : Int) (S1 : St) =>
  ifW (ltI n1 (↑l_1.len : Int))
  (idxW l_1.a l_1.len n1 fun (b1 b2 : Nat) =>
  ptrW (some ⟨b1, b2 + Int.toNat n1 * 3, none⟩) fun (b3 b4 : Nat) =>
  evV tI (loadV E0 S1 3 (.pointer (some ⟨b3, b4 + 0, none⟩))) fun (n2 : Int) =>
  ifW (eqI n2 1)
  (evC E0 (TT.tup []) 19
  [.pointer t_0,
  .string { data := #[UInt8.ofNat 115, UInt8.ofNat 116, UInt8.ofNat 101, UInt8.ofNat 112, UInt8.ofNat 46, UInt8.ofNat 103, UInt8.ofNat 114, UInt8.ofNat 97, UInt8.ofNat 110, UInt8.ofNat 116] }]
  S1 fun (x1 : PUnit) (S2 : St) => k1 (wrapI .i64 (n1 + 1)) S2)
  (ifW (eqI n2 2)
  (evC E0 (TT.tup []) 19
  [.pointer t_0,
  .string
  {
  data :=
  #[UInt8.ofNat 115, UInt8.ofNat 116, UInt8.ofNat 101, UInt8.ofNat 112, UInt8.ofNat 46, UInt8.ofNat 114, UInt8.ofNat 101, UInt8.ofNat 108, UInt8.ofNat 101, UInt8.ofNat 97, UInt8.ofNat 115,
  UInt8.ofNat 101] }]
  S1 fun (x2 : PUnit) (S3 : St) => k1 (wrapI .i64 (n1 + 1)) S3)
  (ifW (eqI n2 3)
  (evC E0 (TT.tup []) 19
  [.pointer t_0, .string { data := #[UInt8.ofNat 115, UInt8.ofNat 116, UInt8.ofNat 101, UInt8.ofNat 112, UInt8.ofNat 46, UInt8.ofNat 109, UInt8.ofNat 111, UInt8.ofNat 118, UInt8.ofNat 101] }]
  S1 fun (x3 : PUnit) (S4 : St) => k1 (wrapI .i64 (n1 + 1)) S4)
  (k1 (wrapI .i64 (n1 + 1)) S1))))
  (k (.tuple #[]) S1))
  0 S
theorem w8 (t_0 : Option Addr) (l_1 : Sl) {S : St} {k : Value → St → Prop} (h : c8 t_0 l_1 S k) : WC E0 8 [.pointer t_0, .slice l_1.a l_1.len l_1.cap] S k :=
  WC_den h8 rfl (by kernel_rfl) (by kernel_rfl : Tryd.f8.body = some (bodyOf Tryd.f8)) (by rw [show (denF E0 h8 Tryd.f8 (bodyOf Tryd.f8) [.pointer t_0, .slice l_1.a l_1.len l_1.cap] S k) = c8 t_0 l_1 S k by kernel_rfl]; exact h)

/-! 9 (*wagonway/tally.Tally).Get -/
noncomputable def h9 : Hn := (.n .no (.n (.n .no (.n .no (.n (.n .no (.n (.n .no .no (some ⟨[], [(10, .sc (.int .i64)), (11, .sc .str)], false⟩)) .no none) none) .no (some ⟨[0, 6], [], true⟩)) none) none) .no none) none)
def c9 (t_0 : Option Addr) (name_1 : List UInt8) (S : St) (k : Value → St → Prop) : Prop :=
  newW S (.cells [.string { data := List.toArray name_1 }] none false none) fun (b1 : Nat) (S1 : St) =>
  newW S1 (.cells [.int .i64 0] none false none) fun (b2 : Nat) (S2 : St) =>
  evS (storeV E0 S2 3 (.pointer (some ⟨b2, 0, none⟩)) (.int .i64 (-1))) fun (S3 : St) =>
  joinW
  (fun (x1 : List Nat × PUnit) (S4 : St) =>
  eqW E0 S4 24 (.pointer t_0) (.pointer none) fun (t1 : Bool) =>
  ifW t1 (shutW x1.1 S4 fun (S5 : St) => k (.tuple #[.int .u64 0, .bool false]) S5)
  (evV tI (loadV E0 S4 3 (.pointer (some ⟨b2, 0, none⟩))) fun (n1 : Int) =>
  ifW (ltI n1 0) (shutW x1.1 S4 fun (S6 : St) => k (.tuple #[.int .u64 0, .bool false]) S6)
  (evV tI (loadV E0 S4 3 (.pointer (some ⟨b2, 0, none⟩))) fun (n2 : Int) =>
  ptrW t_0 fun (b3 b4 : Nat) =>
  ptrW (some ⟨b3, b4, none⟩) fun (b5 b6 : Nat) =>
  idxW (some ⟨b5, b6 + 0, none⟩) 25 n2 fun (b7 b8 : Nat) =>
  evC E0 tU 22 [.pointer (some ⟨b7, b8 + Int.toNat n2 * 1, none⟩)] S4 fun (n3 : Int) (S7 : St) =>
  shutW x1.1 S7 fun (S8 : St) => k (.tuple #[.int .u64 n3, .bool true]) S8)))
  fun (k1 : List Nat × PUnit → St → Prop) =>
  evC E0 tA 21 [] S3 fun (v1 : Value) (S9 : St) =>
  newW S9 DObj.deferred fun (b9 : Nat) (S10 : St) =>
  ∀ (b10 : Nat) (S11 : St) (k2 : LoopState → Option Code → DObj),
  b10 = S10.next →
  S11 = (St.alloc S10 (k2 LoopState.ready none)).2 →
  (LoopL fun (x2 : LoopState) (p1 : Option Code) => k2 x2 p1) →
  (RoundH E0 b10 [Ty.sc (Sc.int .i64), Ty.sc Sc.str] fun (x3 : Int × List UInt8) (S12 : St) (k3 : Bool → St → Prop) =>
  hasW S12 b10 (k2 LoopState.ready none)
  (hasW S12 b10 (k2 LoopState.ready none)
  (updW S12 b10 (k2 LoopState.busy none) fun (S13 : St) =>
  evV tT (loadV E0 S13 9 (.pointer (some ⟨b1, 0, none⟩))) fun (l1 : List UInt8) =>
  ifW (x3.2 == l1)
  (evS (storeV E0 S13 3 (.pointer (some ⟨b2, 0, none⟩)) (.int .i64 x3.1)) fun (S14 : St) =>
  hasW S14 b10 (k2 LoopState.busy none) (updW S14 b10 (k2 LoopState.done (some (Code.exit 0))) fun (S15 : St) => k3 false S15))
  (hasW S13 b10 (k2 LoopState.busy none) (updW S13 b10 (k2 LoopState.ready none) fun (S16 : St) => k3 true S16))))) →
  WG E0 v1 b10 S11 fun (S17 : St) =>
  hasW S17 b10 (k2 LoopState.ready none) (updW S17 b10 (k2 LoopState.exhausted none) fun (S18 : St) => k1 ([b9], PUnit.unit) S18) ∨
  hasW S17 b10 (k2 LoopState.done (some (Code.exit 0))) (updW S17 b10 (k2 LoopState.exhausted (some (Code.exit 0))) fun (S19 : St) => k1 ([b9], PUnit.unit) S19) ∨ False
theorem w9 (t_0 : Option Addr) (name_1 : List UInt8) {S : St} {k : Value → St → Prop} (h : c9 t_0 name_1 S k) : WC E0 9 [.pointer t_0, .string ⟨name_1.toArray⟩] S k :=
  WC_den h9 rfl (by kernel_rfl) (by kernel_rfl : Tryd.f9.body = some (bodyOf Tryd.f9)) (by rw [show (denF E0 h9 Tryd.f9 (bodyOf Tryd.f9) [.pointer t_0, .string ⟨name_1.toArray⟩] S k) = c9 t_0 name_1 S k by kernel_rfl]; exact h)

/-! 10 (*wagonway/tally.Tally).All -/
noncomputable def h10 : Hn := (.n .no (.n .no (.n .no (.n (.n .no (.n (.n .no .no (some ⟨[0], [(3, .sc (.int .u64)), (7, .sc (.int .i64))], false⟩)) .no none) none) .no none) none) none) none)
def c10 (t_0 : Option Addr) (S : St) (k : Value → St → Prop) : Prop :=
  eqW E0 S 24 (.pointer t_0) (.pointer none) fun (t1 : Bool) =>
  ifW t1 (k (.int .u64 0) S)
  (loopW
  (fun (k1 : Int × Int → St → Prop) (x1 : Int × Int) (S1 : St) =>
  ifW (ltI x1.2 25)
  (ptrW t_0 fun (b1 b2 : Nat) =>
  ptrW (some ⟨b1, b2, none⟩) fun (b3 b4 : Nat) =>
  idxW (some ⟨b3, b4 + 0, none⟩) 25 x1.2 fun (b5 b6 : Nat) =>
  evC E0 tU 22 [.pointer (some ⟨b5, b6 + Int.toNat x1.2 * 1, none⟩)] S1 fun (n1 : Int) (S2 : St) => k1 (wrapI .u64 (x1.1 + n1), wrapI .i64 (x1.2 + 1)) S2)
  (k (.int .u64 x1.1) S1))
  (0, 0) S)
theorem w10 (t_0 : Option Addr) {S : St} {k : Value → St → Prop} (h : c10 t_0 S k) : WC E0 10 [.pointer t_0] S k :=
  WC_den h10 rfl (by kernel_rfl) (by kernel_rfl : Tryd.f10.body = some (bodyOf Tryd.f10)) (by rw [show (denF E0 h10 Tryd.f10 (bodyOf Tryd.f10) [.pointer t_0] S k) = c10 t_0 S k by kernel_rfl]; exact h)

/-! 11 wagonway/wagonwayref29.Same -/
noncomputable def h11 : Hn := (.n .no (.n .no (.n (.n .no (.n (.n .no .no (some ⟨[0, 1], [(5, .sc (.int .i64))], false⟩)) .no none) none) .no none) none) none)
def c11 (a_0 : Sl) (b_1 : Sl) (S : St) (k : Value → St → Prop) : Prop :=
  ifW (!eqI (↑a_0.len : Int) (↑b_1.len : Int)) (k (.bool false) S)
  (loopW
  (fun (k1 : Int → St → Prop) (n1 : Int) (S1 : St) =>
  ifW (ltI n1 (↑a_0.len : Int))
  (idxW a_0.a a_0.len n1 fun (b1 b2 : Nat) =>
  evV tT (loadV E0 S1 9 (.pointer (some ⟨b1, b2 + Int.toNat n1 * 1, none⟩))) fun (l1 : List UInt8) =>
  idxW b_1.a b_1.len n1 fun (b3 b4 : Nat) =>
  evV tT (loadV E0 S1 9 (.pointer (some ⟨b3, b4 + Int.toNat n1 * 1, none⟩))) fun (l2 : List UInt8) => ifW (!l1 == l2) (k (.bool false) S1) (k1 (wrapI .i64 (n1 + 1)) S1))
  (k (.bool true) S1))
  0 S)
theorem w11 (a_0 : Sl) (b_1 : Sl) {S : St} {k : Value → St → Prop} (h : c11 a_0 b_1 S k) : WC E0 11 [.slice a_0.a a_0.len a_0.cap, .slice b_1.a b_1.len b_1.cap] S k :=
  WC_den h11 rfl (by kernel_rfl) (by kernel_rfl : Tryd.f11.body = some (bodyOf Tryd.f11)) (by rw [show (denF E0 h11 Tryd.f11 (bodyOf Tryd.f11) [.slice a_0.a a_0.len a_0.cap, .slice b_1.a b_1.len b_1.cap] S k) = c11 a_0 b_1 S k by kernel_rfl]; exact h)

/-! 12 (*wagonway/tally.Tally).Lines -/
noncomputable def h12 : Hn := (.n .no (.n .no (.n .no (.n (.n .no (.n (.n .no .no (some ⟨[], [(10, .sc (.int .i64)), (11, .sc .str)], false⟩)) .no none) none) .no none) none) none) none)
def c12 (t_0 : Option Addr) (S : St) (k : Value → St → Prop) : Prop :=
  newW S (.cells [.pointer t_0] none false none) fun (b1 : Nat) (S1 : St) =>
  newW S1 (.cells [.slice none 0 0] none false none) fun (b2 : Nat) (S2 : St) =>
  evV tP (loadV E0 S2 24 (.pointer (some ⟨b1, 0, none⟩))) fun (p1 : Option Addr) =>
  eqW E0 S2 24 (.pointer p1) (.pointer none) fun (t1 : Bool) =>
  ifW t1 (k (.slice none 0 0) S2)
  (evC E0 tA 21 [] S2 fun (v1 : Value) (S3 : St) =>
  newW S3 DObj.deferred fun (b3 : Nat) (S4 : St) =>
  ∀ (b4 : Nat) (S5 : St) (k1 : LoopState → Option Code → DObj),
  b4 = S4.next →
  S5 = (St.alloc S4 (k1 LoopState.ready none)).2 →
  (LoopL fun (x1 : LoopState) (p2 : Option Code) => k1 x1 p2) →
  (RoundH E0 b4 [Ty.sc (Sc.int .i64), Ty.sc Sc.str] fun (x2 : Int × List UInt8) (S6 : St) (k2 : Bool → St → Prop) =>
  hasW S6 b4 (k1 LoopState.ready none)
  (hasW S6 b4 (k1 LoopState.ready none)
  (updW S6 b4 (k1 LoopState.busy none) fun (S7 : St) =>
  evV tP (loadV E0 S7 24 (.pointer (some ⟨b1, 0, none⟩))) fun (p3 : Option Addr) =>
  ptrW p3 fun (b5 b6 : Nat) =>
  ptrW (some ⟨b5, b6, none⟩) fun (b7 b8 : Nat) =>
  idxW (some ⟨b7, b8 + 0, none⟩) 25 x2.1 fun (b9 b10 : Nat) =>
  evC E0 tU 22 [.pointer (some ⟨b9, b10 + Int.toNat x2.1 * 1, none⟩)] S7 fun (n1 : Int) (S8 : St) =>
  ifW (ltI 0 n1)
  (evV tS (loadV E0 S8 48 (.pointer (some ⟨b2, 0, none⟩))) fun (s1 : Sl) =>
  evV tT (catD { data := List.toArray x2.2 } { data := #[UInt8.ofNat 32] }) fun (l1 : List UInt8) =>
  evC E0 tT 23 [.int .u64 n1, .int .i64 10] S8 fun (l2 : List UInt8) (S9 : St) =>
  evV tS (loadV E0 S9 48 (.pointer (some ⟨b2, 0, none⟩))) fun (s2 : Sl) =>
  sameV (.slice s2.a s2.len s2.cap) (.slice s1.a s1.len s1.cap)
  (evV tT (catD { data := List.toArray l1 } { data := List.toArray l2 }) fun (l3 : List UInt8) =>
  newW S9 (.cells [.string { data := List.toArray l3 }] none false none) fun (b11 : Nat) (S10 : St) =>
  evV tS (loadV E0 S10 48 (.pointer (some ⟨b2, 0, none⟩))) fun (s3 : Sl) =>
  sameV (.slice s3.a s3.len s3.cap) (.slice s1.a s1.len s1.cap)
  (evP tS (appendD E0 S10 48 48 (.slice s1.a s1.len s1.cap) (.slice (some ⟨b11, 0, none⟩) 1 1)) fun (s4 : Sl) (S11 : St) =>
  evS (storeV E0 S11 48 (.pointer (some ⟨b2, 0, none⟩)) (.slice s4.a s4.len s4.cap)) fun (S12 : St) =>
  hasW S12 b4 (k1 LoopState.busy none) (updW S12 b4 (k1 LoopState.ready none) fun (S13 : St) => k2 true S13))))
  (hasW S8 b4 (k1 LoopState.busy none) (updW S8 b4 (k1 LoopState.ready none) fun (S14 : St) => k2 true S14))))) →
  WG E0 v1 b4 S5 fun (S15 : St) =>
  hasW S15 b4 (k1 LoopState.ready none)
  (updW S15 b4 (k1 LoopState.exhausted none) fun (S16 : St) =>
  evV tS (loadV E0 S16 48 (.pointer (some ⟨b2, 0, none⟩))) fun (s5 : Sl) =>
  hasW S16 b3 DObj.deferred (updW S16 b3 DObj.dead fun (S17 : St) => k (.slice s5.a s5.len s5.cap) S17)) ∨
  False)
theorem w12 (t_0 : Option Addr) {S : St} {k : Value → St → Prop} (h : c12 t_0 S k) : WC E0 12 [.pointer t_0] S k :=
  WC_den h12 rfl (by kernel_rfl) (by kernel_rfl : Tryd.f12.body = some (bodyOf Tryd.f12)) (by rw [show (denF E0 h12 Tryd.f12 (bodyOf Tryd.f12) [.pointer t_0] S k) = c12 t_0 S k by kernel_rfl]; exact h)

/-! 13 (*wagonway/wagonwayref29.Tally).Lines -/
noncomputable def h13 : Hn := (.n .no (.n .no (.n (.n .no (.n (.n .no .no (some ⟨[0], [(3, .sc .sl), (4, .sc (.int .i64))], false⟩)) .no none) none) .no none) none) none)
def c13 (t_0 : Option Addr) (S : St) (k : Value → St → Prop) : Prop :=
  loopW
  (fun (k1 : Sl × Int → St → Prop) (x1 : Sl × Int) (S1 : St) =>
  ptrW t_0 fun (b1 b2 : Nat) =>
  ptrW (some ⟨b1, b2, none⟩) fun (b3 b4 : Nat) =>
  evV tS (loadV E0 S1 39 (.pointer (some ⟨b3, b4 + 0, none⟩))) fun (s1 : Sl) =>
  ifW (ltI x1.2 (↑s1.len : Int))
  (ptrW t_0 fun (b5 b6 : Nat) =>
  ptrW (some ⟨b5, b6, none⟩) fun (b7 b8 : Nat) =>
  evV tS (loadV E0 S1 39 (.pointer (some ⟨b7, b8 + 0, none⟩))) fun (s2 : Sl) =>
  idxW s2.a s2.len x1.2 fun (b9 b10 : Nat) =>
  ptrW (some ⟨b9, b10 + Int.toNat x1.2 * 2, none⟩) fun (b11 b12 : Nat) =>
  evV tU (loadV E0 S1 28 (.pointer (some ⟨b11, b12 + 1, none⟩))) fun (n1 : Int) =>
  ifW (ltI 0 n1)
  (ptrW t_0 fun (b13 b14 : Nat) =>
  ptrW (some ⟨b13, b14, none⟩) fun (b15 b16 : Nat) =>
  evV tS (loadV E0 S1 39 (.pointer (some ⟨b15, b16 + 0, none⟩))) fun (s3 : Sl) =>
  idxW s3.a s3.len x1.2 fun (b17 b18 : Nat) =>
  ptrW (some ⟨b17, b18 + Int.toNat x1.2 * 2, none⟩) fun (b19 b20 : Nat) =>
  evV tT (loadV E0 S1 9 (.pointer (some ⟨b19, b20 + 0, none⟩))) fun (l1 : List UInt8) =>
  evV tT (catD { data := List.toArray l1 } { data := #[UInt8.ofNat 32] }) fun (l2 : List UInt8) =>
  ptrW t_0 fun (b21 b22 : Nat) =>
  ptrW (some ⟨b21, b22, none⟩) fun (b23 b24 : Nat) =>
  evV tS (loadV E0 S1 39 (.pointer (some ⟨b23, b24 + 0, none⟩))) fun (s4 : Sl) =>
  idxW s4.a s4.len x1.2 fun (b25 b26 : Nat) =>
  ptrW (some ⟨b25, b26 + Int.toNat x1.2 * 2, none⟩) fun (b27 b28 : Nat) =>
  evV tU (loadV E0 S1 28 (.pointer (some ⟨b27, b28 + 1, none⟩))) fun (n2 : Int) =>
  evC E0 tT 24 [.int .u64 n2] S1 fun (l3 : List UInt8) (S2 : St) =>
  evV tT (loadV E0 S2 9 (.pointer (some ⟨b19, b20 + 0, none⟩))) fun (l4 : List UInt8) =>
  sameV (.string { data := List.toArray l4 }) (.string { data := List.toArray l1 })
  (evV tS (loadV E0 S2 39 (.pointer (some ⟨b15, b16 + 0, none⟩))) fun (s5 : Sl) =>
  sameV (.slice s5.a s5.len s5.cap) (.slice s3.a s3.len s3.cap)
  (evV tT (catD { data := List.toArray l2 } { data := List.toArray l3 }) fun (l5 : List UInt8) =>
  newW S2 (.cells [.string { data := List.toArray l5 }] none false none) fun (b29 : Nat) (S3 : St) =>
  evP tS (appendD E0 S3 48 48 (.slice x1.1.a x1.1.len x1.1.cap) (.slice (some ⟨b29, 0, none⟩) 1 1)) fun (s6 : Sl) (S4 : St) =>
  k1 ({ a := s6.a, len := s6.len, cap := s6.cap }, wrapI .i64 (x1.2 + 1)) S4)))
  (k1 ({ a := x1.1.a, len := x1.1.len, cap := x1.1.cap }, wrapI .i64 (x1.2 + 1)) S1))
  (k (.slice x1.1.a x1.1.len x1.1.cap) S1))
  ({ a := none, len := 0, cap := 0 }, 0) S
theorem w13 (t_0 : Option Addr) {S : St} {k : Value → St → Prop} (h : c13 t_0 S k) : WC E0 13 [.pointer t_0] S k :=
  WC_den h13 rfl (by kernel_rfl) (by kernel_rfl : Tryd.f13.body = some (bodyOf Tryd.f13)) (by rw [show (denF E0 h13 Tryd.f13 (bodyOf Tryd.f13) [.pointer t_0] S k) = c13 t_0 S k by kernel_rfl]; exact h)

/-! 14 wagonway/tally.Names -/
noncomputable def h14 : Hn := (.n .no (.n .no (.n (.n .no (.n (.n .no .no (some ⟨[], [(5, .sc (.int .i64)), (6, .sc .str)], false⟩)) .no none) none) .no none) none) none)
def c14  (S : St) (k : Value → St → Prop) : Prop :=
  newW S (.cells [.slice none 0 0] none false none) fun (b1 : Nat) (S1 : St) =>
  evC E0 tA 21 [] S1 fun (v1 : Value) (S2 : St) =>
  newW S2 DObj.deferred fun (b2 : Nat) (S3 : St) =>
  ∀ (b3 : Nat) (S4 : St) (k1 : LoopState → Option Code → DObj),
  b3 = S3.next →
  S4 = (St.alloc S3 (k1 LoopState.ready none)).2 →
  (LoopL fun (x1 : LoopState) (p1 : Option Code) => k1 x1 p1) →
  (RoundH E0 b3 [Ty.sc (Sc.int .i64), Ty.sc Sc.str] fun (x2 : Int × List UInt8) (S5 : St) (k2 : Bool → St → Prop) =>
  hasW S5 b3 (k1 LoopState.ready none)
  (hasW S5 b3 (k1 LoopState.ready none)
  (updW S5 b3 (k1 LoopState.busy none) fun (S6 : St) =>
  evV tS (loadV E0 S6 48 (.pointer (some ⟨b1, 0, none⟩))) fun (s1 : Sl) =>
  newW S6 (.cells [.string { data := List.toArray x2.2 }] none false none) fun (b4 : Nat) (S7 : St) =>
  evP tS (appendD E0 S7 48 48 (.slice s1.a s1.len s1.cap) (.slice (some ⟨b4, 0, none⟩) 1 1)) fun (s2 : Sl) (S8 : St) =>
  evS (storeV E0 S8 48 (.pointer (some ⟨b1, 0, none⟩)) (.slice s2.a s2.len s2.cap)) fun (S9 : St) =>
  hasW S9 b3 (k1 LoopState.busy none) (updW S9 b3 (k1 LoopState.ready none) fun (S10 : St) => k2 true S10)))) →
  WG E0 v1 b3 S4 fun (S11 : St) =>
  hasW S11 b3 (k1 LoopState.ready none)
  (updW S11 b3 (k1 LoopState.exhausted none) fun (S12 : St) =>
  evV tS (loadV E0 S12 48 (.pointer (some ⟨b1, 0, none⟩))) fun (s3 : Sl) =>
  hasW S12 b2 DObj.deferred (updW S12 b2 DObj.dead fun (S13 : St) => k (.slice s3.a s3.len s3.cap) S13)) ∨
  False
theorem w14  {S : St} {k : Value → St → Prop} (h : c14  S k) : WC E0 14 [] S k :=
  WC_den h14 rfl (by kernel_rfl) (by kernel_rfl : Tryd.f14.body = some (bodyOf Tryd.f14)) (by rw [show (denF E0 h14 Tryd.f14 (bodyOf Tryd.f14) [] S k) = c14  S k by kernel_rfl]; exact h)

/-! 15 wagonway/wagonwayref29.Names -/
noncomputable def h15 : Hn := (.n .no (.n .no (.n (.n .no (.n (.n .no .no (some ⟨[], [(1, .sc .sl), (2, .sc (.int .i64))], false⟩)) .no none) none) (.n .no (.n (.n .no (.n (.n .no .no (some ⟨[], [(1, .sc .sl), (3, .sc (.int .i64))], false⟩)) .no none) none) .no none) none) none) none) none)
def c15  (S : St) (k : Value → St → Prop) : Prop :=
  loopW
  (fun (k1 : Sl × Int → St → Prop) (x1 : Sl × Int) (S1 : St) =>
  ifW (leI x1.2 9)
  (evC E0 tT 25 [.int .i64 x1.2] S1 fun (l1 : List UInt8) (S2 : St) =>
  evV tT (catD { data := #[UInt8.ofNat 111, UInt8.ofNat 114, UInt8.ofNat 100, UInt8.ofNat 101, UInt8.ofNat 114, UInt8.ofNat 46] } { data := List.toArray l1 }) fun (l2 : List UInt8) =>
  newW S2 (.cells [.string { data := List.toArray l2 }] none false none) fun (b1 : Nat) (S3 : St) =>
  evP tS (appendD E0 S3 48 48 (.slice x1.1.a x1.1.len x1.1.cap) (.slice (some ⟨b1, 0, none⟩) 1 1)) fun (s1 : Sl) (S4 : St) =>
  k1 ({ a := s1.a, len := s1.len, cap := s1.cap }, wrapI .i64 (x1.2 + 1)) S4)
  (newW S1
  (.cells
  [.string { data := #[UInt8.ofNat 101, UInt8.ofNat 114, UInt8.ofNat 114, UInt8.ofNat 111, UInt8.ofNat 114, UInt8.ofNat 115] },
  .string { data := #[UInt8.ofNat 115, UInt8.ofNat 116, UInt8.ofNat 101, UInt8.ofNat 112, UInt8.ofNat 46, UInt8.ofNat 103, UInt8.ofNat 114, UInt8.ofNat 97, UInt8.ofNat 110, UInt8.ofNat 116] },
  .string
  {
  data :=
  #[UInt8.ofNat 115, UInt8.ofNat 116, UInt8.ofNat 101, UInt8.ofNat 112, UInt8.ofNat 46, UInt8.ofNat 114, UInt8.ofNat 101, UInt8.ofNat 108, UInt8.ofNat 101, UInt8.ofNat 97, UInt8.ofNat 115,
  UInt8.ofNat 101] },
  .string { data := #[UInt8.ofNat 115, UInt8.ofNat 116, UInt8.ofNat 101, UInt8.ofNat 112, UInt8.ofNat 46, UInt8.ofNat 109, UInt8.ofNat 111, UInt8.ofNat 118, UInt8.ofNat 101] }]
  none false none)
  fun (b2 : Nat) (S5 : St) =>
  evP tS (appendD E0 S5 48 48 (.slice x1.1.a x1.1.len x1.1.cap) (.slice (some ⟨b2, 0, none⟩) 4 4)) fun (s2 : Sl) (S6 : St) =>
  loopW
  (fun (k2 : Sl × Int → St → Prop) (x2 : Sl × Int) (S7 : St) =>
  ifW (leI x2.2 11)
  (evC E0 tT 20 [.int .i64 x2.2] S7 fun (l3 : List UInt8) (S8 : St) =>
  evV tT (catD { data := #[UInt8.ofNat 112, UInt8.ofNat 97, UInt8.ofNat 99, UInt8.ofNat 107, UInt8.ofNat 101, UInt8.ofNat 116, UInt8.ofNat 46] } { data := List.toArray l3 }) fun (l4 : List UInt8) =>
  newW S8 (.cells [.string { data := List.toArray l4 }] none false none) fun (b3 : Nat) (S9 : St) =>
  evP tS (appendD E0 S9 48 48 (.slice x2.1.a x2.1.len x2.1.cap) (.slice (some ⟨b3, 0, none⟩) 1 1)) fun (s3 : Sl) (S10 : St) =>
  k2 ({ a := s3.a, len := s3.len, cap := s3.cap }, wrapI .i64 (x2.2 + 1)) S10)
  (newW S7
  (.cells
  [.string
  {
  data :=
  #[UInt8.ofNat 112, UInt8.ofNat 97, UInt8.ofNat 99, UInt8.ofNat 107, UInt8.ofNat 101, UInt8.ofNat 116, UInt8.ofNat 46, UInt8.ofNat 110, UInt8.ofNat 111, UInt8.ofNat 110, UInt8.ofNat 101] }]
  none false none)
  fun (b4 : Nat) (S11 : St) =>
  evP tS (appendD E0 S11 48 48 (.slice x2.1.a x2.1.len x2.1.cap) (.slice (some ⟨b4, 0, none⟩) 1 1)) fun (s4 : Sl) (S12 : St) => k (.slice s4.a s4.len s4.cap) S12))
  ({ a := s2.a, len := s2.len, cap := s2.cap }, 1) S6))
  ({ a := none, len := 0, cap := 0 }, 1) S
theorem w15  {S : St} {k : Value → St → Prop} (h : c15  S k) : WC E0 15 [] S k :=
  WC_den h15 rfl (by kernel_rfl) (by kernel_rfl : Tryd.f15.body = some (bodyOf Tryd.f15)) (by rw [show (denF E0 h15 Tryd.f15 (bodyOf Tryd.f15) [] S k) = c15  S k by kernel_rfl]; exact h)

/-! 19 (*wagonway/wagonwayref29.Tally).One -/
noncomputable def h19 : Hn := (.n .no (.n (.n .no .no (some ⟨[0, 1], [(4, .sc (.int .i64))], false⟩)) .no none) none)
def c19 (t_0 : Option Addr) (name_1 : List UInt8) (S : St) (k : Value → St → Prop) : Prop :=
  loopW
  (fun (k1 : Int → St → Prop) (n1 : Int) (S1 : St) =>
  ptrW t_0 fun (b1 b2 : Nat) =>
  ptrW (some ⟨b1, b2, none⟩) fun (b3 b4 : Nat) =>
  evV tS (loadV E0 S1 39 (.pointer (some ⟨b3, b4 + 0, none⟩))) fun (s1 : Sl) =>
  ifW (ltI n1 (↑s1.len : Int))
  (ptrW t_0 fun (b5 b6 : Nat) =>
  ptrW (some ⟨b5, b6, none⟩) fun (b7 b8 : Nat) =>
  evV tS (loadV E0 S1 39 (.pointer (some ⟨b7, b8 + 0, none⟩))) fun (s2 : Sl) =>
  idxW s2.a s2.len n1 fun (b9 b10 : Nat) =>
  ptrW (some ⟨b9, b10 + Int.toNat n1 * 2, none⟩) fun (b11 b12 : Nat) =>
  evV tT (loadV E0 S1 9 (.pointer (some ⟨b11, b12 + 0, none⟩))) fun (l1 : List UInt8) =>
  ifW (l1 == name_1)
  (ptrW t_0 fun (b13 b14 : Nat) =>
  ptrW (some ⟨b13, b14, none⟩) fun (b15 b16 : Nat) =>
  evV tS (loadV E0 S1 39 (.pointer (some ⟨b15, b16 + 0, none⟩))) fun (s3 : Sl) =>
  idxW s3.a s3.len n1 fun (b17 b18 : Nat) =>
  ptrW (some ⟨b17, b18 + Int.toNat n1 * 2, none⟩) fun (b19 b20 : Nat) =>
  evV tU (loadV E0 S1 28 (.pointer (some ⟨b19, b20 + 1, none⟩))) fun (n2 : Int) =>
  idxW s3.a s3.len n1 fun (b21 b22 : Nat) =>
  ptrW (some ⟨b21, b22 + Int.toNat n1 * 2, none⟩) fun (b23 b24 : Nat) =>
  evS (storeV E0 S1 28 (.pointer (some ⟨b23, b24 + 1, none⟩)) (.int .u64 (wrapI .u64 (n2 + 1)))) fun (S2 : St) =>
  k1 (wrapI .i64 (n1 + 1)) S2)
  (k1 (wrapI .i64 (n1 + 1)) S1))
  (k (.tuple #[]) S1))
  0 S
theorem w19 (t_0 : Option Addr) (name_1 : List UInt8) {S : St} {k : Value → St → Prop} (h : c19 t_0 name_1 S k) : WC E0 19 [.pointer t_0, .string ⟨name_1.toArray⟩] S k :=
  WC_den h19 rfl (by kernel_rfl) (by kernel_rfl : Tryd.f19.body = some (bodyOf Tryd.f19)) (by rw [show (denF E0 h19 Tryd.f19 (bodyOf Tryd.f19) [.pointer t_0, .string ⟨name_1.toArray⟩] S k) = c19 t_0 name_1 S k by kernel_rfl]; exact h)

/-! 21 wagonway/tally.names -/
noncomputable def h21 : Hn := .no
def c21  (S : St) (k : Value → St → Prop) : Prop :=
  k (.func (Fn.func 34) #[] #[]) S
theorem w21  {S : St} {k : Value → St → Prop} (h : c21  S k) : WC E0 21 [] S k :=
  WC_den h21 rfl (by kernel_rfl) (by kernel_rfl : Tryd.f21.body = some (bodyOf Tryd.f21)) (by rw [show (denF E0 h21 Tryd.f21 (bodyOf Tryd.f21) [] S k) = c21  S k by kernel_rfl]; exact h)

/-! 23 strconv.FormatUint -/
noncomputable def h23 : Hn := .no
def c23 (i_0 : Int) (base_1 : Int) (S : St) (k : Value → St → Prop) : Prop :=
  evC E0 tT 37 [.int .u64 i_0, .int .i64 base_1] S fun (l1 : List UInt8) (S1 : St) => k (.string { data := List.toArray l1 }) S1
theorem w23 (i_0 : Int) (base_1 : Int) {S : St} {k : Value → St → Prop} (h : c23 i_0 base_1 S k) : WC E0 23 [.int .u64 i_0, .int .i64 base_1] S k :=
  WC_den h23 rfl (by kernel_rfl) (by kernel_rfl : Tryd.f23.body = some (bodyOf Tryd.f23)) (by rw [show (denF E0 h23 Tryd.f23 (bodyOf Tryd.f23) [.int .u64 i_0, .int .i64 base_1] S k) = c23 i_0 base_1 S k by kernel_rfl]; exact h)

/-! 24 wagonway/wagonwayref29.digits -/
noncomputable def h24 : Hn := (.n .no (.n .no (.n (.n .no (.n (.n .no .no (some ⟨[], [(0, .sc (.int .u64)), (3, .sc .str), (4, .sc (.int .i64))], false⟩)) .no none) none) .no none) none) none)
def c24 (n_0 : Int) (S : St) (k : Value → St → Prop) : Prop :=
  loopW
  (fun (k1 : Int × List UInt8 × Int → St → Prop) (x1 : Int × List UInt8 × Int) (S1 : St) =>
  ifW (ltI x1.2.2 20)
  (ifW (ltI 0 x1.1)
  (needW true
  (newW S1 (.cells [.int .u8 (wrapI .u8 (wrapI .u64 (48 + Int.tmod x1.1 10)))] none false none) fun (b1 : Nat) (S2 : St) =>
  evP tT (convertD E0 S2 36 9 (.slice (some ⟨b1, 0, none⟩) 1 1)) fun (l1 : List UInt8) (S3 : St) =>
  evV tT (catD { data := List.toArray l1 } { data := List.toArray x1.2.1 }) fun (l2 : List UInt8) => needW true (k1 (wrapI .u64 (Int.tdiv x1.1 10), l2, wrapI .i64 (x1.2.2 + 1)) S3)))
  (ifW (x1.2.1 == [])
  (needW true
  (newW S1 (.cells [.int .u8 (wrapI .u8 (wrapI .u64 (48 + Int.tmod x1.1 10)))] none false none) fun (b2 : Nat) (S4 : St) =>
  evP tT (convertD E0 S4 36 9 (.slice (some ⟨b2, 0, none⟩) 1 1)) fun (l3 : List UInt8) (S5 : St) =>
  evV tT (catD { data := List.toArray l3 } { data := List.toArray x1.2.1 }) fun (l4 : List UInt8) => needW true (k1 (wrapI .u64 (Int.tdiv x1.1 10), l4, wrapI .i64 (x1.2.2 + 1)) S5)))
  (k (.string { data := List.toArray x1.2.1 }) S1)))
  (k (.string { data := List.toArray x1.2.1 }) S1))
  (n_0, [], 0) S
theorem w24 (n_0 : Int) {S : St} {k : Value → St → Prop} (h : c24 n_0 S k) : WC E0 24 [.int .u64 n_0] S k :=
  WC_den h24 rfl (by kernel_rfl) (by kernel_rfl : Tryd.f24.body = some (bodyOf Tryd.f24)) (by rw [show (denF E0 h24 Tryd.f24 (bodyOf Tryd.f24) [.int .u64 n_0] S k) = c24 n_0 S k by kernel_rfl]; exact h)

/-! 25 wagonway/wagonwayref23.Name -/
noncomputable def h25 : Hn := .no
def c25 (kind_0 : Int) (S : St) (k : Value → St → Prop) : Prop :=
  ifW (ltI kind_0 1) (k (.string { data := #[] }) S)
  (ifW (ltI 9 kind_0) (k (.string { data := #[] }) S)
  (newW S
  (.cells
  [.string { data := #[] }, .string { data := #[UInt8.ofNat 115, UInt8.ofNat 116, UInt8.ofNat 101, UInt8.ofNat 112] },
  .string { data := #[UInt8.ofNat 100, UInt8.ofNat 101, UInt8.ofNat 108, UInt8.ofNat 105, UInt8.ofNat 118, UInt8.ofNat 101, UInt8.ofNat 114] },
  .string { data := #[UInt8.ofNat 100, UInt8.ofNat 114, UInt8.ofNat 111, UInt8.ofNat 112] },
  .string { data := #[UInt8.ofNat 100, UInt8.ofNat 111, UInt8.ofNat 117, UInt8.ofNat 98, UInt8.ofNat 108, UInt8.ofNat 101] },
  .string { data := #[UInt8.ofNat 115, UInt8.ofNat 112, UInt8.ofNat 111, UInt8.ofNat 105, UInt8.ofNat 108] }, .string { data := #[UInt8.ofNat 116, UInt8.ofNat 105, UInt8.ofNat 99, UInt8.ofNat 107] },
  .string { data := #[UInt8.ofNat 103, UInt8.ofNat 111, UInt8.ofNat 97, UInt8.ofNat 108] }, .string { data := #[UInt8.ofNat 99, UInt8.ofNat 114, UInt8.ofNat 97, UInt8.ofNat 115, UInt8.ofNat 104] },
  .string { data := #[UInt8.ofNat 119, UInt8.ofNat 97, UInt8.ofNat 107, UInt8.ofNat 101] }]
  none false none)
  fun (b1 : Nat) (S1 : St) =>
  idxW (some ⟨b1, 0, none⟩) 10 kind_0 fun (b2 b3 : Nat) =>
  evV tT (loadV E0 S1 9 (.pointer (some ⟨b2, b3 + Int.toNat kind_0 * 1, none⟩))) fun (l1 : List UInt8) => k (.string { data := List.toArray l1 }) S1))
theorem w25 (kind_0 : Int) {S : St} {k : Value → St → Prop} (h : c25 kind_0 S k) : WC E0 25 [.int .i64 kind_0] S k :=
  WC_den h25 rfl (by kernel_rfl) (by kernel_rfl : Tryd.f25.body = some (bodyOf Tryd.f25)) (by rw [show (denF E0 h25 Tryd.f25 (bodyOf Tryd.f25) [.int .i64 kind_0] S k) = c25 kind_0 S k by kernel_rfl]; exact h)

/-! 34 wagonway/tally.names$1 -/
noncomputable def h34 : Hn := (.n .no (.n (.n .no .no (some ⟨[0], [(3, .sc (.int .i64))], false⟩)) .no none) none)
def c34 (yield_0 : Value) (S : St) (k : Value → St → Prop) : Prop :=
  loopW
  (fun (k1 : Int → St → Prop) (n1 : Int) (S1 : St) =>
  ifW (ltI n1 25)
  (evC E0 tT 35 [.int .i64 n1] S1 fun (l1 : List UInt8) (S2 : St) =>
  evY E0 tB yield_0 [.int .i64 n1, .string { data := List.toArray l1 }] S2 fun (t1 : Bool) (S3 : St) => ifW (!t1) (k (.tuple #[]) S3) (k1 (wrapI .i64 (n1 + 1)) S3))
  (k (.tuple #[]) S1))
  0 S
theorem w34 (yield_0 : Value) {S : St} {k : Value → St → Prop} (h : c34 yield_0 S k) : WC E0 34 [yield_0] S k :=
  WC_den h34 rfl (by kernel_rfl) (by kernel_rfl : Tryd.f34.body = some (bodyOf Tryd.f34)) (by rw [show (denF E0 h34 Tryd.f34 (bodyOf Tryd.f34) [yield_0] S k) = c34 yield_0 S k by kernel_rfl]; exact h)

/-! 35 wagonway/tally.name -/
noncomputable def h35 : Hn := .no
def c35 (i_0 : Int) (S : St) (k : Value → St → Prop) : Prop :=
  newW S (.cells [.string { data := #[] }, .string { data := #[] }, .string { data := #[] }] none false none) fun (b1 : Nat) (S1 : St) =>
  evS
  (storeV E0 S1 100 (.pointer (some ⟨b1, 0, none⟩))
  (.agg
  #[.string { data := #[UInt8.ofNat 103, UInt8.ofNat 114, UInt8.ofNat 97, UInt8.ofNat 110, UInt8.ofNat 116] },
  .string { data := #[UInt8.ofNat 114, UInt8.ofNat 101, UInt8.ofNat 108, UInt8.ofNat 101, UInt8.ofNat 97, UInt8.ofNat 115, UInt8.ofNat 101] },
  .string { data := #[UInt8.ofNat 109, UInt8.ofNat 111, UInt8.ofNat 118, UInt8.ofNat 101] }]))
  fun (S2 : St) =>
  ifW (ltI i_0 9)
  (evC E0 tT 45 [.int .i64 (wrapI .i64 (i_0 + 1))] S2 fun (l1 : List UInt8) (S3 : St) =>
  evV tT (catD { data := #[UInt8.ofNat 111, UInt8.ofNat 114, UInt8.ofNat 100, UInt8.ofNat 101, UInt8.ofNat 114, UInt8.ofNat 46] } { data := List.toArray l1 }) fun (l2 : List UInt8) =>
  k (.string { data := List.toArray l2 }) S3)
  (ifW (eqI i_0 9) (k (.string { data := #[UInt8.ofNat 101, UInt8.ofNat 114, UInt8.ofNat 114, UInt8.ofNat 111, UInt8.ofNat 114, UInt8.ofNat 115] }) S2)
  (ifW (ltI i_0 13)
  (idxW (some ⟨b1, 0, none⟩) 3 (wrapI .i64 (i_0 - 10)) fun (b2 b3 : Nat) =>
  evV tT (loadV E0 S2 9 (.pointer (some ⟨b2, b3 + Int.toNat (wrapI .i64 (i_0 - 10)) * 1, none⟩))) fun (l3 : List UInt8) =>
  evV tT (catD { data := #[UInt8.ofNat 115, UInt8.ofNat 116, UInt8.ofNat 101, UInt8.ofNat 112, UInt8.ofNat 46] } { data := List.toArray l3 }) fun (l4 : List UInt8) =>
  k (.string { data := List.toArray l4 }) S2)
  (ifW (ltI i_0 24)
  (evC E0 tT 46 [.int .i64 (wrapI .i64 (wrapI .i64 (i_0 - 13) + 1))] S2 fun (l5 : List UInt8) (S4 : St) =>
  evV tT (catD { data := #[UInt8.ofNat 112, UInt8.ofNat 97, UInt8.ofNat 99, UInt8.ofNat 107, UInt8.ofNat 101, UInt8.ofNat 116, UInt8.ofNat 46] } { data := List.toArray l5 }) fun (l6 : List UInt8) =>
  k (.string { data := List.toArray l6 }) S4)
  (k
  (.string
  { data := #[UInt8.ofNat 112, UInt8.ofNat 97, UInt8.ofNat 99, UInt8.ofNat 107, UInt8.ofNat 101, UInt8.ofNat 116, UInt8.ofNat 46, UInt8.ofNat 110, UInt8.ofNat 111, UInt8.ofNat 110, UInt8.ofNat 101] })
  S2))))
theorem w35 (i_0 : Int) {S : St} {k : Value → St → Prop} (h : c35 i_0 S k) : WC E0 35 [.int .i64 i_0] S k :=
  WC_den h35 rfl (by kernel_rfl) (by kernel_rfl : Tryd.f35.body = some (bodyOf Tryd.f35)) (by rw [show (denF E0 h35 Tryd.f35 (bodyOf Tryd.f35) [.int .i64 i_0] S k) = c35 i_0 S k by kernel_rfl]; exact h)

/-! 37 internal/strconv.FormatUint -/
noncomputable def h37 : Hn := .no
def c37 (i_0 : Int) (base_1 : Int) (S : St) (k : Value → St → Prop) : Prop :=
  ifW (eqI base_1 10)
  (ifW (ltI i_0 100) (evC E0 tT 47 [.int .i64 (wrapI .i64 i_0)] S fun (l1 : List UInt8) (S1 : St) => k (.string { data := List.toArray l1 }) S1)
  (newW S
  (.cells
  [.int .u8 0, .int .u8 0, .int .u8 0, .int .u8 0, .int .u8 0, .int .u8 0, .int .u8 0, .int .u8 0,
  .int .u8 0, .int .u8 0, .int .u8 0, .int .u8 0, .int .u8 0, .int .u8 0, .int .u8 0, .int .u8 0,
  .int .u8 0, .int .u8 0, .int .u8 0, .int .u8 0, .int .u8 0, .int .u8 0, .int .u8 0, .int .u8 0]
  none false none)
  fun (b1 : Nat) (S2 : St) =>
  evC E0 tI 48 [.int .u64 i_0] S2 fun (n1 : Int) (S3 : St) =>
  evV tS (sliceD E0 S3 101 (.pointer (some ⟨b1, 0, none⟩)) none (some (.int .i64 n1)) none) fun (s1 : Sl) =>
  evC E0 (TT.tup []) 49 [.slice s1.a s1.len s1.cap, .int .u64 i_0] S3 fun (x1 : PUnit) (S4 : St) =>
  evV tS (sliceD E0 S4 101 (.pointer (some ⟨b1, 0, none⟩)) none (some (.int .i64 n1)) none) fun (s2 : Sl) =>
  evP tT (convertD E0 S4 36 9 (.slice s2.a s2.len s2.cap)) fun (l2 : List UInt8) (S5 : St) => k (.string { data := List.toArray l2 }) S5))
  (evC E0 (TT.tup [Ty.sc Sc.sl, Ty.sc Sc.str]) 50 [.slice none 0 0, .int .u64 i_0, .int .i64 base_1, .bool false, .bool false] S fun (x2 : Sl × List UInt8) (S6 : St) =>
  k (.string { data := List.toArray x2.2 }) S6)
theorem w37 (i_0 : Int) (base_1 : Int) {S : St} {k : Value → St → Prop} (h : c37 i_0 base_1 S k) : WC E0 37 [.int .u64 i_0, .int .i64 base_1] S k :=
  WC_den h37 rfl (by kernel_rfl) (by kernel_rfl : Tryd.f37.body = some (bodyOf Tryd.f37)) (by rw [show (denF E0 h37 Tryd.f37 (bodyOf Tryd.f37) [.int .u64 i_0, .int .i64 base_1] S k) = c37 i_0 base_1 S k by kernel_rfl]; exact h)

/-! 45 wagonway/order.Name -/
noncomputable def h45 : Hn := .no
def c45 (kind_0 : Int) (S : St) (k : Value → St → Prop) : Prop :=
  ifW (ltI kind_0 0) (k (.string { data := #[] }) S)
  (ifW (leI 10 kind_0) (k (.string { data := #[] }) S)
  (idxW (some ⟨1, 0, none⟩) 10 kind_0 fun (b1 b2 : Nat) =>
  evV tT (loadV E0 S 9 (.pointer (some ⟨b1, b2 + Int.toNat kind_0 * 1, none⟩))) fun (l1 : List UInt8) => k (.string { data := List.toArray l1 }) S))
theorem w45 (kind_0 : Int) {S : St} {k : Value → St → Prop} (h : c45 kind_0 S k) : WC E0 45 [.int .i64 kind_0] S k :=
  WC_den h45 rfl (by kernel_rfl) (by kernel_rfl : Tryd.f45.body = some (bodyOf Tryd.f45)) (by rw [show (denF E0 h45 Tryd.f45 (bodyOf Tryd.f45) [.int .i64 kind_0] S k) = c45 kind_0 S k by kernel_rfl]; exact h)

/-! 46 wagonway/wire.Name -/
noncomputable def h46 : Hn := .no
def c46 (kind_0 : Int) (S : St) (k : Value → St → Prop) : Prop :=
  evC E0 tB 28 [.int .i64 kind_0, .int .i64 1, .int .i64 11] S fun (t1 : Bool) (S1 : St) =>
  ifW (!t1) (k (.string { data := #[] }) S1)
  (idxW (some ⟨0, 0, none⟩) 11 (wrapI .i64 (kind_0 - 1)) fun (b1 b2 : Nat) =>
  ptrW (some ⟨b1, b2 + Int.toNat (wrapI .i64 (kind_0 - 1)) * 6, none⟩) fun (b3 b4 : Nat) =>
  evV tT (loadV E0 S1 9 (.pointer (some ⟨b3, b4 + 0, none⟩))) fun (l1 : List UInt8) => k (.string { data := List.toArray l1 }) S1)
theorem w46 (kind_0 : Int) {S : St} {k : Value → St → Prop} (h : c46 kind_0 S k) : WC E0 46 [.int .i64 kind_0] S k :=
  WC_den h46 rfl (by kernel_rfl) (by kernel_rfl : Tryd.f46.body = some (bodyOf Tryd.f46)) (by rw [show (denF E0 h46 Tryd.f46 (bodyOf Tryd.f46) [.int .i64 kind_0] S k) = c46 kind_0 S k by kernel_rfl]; exact h)

end
end Go.Proofs.YtgdijpcopdgapaaDoor

/- The conditions of functions (printed by GenDen.lean). -/
namespace Go.Proofs.YtgdijpcopdgapaaDoor
open Go Go.Proofs.YtgdijpcopdgapaaDoor.D
set_option linter.unusedVariables false
noncomputable section

/-! 48 internal/strconv.numDigits -/
noncomputable def h48 : Hn := .no
def c48 (d_0 : Int) (S : St) (k : Value → St → Prop) : Prop :=
  evC E0 tI 57 [.int .u64 d_0] S fun (n1 : Int) (S1 : St) =>
  evC E0 tI 56 [.int .i64 n1] S1 fun (n2 : Int) (S2 : St) =>
  idxW (some ⟨2, 0, none⟩) 20 n2 fun (b1 b2 : Nat) =>
  evV tU (loadV E0 S2 28 (.pointer (some ⟨b1, b2 + Int.toNat n2 * 1, none⟩))) fun (n3 : Int) =>
  evC E0 tI 58 [.bool (leI n3 d_0)] S2 fun (n4 : Int) (S3 : St) => k (.int .i64 (wrapI .i64 (n2 + n4))) S3
theorem w48 (d_0 : Int) {S : St} {k : Value → St → Prop} (h : c48 d_0 S k) : WC E0 48 [.int .u64 d_0] S k :=
  WC_den h48 rfl (by kernel_rfl) (by kernel_rfl : Tryd.f48.body = some (bodyOf Tryd.f48)) (by rw [show (denF E0 h48 Tryd.f48 (bodyOf Tryd.f48) [.int .u64 d_0] S k) = c48 d_0 S k by kernel_rfl]; exact h)

/-! 56 internal/strconv.log10Pow2 -/
noncomputable def h56 : Hn := .no
def c56 (x_0 : Int) (S : St) (k : Value → St → Prop) : Prop :=
  needW true (k (.int .i64 (Int.fdiv (wrapI .i64 (x_0 * 78913)) (↑(2 ^ min (Int.toNat 18) 64) : Int))) S)
theorem w56 (x_0 : Int) {S : St} {k : Value → St → Prop} (h : c56 x_0 S k) : WC E0 56 [.int .i64 x_0] S k :=
  WC_den h56 rfl (by kernel_rfl) (by kernel_rfl : Tryd.f56.body = some (bodyOf Tryd.f56)) (by rw [show (denF E0 h56 Tryd.f56 (bodyOf Tryd.f56) [.int .i64 x_0] S k) = c56 x_0 S k by kernel_rfl]; exact h)

/-! 58 internal/strconv.bool2[int] -/
noncomputable def h58 : Hn := .no
def c58 (b_0 : Bool) (S : St) (k : Value → St → Prop) : Prop :=
  ifW b_0 (k (.int .i64 1) S) (k (.int .i64 0) S)
theorem w58 (b_0 : Bool) {S : St} {k : Value → St → Prop} (h : c58 b_0 S k) : WC E0 58 [.bool b_0] S k :=
  WC_den h58 rfl (by kernel_rfl) (by kernel_rfl : Tryd.f58.body = some (bodyOf Tryd.f58)) (by rw [show (denF E0 h58 Tryd.f58 (bodyOf Tryd.f58) [.bool b_0] S k) = c58 b_0 S k by kernel_rfl]; exact h)

end
end Go.Proofs.YtgdijpcopdgapaaDoor
