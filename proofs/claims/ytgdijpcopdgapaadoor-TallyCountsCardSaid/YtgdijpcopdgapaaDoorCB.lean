/- Parts of the proof, put together. -/
import Derived.Test.YtgdijpcopdgapaaDoorCA
/- The conditions of functions (printed by GenDen.lean). -/
namespace Go.Proofs.YtgdijpcopdgapaaDoor
open Go Go.Proofs.YtgdijpcopdgapaaDoor.D
set_option linter.unusedVariables false
noncomputable section

/-! 16 wagonway/wire.Read -/
noncomputable def h16 : Hn := (.n .no (.n .no (.n .no (.n .no (.n .no .no (some ⟨[2, 4, 5, 7], [], false⟩)) none) none) none) none)
def c16 (b_0 : Sl) (S : St) (k : Value → St → Prop) : Prop :=
  newW S
  (.cells
  [.int .i64 0, .int .i64 0, .int .u32 0, .int .u32 0, .int .u32 0, .int .u32 0, .int .i64 0, .int .i64 0,
  .int .u32 0, .int .u64 0, .int .i64 0, .int .i64 0, .int .i64 0, .int .i64 0, .slice none 0 0]
  none false none)
  fun (b1 : Nat) (S1 : St) =>
  evC E0 (TT.tup [Ty.sc Sc.sl, Ty.sc Sc.bool]) 26 [.slice b_0.a b_0.len b_0.cap] S1 fun (x1 : Sl × Bool) (S2 : St) =>
  newW S2 (.cells [.slice none 0 0] none false none) fun (b2 : Nat) (S3 : St) =>
  newW S3 (.cells [.bool false] none false none) fun (b3 : Nat) (S4 : St) =>
  evS (storeV E0 S4 36 (.pointer (some ⟨b2, 0, none⟩)) (.slice x1.1.a x1.1.len x1.1.cap)) fun (S5 : St) =>
  evS (storeV E0 S5 4 (.pointer (some ⟨b3, 0, none⟩)) (.bool x1.2)) fun (S6 : St) =>
  evY E0 tU (.func (Fn.func 27) #[] #[.pointer (some ⟨b3, 0, none⟩), .pointer (some ⟨b2, 0, none⟩)]) [.int .i64 1] S6 fun (n1 : Int) (S7 : St) =>
  evY E0 tU (.func (Fn.func 27) #[] #[.pointer (some ⟨b3, 0, none⟩), .pointer (some ⟨b2, 0, none⟩)]) [.int .i64 1] S7 fun (n2 : Int) (S8 : St) =>
  evY E0 tU (.func (Fn.func 27) #[] #[.pointer (some ⟨b3, 0, none⟩), .pointer (some ⟨b2, 0, none⟩)]) [.int .i64 4] S8 fun (n3 : Int) (S9 : St) =>
  evY E0 tU (.func (Fn.func 27) #[] #[.pointer (some ⟨b3, 0, none⟩), .pointer (some ⟨b2, 0, none⟩)]) [.int .i64 4] S9 fun (n4 : Int) (S10 : St) =>
  evY E0 tU (.func (Fn.func 27) #[] #[.pointer (some ⟨b3, 0, none⟩), .pointer (some ⟨b2, 0, none⟩)]) [.int .i64 4] S10 fun (n5 : Int) (S11 : St) =>
  evY E0 tU (.func (Fn.func 27) #[] #[.pointer (some ⟨b3, 0, none⟩), .pointer (some ⟨b2, 0, none⟩)]) [.int .i64 4] S11 fun (n6 : Int) (S12 : St) =>
  newW S12
  (.cells
  [.int .i64 0, .int .i64 0, .int .u32 0, .int .u32 0, .int .u32 0, .int .u32 0, .int .i64 0,
  .int .i64 0, .int .u32 0, .int .u64 0, .int .i64 0, .int .i64 0, .int .i64 0, .int .i64 0,
  .slice none 0 0]
  none false none)
  fun (b4 : Nat) (S13 : St) =>
  evS
  (storeV E0 S13 56 (.pointer (some ⟨b4, 0, none⟩))
  (.agg
  #[.int .i64 (wrapI .i64 n1), .int .i64 (wrapI .i64 n2), .int .u32 (wrapI .u32 n3), .int .u32 (wrapI .u32 n4),
  .int .u32 (wrapI .u32 n5), .int .u32 (wrapI .u32 n6), .int .i64 0, .int .i64 0, .int .u32 0,
  .int .u64 0, .int .i64 0, .int .i64 0, .int .i64 0, .int .i64 0, .slice none 0 0]))
  fun (S14 : St) =>
  joinW
  (fun (x2 : PUnit) (S15 : St) =>
  evV tB (loadV E0 S15 4 (.pointer (some ⟨b3, 0, none⟩))) fun (t1 : Bool) =>
  ifW (!t1)
  (evS
  (storeV E0 S15 56 (.pointer (some ⟨b1, 0, none⟩))
  (.agg
  #[.int .i64 0, .int .i64 0, .int .u32 0, .int .u32 0, .int .u32 0, .int .u32 0, .int .i64 0,
  .int .i64 0, .int .u32 0, .int .u64 0, .int .i64 0, .int .i64 0, .int .i64 0, .int .i64 0,
  .slice none 0 0]))
  fun (S16 : St) =>
  evV (TT.one (Ty.agg G55)) (loadV E0 S16 56 (.pointer (some ⟨b1, 0, none⟩)))
  fun (x3 : Int × Int × Int × Int × Int × Int × Int × Int × Int × Int × Int × Int × Int × Int × Sl) => k (.tuple #[sv G55 x3, .int .i64 70]) S16)
  (evV tS (loadV E0 S15 36 (.pointer (some ⟨b2, 0, none⟩))) fun (s1 : Sl) =>
  ifW (ltI 0 (↑s1.len : Int))
  (evS
  (storeV E0 S15 56 (.pointer (some ⟨b1, 0, none⟩))
  (.agg
  #[.int .i64 0, .int .i64 0, .int .u32 0, .int .u32 0, .int .u32 0, .int .u32 0,
  .int .i64 0, .int .i64 0, .int .u32 0, .int .u64 0, .int .i64 0, .int .i64 0,
  .int .i64 0, .int .i64 0, .slice none 0 0]))
  fun (S17 : St) =>
  evV (TT.one (Ty.agg G55)) (loadV E0 S17 56 (.pointer (some ⟨b1, 0, none⟩)))
  fun (x4 : Int × Int × Int × Int × Int × Int × Int × Int × Int × Int × Int × Int × Int × Int × Sl) => k (.tuple #[sv G55 x4, .int .i64 70]) S17)
  (evV (TT.one (Ty.agg G55)) (loadV E0 S15 56 (.pointer (some ⟨b4, 0, none⟩)))
  fun (x5 : Int × Int × Int × Int × Int × Int × Int × Int × Int × Int × Int × Int × Int × Int × Sl) =>
  evC E0 tI 30 [sv G55 x5] S15 fun (n7 : Int) (S18 : St) =>
  ifW (!eqI n7 0)
  (evS
  (storeV E0 S18 56 (.pointer (some ⟨b1, 0, none⟩))
  (.agg
  #[.int .i64 0, .int .i64 0, .int .u32 0, .int .u32 0, .int .u32 0, .int .u32 0,
  .int .i64 0, .int .i64 0, .int .u32 0, .int .u64 0, .int .i64 0, .int .i64 0,
  .int .i64 0, .int .i64 0, .slice none 0 0]))
  fun (S19 : St) =>
  evV (TT.one (Ty.agg G55)) (loadV E0 S19 56 (.pointer (some ⟨b1, 0, none⟩)))
  fun (x6 : Int × Int × Int × Int × Int × Int × Int × Int × Int × Int × Int × Int × Int × Int × Sl) => k (.tuple #[sv G55 x6, .int .i64 70]) S19)
  (evV (TT.one (Ty.agg G55)) (loadV E0 S18 56 (.pointer (some ⟨b4, 0, none⟩)))
  fun (x7 : Int × Int × Int × Int × Int × Int × Int × Int × Int × Int × Int × Int × Int × Int × Sl) =>
  evS (storeV E0 S18 56 (.pointer (some ⟨b1, 0, none⟩)) (sv G55 x7)) fun (S20 : St) =>
  evV (TT.one (Ty.agg G55)) (loadV E0 S20 56 (.pointer (some ⟨b1, 0, none⟩)))
  fun (x8 : Int × Int × Int × Int × Int × Int × Int × Int × Int × Int × Int × Int × Int × Int × Sl) => k (.tuple #[sv G55 x8, .int .i64 0]) S20))))
  fun (k1 : PUnit → St → Prop) =>
  evY E0 tU (.func (Fn.func 27) #[] #[.pointer (some ⟨b3, 0, none⟩), .pointer (some ⟨b2, 0, none⟩)]) [.int .i64 1] S14
  fun (n8 : Int) (S21 : St) =>
  evC E0 tB 28 [.int .i64 (wrapI .i64 n8), .int .i64 1, .int .i64 11] S21 fun (t2 : Bool) (S22 : St) =>
  ifW t2
  (evC E0 (TT.one (Ty.agg G53)) 29
  [.int .i64 (wrapI .i64 n8), .func (Fn.func 27) #[] #[.pointer (some ⟨b3, 0, none⟩), .pointer (some ⟨b2, 0, none⟩)]] S22
  fun (x9 : Int × Int × Int × Int × Int × Int × Int × Int × Sl) (S23 : St) =>
  ptrW (some ⟨b4, 0, none⟩) fun (b5 b6 : Nat) =>
  evS (storeV E0 S23 54 (.pointer (some ⟨b5, b6 + 6, none⟩)) (sv G53 x9)) fun (S24 : St) => k1 PUnit.unit S24)
  (k1 PUnit.unit S22)
theorem w16 (b_0 : Sl) {S : St} {k : Value → St → Prop} (h : c16 b_0 S k) : WC E0 16 [.slice b_0.a b_0.len b_0.cap] S k :=
  WC_den h16 rfl (by kernel_rfl) (by kernel_rfl : Tryd.f16.body = some (bodyOf Tryd.f16)) (by rw [show (denF E0 h16 Tryd.f16 (bodyOf Tryd.f16) [.slice b_0.a b_0.len b_0.cap] S k) = c16 b_0 S k by kernel_rfl]; exact h)

/-! 26 wagonway/wire.whole -/
noncomputable def h26 : Hn := (.n .no (.n .no (.n .no (.n (.n .no (.n (.n .no .no (some ⟨[], [(12, .sc .sl)], false⟩)) .no none) none) .no none) none) none) none)
def c26 (b_0 : Sl) (S : St) (k : Value → St → Prop) : Prop :=
  newW S (.cells [.slice none 0 0] none false none) fun (b1 : Nat) (S1 : St) =>
  newW S1 (.cells [.bool false] none false none) fun (b2 : Nat) (S2 : St) =>
  needW true
  (ifW (!eqI (Int.tmod (↑b_0.len : Int) 2) 0)
  (evS (storeV E0 S2 36 (.pointer (some ⟨b1, 0, none⟩)) (.slice none 0 0)) fun (S3 : St) =>
  evS (storeV E0 S3 4 (.pointer (some ⟨b2, 0, none⟩)) (.bool false)) fun (S4 : St) =>
  evV tS (loadV E0 S4 36 (.pointer (some ⟨b1, 0, none⟩))) fun (s1 : Sl) =>
  evV tB (loadV E0 S4 4 (.pointer (some ⟨b2, 0, none⟩))) fun (t1 : Bool) => k (.tuple #[.slice s1.a s1.len s1.cap, .bool t1]) S4)
  (newW S2 (.cells [.slice none 0 0] none false none) fun (b3 : Nat) (S5 : St) =>
  evC E0 tA 38 [.slice b_0.a b_0.len b_0.cap, .int .i64 2] S5 fun (v1 : Value) (S6 : St) =>
  newW S6 DObj.deferred fun (b4 : Nat) (S7 : St) =>
  ∀ (b5 : Nat) (S8 : St) (k1 : LoopState → Option Code → DObj),
  b5 = S7.next →
  S8 = (St.alloc S7 (k1 LoopState.ready none)).2 →
  (LoopL fun (x1 : LoopState) (p1 : Option Code) => k1 x1 p1) →
  (RoundH E0 b5 [Ty.sc Sc.sl] fun (s2 : Sl) (S9 : St) (k2 : Bool → St → Prop) =>
  hasW S9 b5 (k1 LoopState.ready none)
  (hasW S9 b5 (k1 LoopState.ready none)
  (updW S9 b5 (k1 LoopState.busy none) fun (S10 : St) =>
  idxW s2.a s2.len 0 fun (b6 b7 : Nat) =>
  evV tU8 (loadV E0 S10 5 (.pointer (some ⟨b6, b7 + Int.toNat 0 * 1, none⟩))) fun (n1 : Int) =>
  idxW s2.a s2.len 1 fun (b8 b9 : Nat) =>
  evV tU8 (loadV E0 S10 5 (.pointer (some ⟨b8, b9 + Int.toNat 1 * 1, none⟩))) fun (n2 : Int) =>
  ifW (!eqI n1 (IntKind.wrap .u8 (↑(BitVec.toNat (BitVec.ofInt 8 (if false = true then -1 else if false = true then 2 ^ 7 - 1 else 2 ^ 8 - 1) ^^^ BitVec.ofInt 8 n2)) : Int)))
  (evS (storeV E0 S10 36 (.pointer (some ⟨b1, 0, none⟩)) (.slice none 0 0)) fun (S11 : St) =>
  evS (storeV E0 S11 4 (.pointer (some ⟨b2, 0, none⟩)) (.bool false)) fun (S12 : St) =>
  hasW S12 b5 (k1 LoopState.busy none) (updW S12 b5 (k1 LoopState.done (some Code.ret)) fun (S13 : St) => k2 false S13))
  (evV tS (loadV E0 S10 36 (.pointer (some ⟨b3, 0, none⟩))) fun (s3 : Sl) =>
  idxW s2.a s2.len 0 fun (b10 b11 : Nat) =>
  evV tU8 (loadV E0 S10 5 (.pointer (some ⟨b10, b11 + Int.toNat 0 * 1, none⟩))) fun (n3 : Int) =>
  newW S10 (.cells [.int .u8 n3] none false none) fun (b12 : Nat) (S14 : St) =>
  evV tS (loadV E0 S14 36 (.pointer (some ⟨b3, 0, none⟩))) fun (s4 : Sl) =>
  sameV (.slice s4.a s4.len s4.cap) (.slice s3.a s3.len s3.cap)
  (evP tS (appendD E0 S14 36 36 (.slice s3.a s3.len s3.cap) (.slice (some ⟨b12, 0, none⟩) 1 1)) fun (s5 : Sl) (S15 : St) =>
  evS (storeV E0 S15 36 (.pointer (some ⟨b3, 0, none⟩)) (.slice s5.a s5.len s5.cap)) fun (S16 : St) =>
  hasW S16 b5 (k1 LoopState.busy none) (updW S16 b5 (k1 LoopState.ready none) fun (S17 : St) => k2 true S17)))))) →
  WG E0 v1 b5 S8 fun (S18 : St) =>
  hasW S18 b5 (k1 LoopState.ready none)
  (updW S18 b5 (k1 LoopState.exhausted none) fun (S19 : St) =>
  evV tS (loadV E0 S19 36 (.pointer (some ⟨b3, 0, none⟩))) fun (s6 : Sl) =>
  evS (storeV E0 S19 36 (.pointer (some ⟨b1, 0, none⟩)) (.slice s6.a s6.len s6.cap)) fun (S20 : St) =>
  evS (storeV E0 S20 4 (.pointer (some ⟨b2, 0, none⟩)) (.bool true)) fun (S21 : St) =>
  hasW S21 b4 DObj.deferred
  (updW S21 b4 DObj.dead fun (S22 : St) =>
  evV tS (loadV E0 S22 36 (.pointer (some ⟨b1, 0, none⟩))) fun (s7 : Sl) =>
  evV tB (loadV E0 S22 4 (.pointer (some ⟨b2, 0, none⟩))) fun (t2 : Bool) => k (.tuple #[.slice s7.a s7.len s7.cap, .bool t2]) S22)) ∨
  hasW S18 b5 (k1 LoopState.done (some Code.ret))
  (updW S18 b5 (k1 LoopState.exhausted (some Code.ret)) fun (S23 : St) =>
  hasW S23 b4 DObj.deferred
  (updW S23 b4 DObj.dead fun (S24 : St) =>
  evV tS (loadV E0 S24 36 (.pointer (some ⟨b1, 0, none⟩))) fun (s8 : Sl) =>
  evV tB (loadV E0 S24 4 (.pointer (some ⟨b2, 0, none⟩))) fun (t3 : Bool) => k (.tuple #[.slice s8.a s8.len s8.cap, .bool t3]) S24)) ∨
  False))
theorem w26 (b_0 : Sl) {S : St} {k : Value → St → Prop} (h : c26 b_0 S k) : WC E0 26 [.slice b_0.a b_0.len b_0.cap] S k :=
  WC_den h26 rfl (by kernel_rfl) (by kernel_rfl : Tryd.f26.body = some (bodyOf Tryd.f26)) (by rw [show (denF E0 h26 Tryd.f26 (bodyOf Tryd.f26) [.slice b_0.a b_0.len b_0.cap] S k) = c26 b_0 S k by kernel_rfl]; exact h)

/-! 27 wagonway/wire.Read$1 -/
noncomputable def h27 : Hn := (.n .no (.n .no (.n .no (.n (.n .no (.n (.n .no .no (some ⟨[0, 2, 19, 20], [(5, .sc (.int .u64)), (21, .sc (.int .i64))], false⟩)) .no none) none) .no none) none) none) none)
def c27 (n_0 : Int) (c1 : Nat) (c2 : Nat) (S : St) (k : Value → St → Prop) : Prop :=
  evV tB (loadV E0 S 4 (.pointer (some ⟨c1, 0, none⟩))) fun (t1 : Bool) =>
  ifW t1
  (evV tS (loadV E0 S 36 (.pointer (some ⟨c2, 0, none⟩))) fun (s1 : Sl) =>
  evS (storeV E0 S 4 (.pointer (some ⟨c1, 0, none⟩)) (.bool (leI n_0 (↑s1.len : Int)))) fun (S1 : St) =>
  evV tB (loadV E0 S1 4 (.pointer (some ⟨c1, 0, none⟩))) fun (t2 : Bool) =>
  ifW (!t2) (k (.int .u64 0) S1)
  (evV tS (loadV E0 S1 36 (.pointer (some ⟨c2, 0, none⟩))) fun (s2 : Sl) =>
  evV tS (sliceD E0 S1 36 (.slice s2.a s2.len s2.cap) none (some (.int .i64 n_0)) none) fun (s3 : Sl) =>
  loopW
  (fun (k1 : Int × Int → St → Prop) (x1 : Int × Int) (S2 : St) =>
  ifW (ltI x1.2 (↑s3.len : Int))
  (idxW s3.a s3.len x1.2 fun (b1 b2 : Nat) =>
  evV tU8 (loadV E0 S2 5 (.pointer (some ⟨b1, b2 + Int.toNat x1.2 * 1, none⟩))) fun (n1 : Int) =>
  needW true (k1 (orI .u64 (wrapI .u64 (x1.1 * (↑(2 ^ min (Int.toNat 8) 64) : Int))) (wrapI .u64 n1), wrapI .i64 (x1.2 + 1)) S2))
  (evV tS (loadV E0 S2 36 (.pointer (some ⟨c2, 0, none⟩))) fun (s4 : Sl) =>
  evV tS (sliceD E0 S2 36 (.slice s4.a s4.len s4.cap) (some (.int .i64 n_0)) none none) fun (s5 : Sl) =>
  evS (storeV E0 S2 36 (.pointer (some ⟨c2, 0, none⟩)) (.slice s5.a s5.len s5.cap)) fun (S3 : St) => k (.int .u64 x1.1) S3))
  (0, 0) S1))
  (evS (storeV E0 S 4 (.pointer (some ⟨c1, 0, none⟩)) (.bool false)) fun (S4 : St) =>
  evV tB (loadV E0 S4 4 (.pointer (some ⟨c1, 0, none⟩))) fun (t3 : Bool) =>
  ifW (!t3) (k (.int .u64 0) S4)
  (evV tS (loadV E0 S4 36 (.pointer (some ⟨c2, 0, none⟩))) fun (s6 : Sl) =>
  evV tS (sliceD E0 S4 36 (.slice s6.a s6.len s6.cap) none (some (.int .i64 n_0)) none) fun (s7 : Sl) =>
  loopW
  (fun (k2 : Int × Int → St → Prop) (x2 : Int × Int) (S5 : St) =>
  ifW (ltI x2.2 (↑s7.len : Int))
  (idxW s7.a s7.len x2.2 fun (b3 b4 : Nat) =>
  evV tU8 (loadV E0 S5 5 (.pointer (some ⟨b3, b4 + Int.toNat x2.2 * 1, none⟩))) fun (n2 : Int) =>
  needW true (k2 (orI .u64 (wrapI .u64 (x2.1 * (↑(2 ^ min (Int.toNat 8) 64) : Int))) (wrapI .u64 n2), wrapI .i64 (x2.2 + 1)) S5))
  (evV tS (loadV E0 S5 36 (.pointer (some ⟨c2, 0, none⟩))) fun (s8 : Sl) =>
  evV tS (sliceD E0 S5 36 (.slice s8.a s8.len s8.cap) (some (.int .i64 n_0)) none none) fun (s9 : Sl) =>
  evS (storeV E0 S5 36 (.pointer (some ⟨c2, 0, none⟩)) (.slice s9.a s9.len s9.cap)) fun (S6 : St) => k (.int .u64 x2.1) S6))
  (0, 0) S4))
theorem w27 (n_0 : Int) (c1 : Nat) (c2 : Nat) {S : St} {k : Value → St → Prop} (h : c27 n_0 c1 c2 S k) : WC E0 27 [.int .i64 n_0, .pointer (some ⟨c1, 0, none⟩), .pointer (some ⟨c2, 0, none⟩)] S k :=
  WC_den h27 rfl (by kernel_rfl) (by kernel_rfl : Tryd.f27.body = some (bodyOf Tryd.f27)) (by rw [show (denF E0 h27 Tryd.f27 (bodyOf Tryd.f27) [.int .i64 n_0, .pointer (some ⟨c1, 0, none⟩), .pointer (some ⟨c2, 0, none⟩)] S k) = c27 n_0 c1 c2 S k by kernel_rfl]; exact h)

/-! 28 wagonway/wire.in -/
noncomputable def h28 : Hn := .no
def c28 (n_0 : Int) (least_1 : Int) (most_2 : Int) (S : St) (k : Value → St → Prop) : Prop :=
  ifW (leI least_1 n_0) (k (.bool (leI n_0 most_2)) S) (k (.bool false) S)
theorem w28 (n_0 : Int) (least_1 : Int) (most_2 : Int) {S : St} {k : Value → St → Prop} (h : c28 n_0 least_1 most_2 S k) : WC E0 28 [.int .i64 n_0, .int .i64 least_1, .int .i64 most_2] S k :=
  WC_den h28 rfl (by kernel_rfl) (by kernel_rfl : Tryd.f28.body = some (bodyOf Tryd.f28)) (by rw [show (denF E0 h28 Tryd.f28 (bodyOf Tryd.f28) [.int .i64 n_0, .int .i64 least_1, .int .i64 most_2] S k) = c28 n_0 least_1 most_2 S k by kernel_rfl]; exact h)

/-! 29 wagonway/wire.message -/
noncomputable def h29 : Hn := (.n .no (.n .no (.n (.n .no (.n (.n .no (.n (.n .no (.n (.n .no (.n .no (.n .no (.n .no (.n .no (.n .no (.n .no (.n .no (.n .no (.n .no (.n .no (.n .no (.n .no (.n .no (.n .no (.n (.n .no (.n (.n .no .no (some ⟨[3, 5, 58], [(59, .sc (.int .u64))], false⟩)) .no none) none) .no none) none) none) none) none) none) none) none) none) none) none) none) none) none) none) none) .no none) none) .no none) (some ⟨[], [(11, .sc (.int .i64))], false⟩)) .no none) none) .no none) none) none)
def c29 (a0 : Int) (take_1 : Value) (S : St) (k : Value → St → Prop) : Prop :=
  newW S
    (.cells
      (match take_1 with
      | .agg x1 => x1.toList
      | v2 => [v2])
      none false none)
    fun (b1 : Nat) (S1 : St) =>
    newW S1
      (.cells
        [.int .i64 0, .int .i64 0, .int .u32 0, .int .u64 0, .int .i64 0, .int .i64 0, .int .i64 0, .int .i64 0,
          .slice none 0 0]
        none false none)
      fun (b2 : Nat) (S2 : St) =>
      newW S2
        (.cells
          [.int .i64 0, .int .i64 0, .int .u32 0, .int .u64 0, .int .i64 0, .int .i64 0, .int .i64 0, .int .i64 0,
            .slice none 0 0]
          none false none)
        fun (b3 : Nat) (S3 : St) =>
        evS
          (storeV E0 S3 54 (.pointer (some ⟨b3, 0, none⟩))
            (.agg
              #[.int .i64 a0, .int .i64 0, .int .u32 0, .int .u64 0, .int .i64 0, .int .i64 0, .int .i64 0, .int .i64 0,
                .slice none 0 0]))
          fun (S4 : St) =>
          evC E0 tA 39 [.int .i64 a0] S4 fun (v3 : Value) (S5 : St) =>
            newW S5 DObj.deferred fun (b4 : Nat) (S6 : St) =>
              ∀ (b5 : Nat) (S7 : St) (k1 : LoopState → Option Code → DObj),
                b5 = S6.next →
                  S7 = (St.alloc S6 (k1 LoopState.ready none)).2 →
                    (LoopL fun (x2 : LoopState) (p1 : Option Code) => k1 x2 p1) →
                      (RoundH E0 b5 [Ty.sc (Sc.int .i64)] fun (n1 : Int) (S8 : St) (k2 : Bool → St → Prop) =>
                          hasW S8 b5 (k1 LoopState.ready none)
                            (hasW S8 b5 (k1 LoopState.ready none)
                              (updW S8 b5 (k1 LoopState.busy none) fun (S9 : St) =>
                                ifW (eqI n1 1)
                                  (evV tA (loadV E0 S9 75 (.pointer (some ⟨b1, 0, none⟩))) fun (v4 : Value) =>
                                    evY E0 tU v4 [.int .i64 2] S9 fun (n2 : Int) (S10 : St) =>
                                      ptrW (some ⟨b3, 0, none⟩) fun (b6 b7 : Nat) =>
                                        evS (storeV E0 S10 3 (.pointer (some ⟨b6, b7 + 1, none⟩)) (.int .i64 (wrapI .i64 n2))) fun (S11 : St) =>
                                          hasW S11 b5 (k1 LoopState.busy none) (updW S11 b5 (k1 LoopState.ready none) fun (S12 : St) => k2 true S12))
                                  (ifW (eqI n1 2)
                                    (evV tA (loadV E0 S9 75 (.pointer (some ⟨b1, 0, none⟩))) fun (v5 : Value) =>
                                      evY E0 tU v5 [.int .i64 4] S9 fun (n3 : Int) (S13 : St) =>
                                        ptrW (some ⟨b3, 0, none⟩) fun (b8 b9 : Nat) =>
                                          evS (storeV E0 S13 51 (.pointer (some ⟨b8, b9 + 2, none⟩)) (.int .u32 (wrapI .u32 n3))) fun (S14 : St) =>
                                            hasW S14 b5 (k1 LoopState.busy none) (updW S14 b5 (k1 LoopState.ready none) fun (S15 : St) => k2 true S15))
                                    (ifW (eqI n1 3)
                                      (evV tA (loadV E0 S9 75 (.pointer (some ⟨b1, 0, none⟩))) fun (v6 : Value) =>
                                        evY E0 tU v6 [.int .i64 8] S9 fun (n4 : Int) (S16 : St) =>
                                          ptrW (some ⟨b3, 0, none⟩) fun (b10 b11 : Nat) =>
                                            evS (storeV E0 S16 28 (.pointer (some ⟨b10, b11 + 3, none⟩)) (.int .u64 n4)) fun (S17 : St) =>
                                              hasW S17 b5 (k1 LoopState.busy none) (updW S17 b5 (k1 LoopState.ready none) fun (S18 : St) => k2 true S18))
                                      (ifW (eqI n1 4)
                                        (evV tA (loadV E0 S9 75 (.pointer (some ⟨b1, 0, none⟩))) fun (v7 : Value) =>
                                          evY E0 tU v7 [.int .i64 1] S9 fun (n5 : Int) (S19 : St) =>
                                            ptrW (some ⟨b3, 0, none⟩) fun (b12 b13 : Nat) =>
                                              evS (storeV E0 S19 3 (.pointer (some ⟨b12, b13 + 4, none⟩)) (.int .i64 (wrapI .i64 n5))) fun (S20 : St) =>
                                                hasW S20 b5 (k1 LoopState.busy none) (updW S20 b5 (k1 LoopState.ready none) fun (S21 : St) => k2 true S21))
                                        (ifW (eqI n1 5)
                                          (evV tA (loadV E0 S9 75 (.pointer (some ⟨b1, 0, none⟩))) fun (v8 : Value) =>
                                            evY E0 tU v8 [.int .i64 1] S9 fun (n6 : Int) (S22 : St) =>
                                              ptrW (some ⟨b3, 0, none⟩) fun (b14 b15 : Nat) =>
                                                evS (storeV E0 S22 3 (.pointer (some ⟨b14, b15 + 5, none⟩)) (.int .i64 (wrapI .i64 n6))) fun (S23 : St) =>
                                                  hasW S23 b5 (k1 LoopState.busy none) (updW S23 b5 (k1 LoopState.ready none) fun (S24 : St) => k2 true S24))
                                          (ifW (eqI n1 6)
                                            (evV tA (loadV E0 S9 75 (.pointer (some ⟨b1, 0, none⟩))) fun (v9 : Value) =>
                                              evY E0 tU v9 [.int .i64 1] S9 fun (n7 : Int) (S25 : St) =>
                                                ptrW (some ⟨b3, 0, none⟩) fun (b16 b17 : Nat) =>
                                                  evS (storeV E0 S25 3 (.pointer (some ⟨b16, b17 + 6, none⟩)) (.int .i64 (wrapI .i64 n7))) fun (S26 : St) =>
                                                    hasW S26 b5 (k1 LoopState.busy none) (updW S26 b5 (k1 LoopState.ready none) fun (S27 : St) => k2 true S27))
                                            (ifW (eqI n1 7)
                                              (evV tA (loadV E0 S9 75 (.pointer (some ⟨b1, 0, none⟩))) fun (v10 : Value) =>
                                                evY E0 tU v10 [.int .i64 1] S9 fun (n8 : Int) (S28 : St) =>
                                                  ptrW (some ⟨b3, 0, none⟩) fun (b18 b19 : Nat) =>
                                                    evS (storeV E0 S28 3 (.pointer (some ⟨b18, b19 + 7, none⟩)) (.int .i64 (wrapI .i64 (wrapI .i8 n8)))) fun (S29 : St) =>
                                                      hasW S29 b5 (k1 LoopState.busy none) (updW S29 b5 (k1 LoopState.ready none) fun (S30 : St) => k2 true S30))
                                              (ifW (eqI n1 8)
                                                (evV tA (loadV E0 S9 75 (.pointer (some ⟨b1, 0, none⟩))) fun (v11 : Value) =>
                                                  evY E0 tU v11 [.int .i64 1] S9 fun (n9 : Int) (S31 : St) =>
                                                    loopW
                                                      (fun (k3 : Int → St → Prop) (n10 : Int) (S32 : St) =>
                                                        ifW (ltI n10 n9)
                                                          (ptrW (some ⟨b3, 0, none⟩) fun (b20 b21 : Nat) =>
                                                            evV tS (loadV E0 S32 52 (.pointer (some ⟨b20, b21 + 8, none⟩))) fun (s1 : Sl) =>
                                                              evV tA (loadV E0 S32 75 (.pointer (some ⟨b1, 0, none⟩))) fun (v12 : Value) =>
                                                                evY E0 tU v12 [.int .i64 2] S32 fun (n11 : Int) (S33 : St) =>
                                                                  evV tS (loadV E0 S33 52 (.pointer (some ⟨b20, b21 + 8, none⟩))) fun (s2 : Sl) =>
                                                                    sameV (.slice s2.a s2.len s2.cap) (.slice s1.a s1.len s1.cap)
                                                                      (evV tA (loadV E0 S33 75 (.pointer (some ⟨b1, 0, none⟩))) fun (v13 : Value) =>
                                                                        evV tA (loadV E0 S32 75 (.pointer (some ⟨b1, 0, none⟩))) fun (v14 : Value) =>
                                                                          sameV v14 v13
                                                                            (evY E0 tU v13 [.int .i64 4] S33 fun (n12 : Int) (S34 : St) =>
                                                                              evV tS (loadV E0 S34 52 (.pointer (some ⟨b20, b21 + 8, none⟩))) fun (s3 : Sl) =>
                                                                                sameV (.slice s3.a s3.len s3.cap) (.slice s1.a s1.len s1.cap)
                                                                                  (newW S34 (.cells [.int .i64 (wrapI .i64 n11), .int .u32 (wrapI .u32 n12)] none false none)
                                                                                    fun (b22 : Nat) (S35 : St) =>
                                                                                    evV tS (loadV E0 S35 52 (.pointer (some ⟨b20, b21 + 8, none⟩))) fun (s4 : Sl) =>
                                                                                      sameV (.slice s4.a s4.len s4.cap) (.slice s1.a s1.len s1.cap)
                                                                                        (evP tS (appendD E0 S35 52 52 (.slice s1.a s1.len s1.cap) (.slice (some ⟨b22, 0, none⟩) 1 1))
                                                                                          fun (s5 : Sl) (S36 : St) =>
                                                                                          ptrW (some ⟨b3, 0, none⟩) fun (b23 b24 : Nat) =>
                                                                                            evS (storeV E0 S36 52 (.pointer (some ⟨b23, b24 + 8, none⟩)) (.slice s5.a s5.len s5.cap)) fun (S37 : St) =>
                                                                                              k3 (wrapI .u64 (n10 + 1)) S37)))))
                                                          (hasW S32 b5 (k1 LoopState.busy none) (updW S32 b5 (k1 LoopState.ready none) fun (S38 : St) => k2 true S38)))
                                                      0 S31)
                                                (hasW S9 b5 (k1 LoopState.busy none) (updW S9 b5 (k1 LoopState.ready none) fun (S39 : St) => k2 true S39)))))))))))) →
                        WG E0 v3 b5 S7 fun (S40 : St) =>
                          hasW S40 b5 (k1 LoopState.ready none)
                              (updW S40 b5 (k1 LoopState.exhausted none) fun (S41 : St) =>
                                evV (TT.one (Ty.agg G53)) (loadV E0 S41 54 (.pointer (some ⟨b3, 0, none⟩))) fun (x3 : Int × Int × Int × Int × Int × Int × Int × Int × Sl) =>
                                  evS (storeV E0 S41 54 (.pointer (some ⟨b2, 0, none⟩)) (sv G53 x3)) fun (S42 : St) =>
                                    hasW S42 b4 DObj.deferred
                                      (updW S42 b4 DObj.dead fun (S43 : St) =>
                                        evV (TT.one (Ty.agg G53)) (loadV E0 S43 54 (.pointer (some ⟨b2, 0, none⟩))) fun (x4 : Int × Int × Int × Int × Int × Int × Int × Int × Sl) => k (sv G53 x4) S43)) ∨
                            hasW S40 b5 (k1 LoopState.done (some (Code.exit 3))) (updW S40 b5 (k1 LoopState.exhausted (some (Code.exit 3))) fun (S44 : St) => False) ∨ False
theorem w29 (a0 : Int) (take_1 : Value) {S : St} {k : Value → St → Prop} (h : c29 a0 take_1 S k) : WC E0 29 [.int .i64 a0, take_1] S k :=
  WC_den h29 rfl (by kernel_rfl) (by kernel_rfl : Tryd.f29.body = some (bodyOf Tryd.f29)) (by rw [show (denF E0 h29 Tryd.f29 (bodyOf Tryd.f29) [.int .i64 a0, take_1] S k) = c29 a0 take_1 S k by kernel_rfl]; exact h)

/-! 30 wagonway/wire.Check -/
noncomputable def h30 : Hn := .no
def c30 (p_0 : Int × Int × Int × Int × Int × Int × Int × Int × Int × Int × Int × Int × Int × Int × Sl) (S : St) (k : Value → St → Prop) : Prop :=
  newW S
  (.cells
  [.int .i64 p_0.1, .int .i64 p_0.2.1, .int .u32 p_0.2.2.1, .int .u32 p_0.2.2.2.1, .int .u32 p_0.2.2.2.2.1,
  .int .u32 p_0.2.2.2.2.2.1, .int .i64 p_0.2.2.2.2.2.2.1, .int .i64 p_0.2.2.2.2.2.2.2.1,
  .int .u32 p_0.2.2.2.2.2.2.2.2.1, .int .u64 p_0.2.2.2.2.2.2.2.2.2.1, .int .i64 p_0.2.2.2.2.2.2.2.2.2.2.1,
  .int .i64 p_0.2.2.2.2.2.2.2.2.2.2.2.1, .int .i64 p_0.2.2.2.2.2.2.2.2.2.2.2.2.1,
  .int .i64 p_0.2.2.2.2.2.2.2.2.2.2.2.2.2.1,
  .slice p_0.2.2.2.2.2.2.2.2.2.2.2.2.2.2.a p_0.2.2.2.2.2.2.2.2.2.2.2.2.2.2.len p_0.2.2.2.2.2.2.2.2.2.2.2.2.2.2.cap]
  none false none)
  fun (b1 : Nat) (S1 : St) =>
  ptrW (some ⟨b1, 0, none⟩) fun (b2 b3 : Nat) =>
  evV tI (loadV E0 S1 3 (.pointer (some ⟨b2, b3 + 0, none⟩))) fun (n1 : Int) =>
  evC E0 tB 28 [.int .i64 n1, .int .i64 0, .int .i64 63] S1 fun (t1 : Bool) (S2 : St) =>
  ifW (!t1) (k (.int .i64 71) S2)
  (ptrW (some ⟨b1, 0, none⟩) fun (b4 b5 : Nat) =>
  evV tI (loadV E0 S2 3 (.pointer (some ⟨b4, b5 + 1, none⟩))) fun (n2 : Int) =>
  evC E0 tB 28 [.int .i64 n2, .int .i64 0, .int .i64 63] S2 fun (t2 : Bool) (S3 : St) =>
  ifW (!t2) (k (.int .i64 71) S3)
  (ptrW (some ⟨b1, 0, none⟩) fun (b6 b7 : Nat) =>
  evV tI (loadV E0 S3 3 (.pointer (some ⟨b6, b7 + 0, none⟩))) fun (n3 : Int) =>
  ptrW (some ⟨b1, 0, none⟩) fun (b8 b9 : Nat) =>
  evV tI (loadV E0 S3 3 (.pointer (some ⟨b8, b9 + 1, none⟩))) fun (n4 : Int) =>
  ifW (eqI n3 n4) (k (.int .i64 71) S3)
  (ptrW (some ⟨b1, 0, none⟩) fun (b10 b11 : Nat) =>
  evV (TT.one (Ty.agg G53)) (loadV E0 S3 54 (.pointer (some ⟨b10, b11 + 6, none⟩))) fun (x1 : Int × Int × Int × Int × Int × Int × Int × Int × Sl) =>
  evC E0 tI 40 [sv G53 x1] S3 fun (n5 : Int) (S4 : St) => k (.int .i64 n5) S4)))
theorem w30 (p_0 : Int × Int × Int × Int × Int × Int × Int × Int × Int × Int × Int × Int × Int × Int × Sl) {S : St} {k : Value → St → Prop} (h : c30 p_0 S k) : WC E0 30 [sv G55 p_0] S k :=
  WC_den h30 rfl (by kernel_rfl) (by kernel_rfl : Tryd.f30.body = some (bodyOf Tryd.f30)) (by rw [show (denF E0 h30 Tryd.f30 (bodyOf Tryd.f30) [sv G55 p_0] S k) = c30 p_0 S k by kernel_rfl]; exact h)

/-! 38 slices.Chunk[[]byte,byte] -/
noncomputable def h38 : Hn := .no
def c38 (s_0 : Sl) (n_1 : Int) (S : St) (k : Value → St → Prop) : Prop :=
  newW S (.cells [.slice s_0.a s_0.len s_0.cap] none false none) fun (b1 : Nat) (S1 : St) =>
  newW S1 (.cells [.int .i64 n_1] none false none) fun (b2 : Nat) (S2 : St) =>
  evV tI (loadV E0 S2 3 (.pointer (some ⟨b2, 0, none⟩))) fun (n1 : Int) =>
  ifW (ltI n1 1) False (k (.func (Fn.func 51) #[] #[.pointer (some ⟨b1, 0, none⟩), .pointer (some ⟨b2, 0, none⟩)]) S2)
theorem w38 (s_0 : Sl) (n_1 : Int) {S : St} {k : Value → St → Prop} (h : c38 s_0 n_1 S k) : WC E0 38 [.slice s_0.a s_0.len s_0.cap, .int .i64 n_1] S k :=
  WC_den h38 rfl (by kernel_rfl) (by kernel_rfl : Tryd.f38.body = some (bodyOf Tryd.f38)) (by rw [show (denF E0 h38 Tryd.f38 (bodyOf Tryd.f38) [.slice s_0.a s_0.len s_0.cap, .int .i64 n_1] S k) = c38 s_0 n_1 S k by kernel_rfl]; exact h)

/-! 39 wagonway/wire.fields -/
noncomputable def h39 : Hn := .no
def c39 (a0 : Int) (S : St) (k : Value → St → Prop) : Prop :=
  newW S (.cells [.int .i64 a0] none false none) fun (b1 : Nat) (S1 : St) => k (.func (Fn.func 52) #[] #[.pointer (some ⟨b1, 0, none⟩)]) S1
theorem w39 (a0 : Int) {S : St} {k : Value → St → Prop} (h : c39 a0 S k) : WC E0 39 [.int .i64 a0] S k :=
  WC_den h39 rfl (by kernel_rfl) (by kernel_rfl : Tryd.f39.body = some (bodyOf Tryd.f39)) (by rw [show (denF E0 h39 Tryd.f39 (bodyOf Tryd.f39) [.int .i64 a0] S k) = c39 a0 S k by kernel_rfl]; exact h)

/-! 40 wagonway/wire.CheckMessage -/
noncomputable def h40 : Hn := (.n .no (.n .no (.n .no (.n (.n .no (.n (.n .no .no (some ⟨[1, 47, 48], [(3, .sc .bool), (49, .sc (.int .i64))], false⟩)) .no none) none) .no none) (some ⟨[1], [(3, .sc .bool)], false⟩)) none) none)
def c40 (m_0 : Int × Int × Int × Int × Int × Int × Int × Int × Sl) (S : St) (k : Value → St → Prop) : Prop :=
  newW S
  (.cells
  [.int .i64 m_0.1, .int .i64 m_0.2.1, .int .u32 m_0.2.2.1, .int .u64 m_0.2.2.2.1, .int .i64 m_0.2.2.2.2.1,
  .int .i64 m_0.2.2.2.2.2.1, .int .i64 m_0.2.2.2.2.2.2.1, .int .i64 m_0.2.2.2.2.2.2.2.1,
  .slice m_0.2.2.2.2.2.2.2.2.a m_0.2.2.2.2.2.2.2.2.len m_0.2.2.2.2.2.2.2.2.cap]
  none false none)
  fun (b1 : Nat) (S1 : St) =>
  ptrW (some ⟨b1, 0, none⟩) fun (b2 b3 : Nat) =>
  evV tI (loadV E0 S1 3 (.pointer (some ⟨b2, b3 + 0, none⟩))) fun (n1 : Int) =>
  evC E0 tB 28 [.int .i64 n1, .int .i64 1, .int .i64 11] S1 fun (t1 : Bool) (S2 : St) =>
  ifW (!t1) (k (.int .i64 71) S2)
  (evV (TT.one (Ty.agg G53)) (loadV E0 S2 54 (.pointer (some ⟨b1, 0, none⟩))) fun (x1 : Int × Int × Int × Int × Int × Int × Int × Int × Sl) =>
  evV (TT.one (Ty.agg G53)) (loadV E0 S2 54 (.pointer (some ⟨b1, 0, none⟩))) fun (x2 : Int × Int × Int × Int × Int × Int × Int × Int × Sl) =>
  evC E0 (TT.one (Ty.agg G53)) 54 [sv G53 x2] S2 fun (x3 : Int × Int × Int × Int × Int × Int × Int × Int × Sl) (S3 : St) =>
  evV (TT.one (Ty.agg G53)) (loadV E0 S3 54 (.pointer (some ⟨b1, 0, none⟩))) fun (x4 : Int × Int × Int × Int × Int × Int × Int × Int × Sl) =>
  sameV (sv G53 x4) (sv G53 x1)
  (evC E0 tB 53 [sv G53 x1, sv G53 x3] S3 fun (t2 : Bool) (S4 : St) =>
  ifW (!t2) (k (.int .i64 71) S4)
  (joinW
  (fun (t3 : Bool) (S5 : St) =>
  ptrW (some ⟨b1, 0, none⟩) fun (b4 b5 : Nat) =>
  evV tS (loadV E0 S5 52 (.pointer (some ⟨b4, b5 + 8, none⟩))) fun (s1 : Sl) =>
  loopW
  (fun (k1 : Bool × Int → St → Prop) (x5 : Bool × Int) (S6 : St) =>
  ifW (ltI x5.2 (↑s1.len : Int))
  (idxW s1.a s1.len x5.2 fun (b6 b7 : Nat) =>
  evV (TT.one (Ty.agg G94)) (loadV E0 S6 95 (.pointer (some ⟨b6, b7 + Int.toNat x5.2 * 2, none⟩))) fun (x6 : Int × Int) =>
  newW S6 (.cells [.int .i64 0, .int .u32 0] none false none) fun (b8 : Nat) (S7 : St) =>
  evS (storeV E0 S7 95 (.pointer (some ⟨b8, 0, none⟩)) (sv G94 x6)) fun (S8 : St) =>
  ifW x5.1
  (ptrW (some ⟨b8, 0, none⟩) fun (b9 b10 : Nat) =>
  evV tI (loadV E0 S8 3 (.pointer (some ⟨b9, b10 + 0, none⟩))) fun (n2 : Int) =>
  evC E0 tB 28 [.int .i64 n2, .int .i64 0, .int .i64 1023] S8 fun (t4 : Bool) (S9 : St) =>
  ifW t4
  (ifW (eqI x5.2 0) (k1 (true, wrapI .i64 (x5.2 + 1)) S9)
  (ptrW (some ⟨b8, 0, none⟩) fun (b11 b12 : Nat) =>
  evV tI (loadV E0 S9 3 (.pointer (some ⟨b11, b12 + 0, none⟩))) fun (n3 : Int) =>
  ptrW (some ⟨b1, 0, none⟩) fun (b13 b14 : Nat) =>
  evV tS (loadV E0 S9 52 (.pointer (some ⟨b13, b14 + 8, none⟩))) fun (s2 : Sl) =>
  idxW s2.a s2.len (wrapI .i64 (x5.2 - 1)) fun (b15 b16 : Nat) =>
  ptrW (some ⟨b15, b16 + Int.toNat (wrapI .i64 (x5.2 - 1)) * 2, none⟩) fun (b17 b18 : Nat) =>
  evV tI (loadV E0 S9 3 (.pointer (some ⟨b17, b18 + 0, none⟩))) fun (n4 : Int) => k1 (ltI n4 n3, wrapI .i64 (x5.2 + 1)) S9))
  (k1 (false, wrapI .i64 (x5.2 + 1)) S9))
  (k1 (false, wrapI .i64 (x5.2 + 1)) S8))
  (ifW (!x5.1) (k (.int .i64 71) S6) (k (.int .i64 0) S6)))
  (t3, 0) S5)
  fun (k2 : Bool → St → Prop) =>
  ptrW (some ⟨b1, 0, none⟩) fun (b19 b20 : Nat) =>
  evV tI (loadV E0 S4 3 (.pointer (some ⟨b19, b20 + 1, none⟩))) fun (n5 : Int) =>
  evC E0 tB 28 [.int .i64 n5, .int .i64 0, .int .i64 1023] S4 fun (t5 : Bool) (S10 : St) =>
  ifW t5
  (ptrW (some ⟨b1, 0, none⟩) fun (b21 b22 : Nat) =>
  evV tI (loadV E0 S10 3 (.pointer (some ⟨b21, b22 + 4, none⟩))) fun (n6 : Int) =>
  evC E0 tB 28 [.int .i64 n6, .int .i64 0, .int .i64 15] S10 fun (t6 : Bool) (S11 : St) =>
  ifW t6
  (ptrW (some ⟨b1, 0, none⟩) fun (b23 b24 : Nat) =>
  evV tI (loadV E0 S11 3 (.pointer (some ⟨b23, b24 + 5, none⟩))) fun (n7 : Int) =>
  evC E0 tB 28 [.int .i64 n7, .int .i64 0, .int .i64 64] S11 fun (t7 : Bool) (S12 : St) =>
  ifW t7
  (ptrW (some ⟨b1, 0, none⟩) fun (b25 b26 : Nat) =>
  evV tI (loadV E0 S12 3 (.pointer (some ⟨b25, b26 + 6, none⟩))) fun (n8 : Int) =>
  evC E0 tB 28 [.int .i64 n8, .int .i64 0, .int .i64 63] S12 fun (t8 : Bool) (S13 : St) =>
  ifW t8
  (ptrW (some ⟨b1, 0, none⟩) fun (b27 b28 : Nat) =>
  evV tI (loadV E0 S13 3 (.pointer (some ⟨b27, b28 + 7, none⟩))) fun (n9 : Int) =>
  evC E0 tB 28 [.int .i64 n9, .int .i64 (-1), .int .i64 63] S13 fun (t9 : Bool) (S14 : St) =>
  ifW t9
  (ptrW (some ⟨b1, 0, none⟩) fun (b29 b30 : Nat) =>
  evV tS (loadV E0 S14 52 (.pointer (some ⟨b29, b30 + 8, none⟩))) fun (s3 : Sl) => k2 (leI (↑s3.len : Int) 16) S14)
  (k2 false S14))
  (k2 false S13))
  (k2 false S12))
  (k2 false S11))
  (k2 false S10))))
theorem w40 (m_0 : Int × Int × Int × Int × Int × Int × Int × Int × Sl) {S : St} {k : Value → St → Prop} (h : c40 m_0 S k) : WC E0 40 [sv G53 m_0] S k :=
  WC_den h40 rfl (by kernel_rfl) (by kernel_rfl : Tryd.f40.body = some (bodyOf Tryd.f40)) (by rw [show (denF E0 h40 Tryd.f40 (bodyOf Tryd.f40) [sv G53 m_0] S k) = c40 m_0 S k by kernel_rfl]; exact h)

/-! 51 slices.Chunk[[]byte,byte]$1 -/
noncomputable def h51 : Hn := (.n .no (.n (.n .no .no (some ⟨[0, 1, 2], [(4, .sc (.int .i64))], false⟩)) .no none) none)
def c51 (yield_0 : Value) (c1 : Nat) (c2 : Nat) (S : St) (k : Value → St → Prop) : Prop :=
  loopW
  (fun (k1 : Int → St → Prop) (n1 : Int) (S1 : St) =>
  evV tS (loadV E0 S1 36 (.pointer (some ⟨c1, 0, none⟩))) fun (s1 : Sl) =>
  ifW (ltI n1 (↑s1.len : Int))
  (evV tI (loadV E0 S1 3 (.pointer (some ⟨c2, 0, none⟩))) fun (n2 : Int) =>
  evV tS (loadV E0 S1 36 (.pointer (some ⟨c1, 0, none⟩))) fun (s2 : Sl) =>
  evV tS (sliceD E0 S1 36 (.slice s2.a s2.len s2.cap) (some (.int .i64 n1)) none none) fun (s3 : Sl) =>
  evV tS (loadV E0 S1 36 (.pointer (some ⟨c1, 0, none⟩))) fun (s4 : Sl) =>
  evV tS
  (sliceD E0 S1 36 (.slice s4.a s4.len s4.cap) (some (.int .i64 n1))
  (some
  (.int .i64 (wrapI .i64 (n1 + bif false then bif decide (n2 < (↑s3.len : Int)) then (↑s3.len : Int) else n2 else bif decide ((↑s3.len : Int) < n2) then (↑s3.len : Int) else n2))))
  (some
  (.int .i64 (wrapI .i64 (n1 + bif false then bif decide (n2 < (↑s3.len : Int)) then (↑s3.len : Int) else n2 else bif decide ((↑s3.len : Int) < n2) then (↑s3.len : Int) else n2)))))
  fun (s5 : Sl) =>
  evY E0 tB yield_0 [.slice s5.a s5.len s5.cap] S1 fun (t1 : Bool) (S2 : St) =>
  ifW (!t1) (k (.tuple #[]) S2) (evV tI (loadV E0 S2 3 (.pointer (some ⟨c2, 0, none⟩))) fun (n3 : Int) => k1 (wrapI .i64 (n1 + n3)) S2))
  (k (.tuple #[]) S1))
  0 S
theorem w51 (yield_0 : Value) (c1 : Nat) (c2 : Nat) {S : St} {k : Value → St → Prop} (h : c51 yield_0 c1 c2 S k) : WC E0 51 [yield_0, .pointer (some ⟨c1, 0, none⟩), .pointer (some ⟨c2, 0, none⟩)] S k :=
  WC_den h51 rfl (by kernel_rfl) (by kernel_rfl : Tryd.f51.body = some (bodyOf Tryd.f51)) (by rw [show (denF E0 h51 Tryd.f51 (bodyOf Tryd.f51) [yield_0, .pointer (some ⟨c1, 0, none⟩), .pointer (some ⟨c2, 0, none⟩)] S k) = c51 yield_0 c1 c2 S k by kernel_rfl]; exact h)

/-! 52 wagonway/wire.fields$1 -/
noncomputable def h52 : Hn := (.n (.n .no (.n .no (.n (.n .no .no (some ⟨[0, 9], [(10, .sc (.int .i64))], false⟩)) .no none) none) none) .no none)
def c52 (yield_0 : Value) (c1 : Nat) (S : St) (k : Value → St → Prop) : Prop :=
  evV tI (loadV E0 S 3 (.pointer (some ⟨c1, 0, none⟩))) fun (n1 : Int) =>
  idxW (some ⟨0, 0, none⟩) 11 (wrapI .i64 (n1 - 1)) fun (b1 b2 : Nat) =>
  ptrW (some ⟨b1, b2 + Int.toNat (wrapI .i64 (n1 - 1)) * 6, none⟩) fun (b3 b4 : Nat) =>
  evV (TT.one (Ty.agg [Sc.int .i64, Sc.int .i64, Sc.int .i64, Sc.int .i64, Sc.int .i64])) (loadV E0 S 108 (.pointer (some ⟨b3, b4 + 1, none⟩)))
  fun (x1 : Int × Int × Int × Int × Int) =>
  loopW
  (fun (k1 : Int → St → Prop) (n2 : Int) (S1 : St) =>
  ifW (ltI n2 5)
  (evV tI
  (indexD E0 108
  (.agg #[.int .i64 x1.1, .int .i64 x1.2.1, .int .i64 x1.2.2.1, .int .i64 x1.2.2.2.1, .int .i64 x1.2.2.2.2])
  (.int .i64 n2))
  fun (n3 : Int) =>
  ifW (eqI n3 0) (k (.tuple #[]) S1) (evY E0 tB yield_0 [.int .i64 n3] S1 fun (t1 : Bool) (S2 : St) => ifW (!t1) (k (.tuple #[]) S2) (k1 (wrapI .i64 (n2 + 1)) S2)))
  (k (.tuple #[]) S1))
  0 S
theorem w52 (yield_0 : Value) (c1 : Nat) {S : St} {k : Value → St → Prop} (h : c52 yield_0 c1 S k) : WC E0 52 [yield_0, .pointer (some ⟨c1, 0, none⟩)] S k :=
  WC_den h52 rfl (by kernel_rfl) (by kernel_rfl : Tryd.f52.body = some (bodyOf Tryd.f52)) (by rw [show (denF E0 h52 Tryd.f52 (bodyOf Tryd.f52) [yield_0, .pointer (some ⟨c1, 0, none⟩)] S k) = c52 yield_0 c1 S k by kernel_rfl]; exact h)

end
end Go.Proofs.YtgdijpcopdgapaaDoor

/- The conditions of functions (printed by GenDen.lean). -/
namespace Go.Proofs.YtgdijpcopdgapaaDoor
open Go Go.Proofs.YtgdijpcopdgapaaDoor.D
set_option linter.unusedVariables false
noncomputable section

/-! 53 wagonway/wire.Same -/
noncomputable def h53 : Hn := .no
def c53 (a_0 : Int × Int × Int × Int × Int × Int × Int × Int × Sl) (b_1 : Int × Int × Int × Int × Int × Int × Int × Int × Sl) (S : St) (k : Value → St → Prop) : Prop :=
  newW S
  (.cells
  [.int .i64 a_0.1, .int .i64 a_0.2.1, .int .u32 a_0.2.2.1, .int .u64 a_0.2.2.2.1, .int .i64 a_0.2.2.2.2.1,
  .int .i64 a_0.2.2.2.2.2.1, .int .i64 a_0.2.2.2.2.2.2.1, .int .i64 a_0.2.2.2.2.2.2.2.1,
  .slice a_0.2.2.2.2.2.2.2.2.a a_0.2.2.2.2.2.2.2.2.len a_0.2.2.2.2.2.2.2.2.cap]
  none false none)
  fun (b1 : Nat) (S1 : St) =>
  newW S1
  (.cells
  [.int .i64 b_1.1, .int .i64 b_1.2.1, .int .u32 b_1.2.2.1, .int .u64 b_1.2.2.2.1, .int .i64 b_1.2.2.2.2.1,
  .int .i64 b_1.2.2.2.2.2.1, .int .i64 b_1.2.2.2.2.2.2.1, .int .i64 b_1.2.2.2.2.2.2.2.1,
  .slice b_1.2.2.2.2.2.2.2.2.a b_1.2.2.2.2.2.2.2.2.len b_1.2.2.2.2.2.2.2.2.cap]
  none false none)
  fun (b2 : Nat) (S2 : St) =>
  ptrW (some ⟨b1, 0, none⟩) fun (b3 b4 : Nat) =>
  evV tI (loadV E0 S2 3 (.pointer (some ⟨b3, b4 + 0, none⟩))) fun (n1 : Int) =>
  ptrW (some ⟨b1, 0, none⟩) fun (b5 b6 : Nat) =>
  evV tI (loadV E0 S2 3 (.pointer (some ⟨b5, b6 + 1, none⟩))) fun (n2 : Int) =>
  ptrW (some ⟨b1, 0, none⟩) fun (b7 b8 : Nat) =>
  evV tI (loadV E0 S2 3 (.pointer (some ⟨b7, b8 + 4, none⟩))) fun (n3 : Int) =>
  ptrW (some ⟨b1, 0, none⟩) fun (b9 b10 : Nat) =>
  evV tI (loadV E0 S2 3 (.pointer (some ⟨b9, b10 + 5, none⟩))) fun (n4 : Int) =>
  ptrW (some ⟨b1, 0, none⟩) fun (b11 b12 : Nat) =>
  evV tI (loadV E0 S2 3 (.pointer (some ⟨b11, b12 + 6, none⟩))) fun (n5 : Int) =>
  ptrW (some ⟨b1, 0, none⟩) fun (b13 b14 : Nat) =>
  evV tI (loadV E0 S2 3 (.pointer (some ⟨b13, b14 + 7, none⟩))) fun (n6 : Int) =>
  newW S2
  (.cells [.int .i64 n1, .int .i64 n2, .int .i64 n3, .int .i64 n4, .int .i64 n5, .int .i64 n6] none false none)
  fun (b15 : Nat) (S3 : St) =>
  ptrW (some ⟨b2, 0, none⟩) fun (b16 b17 : Nat) =>
  evV tI (loadV E0 S3 3 (.pointer (some ⟨b16, b17 + 0, none⟩))) fun (n7 : Int) =>
  ptrW (some ⟨b2, 0, none⟩) fun (b18 b19 : Nat) =>
  evV tI (loadV E0 S3 3 (.pointer (some ⟨b18, b19 + 1, none⟩))) fun (n8 : Int) =>
  ptrW (some ⟨b2, 0, none⟩) fun (b20 b21 : Nat) =>
  evV tI (loadV E0 S3 3 (.pointer (some ⟨b20, b21 + 4, none⟩))) fun (n9 : Int) =>
  ptrW (some ⟨b2, 0, none⟩) fun (b22 b23 : Nat) =>
  evV tI (loadV E0 S3 3 (.pointer (some ⟨b22, b23 + 5, none⟩))) fun (n10 : Int) =>
  ptrW (some ⟨b2, 0, none⟩) fun (b24 b25 : Nat) =>
  evV tI (loadV E0 S3 3 (.pointer (some ⟨b24, b25 + 6, none⟩))) fun (n11 : Int) =>
  ptrW (some ⟨b2, 0, none⟩) fun (b26 b27 : Nat) =>
  evV tI (loadV E0 S3 3 (.pointer (some ⟨b26, b27 + 7, none⟩))) fun (n12 : Int) =>
  newW S3
  (.cells
  [.int .i64 n7, .int .i64 n8, .int .i64 n9, .int .i64 n10, .int .i64 n11, .int .i64 n12]
  none false none)
  fun (b28 : Nat) (S4 : St) =>
  evC E0 tB 61 [.slice (some ⟨b15, 0, none⟩) 6 6, .slice (some ⟨b28, 0, none⟩) 6 6] S4 fun (t1 : Bool) (S5 : St) =>
  ifW t1
  (ptrW (some ⟨b1, 0, none⟩) fun (b29 b30 : Nat) =>
  evV tU32 (loadV E0 S5 51 (.pointer (some ⟨b29, b30 + 2, none⟩))) fun (n13 : Int) =>
  ptrW (some ⟨b2, 0, none⟩) fun (b31 b32 : Nat) =>
  evV tU32 (loadV E0 S5 51 (.pointer (some ⟨b31, b32 + 2, none⟩))) fun (n14 : Int) =>
  ifW (eqI n13 n14)
  (ptrW (some ⟨b1, 0, none⟩) fun (b33 b34 : Nat) =>
  evV tU (loadV E0 S5 28 (.pointer (some ⟨b33, b34 + 3, none⟩))) fun (n15 : Int) =>
  ptrW (some ⟨b2, 0, none⟩) fun (b35 b36 : Nat) =>
  evV tU (loadV E0 S5 28 (.pointer (some ⟨b35, b36 + 3, none⟩))) fun (n16 : Int) =>
  ifW (eqI n15 n16)
  (ptrW (some ⟨b1, 0, none⟩) fun (b37 b38 : Nat) =>
  evV tS (loadV E0 S5 52 (.pointer (some ⟨b37, b38 + 8, none⟩))) fun (s1 : Sl) =>
  ptrW (some ⟨b2, 0, none⟩) fun (b39 b40 : Nat) =>
  evV tS (loadV E0 S5 52 (.pointer (some ⟨b39, b40 + 8, none⟩))) fun (s2 : Sl) =>
  evC E0 tB 62 [.slice s1.a s1.len s1.cap, .slice s2.a s2.len s2.cap] S5 fun (t2 : Bool) (S6 : St) => k (.bool t2) S6)
  (k (.bool false) S5))
  (k (.bool false) S5))
  (k (.bool false) S5)
theorem w53 (a_0 : Int × Int × Int × Int × Int × Int × Int × Int × Sl) (b_1 : Int × Int × Int × Int × Int × Int × Int × Int × Sl) {S : St} {k : Value → St → Prop} (h : c53 a_0 b_1 S k) : WC E0 53 [sv G53 a_0, sv G53 b_1] S k :=
  WC_den h53 rfl (by kernel_rfl) (by kernel_rfl : Tryd.f53.body = some (bodyOf Tryd.f53)) (by rw [show (denF E0 h53 Tryd.f53 (bodyOf Tryd.f53) [sv G53 a_0, sv G53 b_1] S k) = c53 a_0 b_1 S k by kernel_rfl]; exact h)

/-! 54 wagonway/wire.only -/
noncomputable def h54 : Hn := (.n .no (.n .no (.n (.n .no (.n (.n .no .no (some ⟨[], [(11, .sc (.int .i64))], false⟩)) .no none) none) .no none) none) none)
def c54 (m_0 : Int × Int × Int × Int × Int × Int × Int × Int × Sl) (S : St) (k : Value → St → Prop) : Prop :=
  newW S
  (.cells
  [.int .i64 m_0.1, .int .i64 m_0.2.1, .int .u32 m_0.2.2.1, .int .u64 m_0.2.2.2.1, .int .i64 m_0.2.2.2.2.1,
  .int .i64 m_0.2.2.2.2.2.1, .int .i64 m_0.2.2.2.2.2.2.1, .int .i64 m_0.2.2.2.2.2.2.2.1,
  .slice m_0.2.2.2.2.2.2.2.2.a m_0.2.2.2.2.2.2.2.2.len m_0.2.2.2.2.2.2.2.2.cap]
  none false none)
  fun (b1 : Nat) (S1 : St) =>
  newW S1
  (.cells
  [.int .i64 0, .int .i64 0, .int .u32 0, .int .u64 0, .int .i64 0, .int .i64 0, .int .i64 0, .int .i64 0,
  .slice none 0 0]
  none false none)
  fun (b2 : Nat) (S2 : St) =>
  ptrW (some ⟨b1, 0, none⟩) fun (b3 b4 : Nat) =>
  evV tI (loadV E0 S2 3 (.pointer (some ⟨b3, b4 + 0, none⟩))) fun (n1 : Int) =>
  newW S2
  (.cells
  [.int .i64 0, .int .i64 0, .int .u32 0, .int .u64 0, .int .i64 0, .int .i64 0, .int .i64 0, .int .i64 0,
  .slice none 0 0]
  none false none)
  fun (b5 : Nat) (S3 : St) =>
  evS
  (storeV E0 S3 54 (.pointer (some ⟨b5, 0, none⟩))
  (.agg
  #[.int .i64 n1, .int .i64 0, .int .u32 0, .int .u64 0, .int .i64 0, .int .i64 0, .int .i64 0, .int .i64 0,
  .slice none 0 0]))
  fun (S4 : St) =>
  ptrW (some ⟨b1, 0, none⟩) fun (b6 b7 : Nat) =>
  evV tI (loadV E0 S4 3 (.pointer (some ⟨b6, b7 + 0, none⟩))) fun (n2 : Int) =>
  evC E0 tA 39 [.int .i64 n2] S4 fun (v1 : Value) (S5 : St) =>
  newW S5 DObj.deferred fun (b8 : Nat) (S6 : St) =>
  ∀ (b9 : Nat) (S7 : St) (k1 : LoopState → Option Code → DObj),
  b9 = S6.next →
  S7 = (St.alloc S6 (k1 LoopState.ready none)).2 →
  (LoopL fun (x1 : LoopState) (p1 : Option Code) => k1 x1 p1) →
  (RoundH E0 b9 [Ty.sc (Sc.int .i64)] fun (n3 : Int) (S8 : St) (k2 : Bool → St → Prop) =>
  hasW S8 b9 (k1 LoopState.ready none)
  (hasW S8 b9 (k1 LoopState.ready none)
  (updW S8 b9 (k1 LoopState.busy none) fun (S9 : St) =>
  ifW (eqI n3 1)
  (ptrW (some ⟨b1, 0, none⟩) fun (b10 b11 : Nat) =>
  evV tI (loadV E0 S9 3 (.pointer (some ⟨b10, b11 + 1, none⟩))) fun (n4 : Int) =>
  ptrW (some ⟨b5, 0, none⟩) fun (b12 b13 : Nat) =>
  evS (storeV E0 S9 3 (.pointer (some ⟨b12, b13 + 1, none⟩)) (.int .i64 n4)) fun (S10 : St) =>
  hasW S10 b9 (k1 LoopState.busy none) (updW S10 b9 (k1 LoopState.ready none) fun (S11 : St) => k2 true S11))
  (ifW (eqI n3 2)
  (ptrW (some ⟨b1, 0, none⟩) fun (b14 b15 : Nat) =>
  evV tU32 (loadV E0 S9 51 (.pointer (some ⟨b14, b15 + 2, none⟩))) fun (n5 : Int) =>
  ptrW (some ⟨b5, 0, none⟩) fun (b16 b17 : Nat) =>
  evS (storeV E0 S9 51 (.pointer (some ⟨b16, b17 + 2, none⟩)) (.int .u32 n5)) fun (S12 : St) =>
  hasW S12 b9 (k1 LoopState.busy none) (updW S12 b9 (k1 LoopState.ready none) fun (S13 : St) => k2 true S13))
  (ifW (eqI n3 3)
  (ptrW (some ⟨b1, 0, none⟩) fun (b18 b19 : Nat) =>
  evV tU (loadV E0 S9 28 (.pointer (some ⟨b18, b19 + 3, none⟩))) fun (n6 : Int) =>
  ptrW (some ⟨b5, 0, none⟩) fun (b20 b21 : Nat) =>
  evS (storeV E0 S9 28 (.pointer (some ⟨b20, b21 + 3, none⟩)) (.int .u64 n6)) fun (S14 : St) =>
  hasW S14 b9 (k1 LoopState.busy none) (updW S14 b9 (k1 LoopState.ready none) fun (S15 : St) => k2 true S15))
  (ifW (eqI n3 4)
  (ptrW (some ⟨b1, 0, none⟩) fun (b22 b23 : Nat) =>
  evV tI (loadV E0 S9 3 (.pointer (some ⟨b22, b23 + 4, none⟩))) fun (n7 : Int) =>
  ptrW (some ⟨b5, 0, none⟩) fun (b24 b25 : Nat) =>
  evS (storeV E0 S9 3 (.pointer (some ⟨b24, b25 + 4, none⟩)) (.int .i64 n7)) fun (S16 : St) =>
  hasW S16 b9 (k1 LoopState.busy none) (updW S16 b9 (k1 LoopState.ready none) fun (S17 : St) => k2 true S17))
  (ifW (eqI n3 5)
  (ptrW (some ⟨b1, 0, none⟩) fun (b26 b27 : Nat) =>
  evV tI (loadV E0 S9 3 (.pointer (some ⟨b26, b27 + 5, none⟩))) fun (n8 : Int) =>
  ptrW (some ⟨b5, 0, none⟩) fun (b28 b29 : Nat) =>
  evS (storeV E0 S9 3 (.pointer (some ⟨b28, b29 + 5, none⟩)) (.int .i64 n8)) fun (S18 : St) =>
  hasW S18 b9 (k1 LoopState.busy none) (updW S18 b9 (k1 LoopState.ready none) fun (S19 : St) => k2 true S19))
  (ifW (eqI n3 6)
  (ptrW (some ⟨b1, 0, none⟩) fun (b30 b31 : Nat) =>
  evV tI (loadV E0 S9 3 (.pointer (some ⟨b30, b31 + 6, none⟩))) fun (n9 : Int) =>
  ptrW (some ⟨b5, 0, none⟩) fun (b32 b33 : Nat) =>
  evS (storeV E0 S9 3 (.pointer (some ⟨b32, b33 + 6, none⟩)) (.int .i64 n9)) fun (S20 : St) =>
  hasW S20 b9 (k1 LoopState.busy none) (updW S20 b9 (k1 LoopState.ready none) fun (S21 : St) => k2 true S21))
  (ifW (eqI n3 7)
  (ptrW (some ⟨b1, 0, none⟩) fun (b34 b35 : Nat) =>
  evV tI (loadV E0 S9 3 (.pointer (some ⟨b34, b35 + 7, none⟩))) fun (n10 : Int) =>
  ptrW (some ⟨b5, 0, none⟩) fun (b36 b37 : Nat) =>
  evS (storeV E0 S9 3 (.pointer (some ⟨b36, b37 + 7, none⟩)) (.int .i64 n10)) fun (S22 : St) =>
  hasW S22 b9 (k1 LoopState.busy none) (updW S22 b9 (k1 LoopState.ready none) fun (S23 : St) => k2 true S23))
  (ifW (eqI n3 8)
  (ptrW (some ⟨b1, 0, none⟩) fun (b38 b39 : Nat) =>
  evV tS (loadV E0 S9 52 (.pointer (some ⟨b38, b39 + 8, none⟩))) fun (s1 : Sl) =>
  ptrW (some ⟨b5, 0, none⟩) fun (b40 b41 : Nat) =>
  evS (storeV E0 S9 52 (.pointer (some ⟨b40, b41 + 8, none⟩)) (.slice s1.a s1.len s1.cap)) fun (S24 : St) =>
  hasW S24 b9 (k1 LoopState.busy none) (updW S24 b9 (k1 LoopState.ready none) fun (S25 : St) => k2 true S25))
  (hasW S9 b9 (k1 LoopState.busy none) (updW S9 b9 (k1 LoopState.ready none) fun (S26 : St) => k2 true S26)))))))))))) →
  WG E0 v1 b9 S7 fun (S27 : St) =>
  hasW S27 b9 (k1 LoopState.ready none)
  (updW S27 b9 (k1 LoopState.exhausted none) fun (S28 : St) =>
  evV (TT.one (Ty.agg G53)) (loadV E0 S28 54 (.pointer (some ⟨b5, 0, none⟩))) fun (x2 : Int × Int × Int × Int × Int × Int × Int × Int × Sl) =>
  evS (storeV E0 S28 54 (.pointer (some ⟨b2, 0, none⟩)) (sv G53 x2)) fun (S29 : St) =>
  hasW S29 b8 DObj.deferred
  (updW S29 b8 DObj.dead fun (S30 : St) =>
  evV (TT.one (Ty.agg G53)) (loadV E0 S30 54 (.pointer (some ⟨b2, 0, none⟩))) fun (x3 : Int × Int × Int × Int × Int × Int × Int × Int × Sl) =>
  k (sv G53 x3) S30)) ∨
  False
theorem w54 (m_0 : Int × Int × Int × Int × Int × Int × Int × Int × Sl) {S : St} {k : Value → St → Prop} (h : c54 m_0 S k) : WC E0 54 [sv G53 m_0] S k :=
  WC_den h54 rfl (by kernel_rfl) (by kernel_rfl : Tryd.f54.body = some (bodyOf Tryd.f54)) (by rw [show (denF E0 h54 Tryd.f54 (bodyOf Tryd.f54) [sv G53 m_0] S k) = c54 m_0 S k by kernel_rfl]; exact h)

/-! 61 slices.Equal[[]int,int] -/
noncomputable def h61 : Hn := (.n .no (.n .no (.n (.n .no (.n (.n .no .no (some ⟨[0, 1, 12], [(13, .sc (.int .i64))], false⟩)) .no none) none) .no none) none) none)
def c61 (s1_0 : Sl) (s2_1 : Sl) (S : St) (k : Value → St → Prop) : Prop :=
  ifW (!eqI (↑s1_0.len : Int) (↑s2_1.len : Int)) (k (.bool false) S)
  (loopW
  (fun (k1 : Int → St → Prop) (n1 : Int) (S1 : St) =>
  ifW (ltI n1 (↑s1_0.len : Int))
  (idxW s1_0.a s1_0.len n1 fun (b1 b2 : Nat) =>
  evV tI (loadV E0 S1 3 (.pointer (some ⟨b1, b2 + Int.toNat n1 * 1, none⟩))) fun (n2 : Int) =>
  idxW s2_1.a s2_1.len n1 fun (b3 b4 : Nat) =>
  evV tI (loadV E0 S1 3 (.pointer (some ⟨b3, b4 + Int.toNat n1 * 1, none⟩))) fun (n3 : Int) => ifW (!eqI n2 n3) (k (.bool false) S1) (k1 (wrapI .i64 (n1 + 1)) S1))
  (k (.bool true) S1))
  0 S)
theorem w61 (s1_0 : Sl) (s2_1 : Sl) {S : St} {k : Value → St → Prop} (h : c61 s1_0 s2_1 S k) : WC E0 61 [.slice s1_0.a s1_0.len s1_0.cap, .slice s2_1.a s2_1.len s2_1.cap] S k :=
  WC_den h61 rfl (by kernel_rfl) (by kernel_rfl : Tryd.f61.body = some (bodyOf Tryd.f61)) (by rw [show (denF E0 h61 Tryd.f61 (bodyOf Tryd.f61) [.slice s1_0.a s1_0.len s1_0.cap, .slice s2_1.a s2_1.len s2_1.cap] S k) = c61 s1_0 s2_1 S k by kernel_rfl]; exact h)

/-! 62 slices.Equal[[]wagonway/api.Claim,wagonway/api.Claim] -/
noncomputable def h62 : Hn := (.n .no (.n .no (.n (.n .no (.n (.n .no .no (some ⟨[0, 1, 12], [(13, .sc (.int .i64))], false⟩)) .no none) none) .no none) none) none)
def c62 (s1_0 : Sl) (s2_1 : Sl) (S : St) (k : Value → St → Prop) : Prop :=
  ifW (!eqI (↑s1_0.len : Int) (↑s2_1.len : Int)) (k (.bool false) S)
  (loopW
  (fun (k1 : Int → St → Prop) (n1 : Int) (S1 : St) =>
  ifW (ltI n1 (↑s1_0.len : Int))
  (idxW s1_0.a s1_0.len n1 fun (b1 b2 : Nat) =>
  evV (TT.one (Ty.agg G94)) (loadV E0 S1 95 (.pointer (some ⟨b1, b2 + Int.toNat n1 * 2, none⟩))) fun (x1 : Int × Int) =>
  idxW s2_1.a s2_1.len n1 fun (b3 b4 : Nat) =>
  evV (TT.one (Ty.agg G94)) (loadV E0 S1 95 (.pointer (some ⟨b3, b4 + Int.toNat n1 * 2, none⟩))) fun (x2 : Int × Int) =>
  eqW E0 S1 95 (sv G94 x1) (sv G94 x2) fun (t1 : Bool) => ifW (!t1) (k (.bool false) S1) (k1 (wrapI .i64 (n1 + 1)) S1))
  (k (.bool true) S1))
  0 S)
theorem w62 (s1_0 : Sl) (s2_1 : Sl) {S : St} {k : Value → St → Prop} (h : c62 s1_0 s2_1 S k) : WC E0 62 [.slice s1_0.a s1_0.len s1_0.cap, .slice s2_1.a s2_1.len s2_1.cap] S k :=
  WC_den h62 rfl (by kernel_rfl) (by kernel_rfl : Tryd.f62.body = some (bodyOf Tryd.f62)) (by rw [show (denF E0 h62 Tryd.f62 (bodyOf Tryd.f62) [.slice s1_0.a s1_0.len s1_0.cap, .slice s2_1.a s2_1.len s2_1.cap] S k) = c62 s1_0 s2_1 S k by kernel_rfl]; exact h)

/-! 63 wagonway/wagonwayref07.has -/
noncomputable def h63 : Hn := (.n .no (.n (.n .no (.n (.n .no .no (some ⟨[0, 1], [(5, .sc (.int .i64))], false⟩)) .no none) none) .no none) none)
def c63 (s_0 : List UInt8) (c_1 : Int) (S : St) (k : Value → St → Prop) : Prop :=
  loopW
  (fun (k1 : Int → St → Prop) (n1 : Int) (S1 : St) =>
  ifW (ltI n1 (↑(List.length s_0) : Int))
  (evV tU8 (indexD E0 9 (.string { data := List.toArray s_0 }) (.int .i64 n1)) fun (n2 : Int) => ifW (eqI n2 c_1) (k (.bool true) S1) (k1 (wrapI .i64 (n1 + 1)) S1))
  (k (.bool false) S1))
  0 S
theorem w63 (s_0 : List UInt8) (c_1 : Int) {S : St} {k : Value → St → Prop} (h : c63 s_0 c_1 S k) : WC E0 63 [.string ⟨s_0.toArray⟩, .int .u8 c_1] S k :=
  WC_den h63 rfl (by kernel_rfl) (by kernel_rfl : Tryd.f63.body = some (bodyOf Tryd.f63)) (by rw [show (denF E0 h63 Tryd.f63 (bodyOf Tryd.f63) [.string ⟨s_0.toArray⟩, .int .u8 c_1] S k) = c63 s_0 c_1 S k by kernel_rfl]; exact h)

/-! 41 wagonway/wagonwayref07.take -/
noncomputable def h41 : Hn := (.n .no (.n .no (.n (.n .no (.n (.n .no .no (some ⟨[0, 1, 2], [(7, .sc (.int .u64)), (8, .sc (.int .i64))], false⟩)) .no none) none) .no none) none) none)
def c41 (b_0 : Sl) (at_1 : Int) (many_2 : Int) (S : St) (k : Value → St → Prop) : Prop :=
  loopW
  (fun (k1 : Int × Int → St → Prop) (x1 : Int × Int) (S1 : St) =>
  ifW (ltI x1.2 many_2)
  (ifW (ltI (wrapI .i64 (at_1 + x1.2)) (↑b_0.len : Int))
  (idxW b_0.a b_0.len (wrapI .i64 (at_1 + x1.2)) fun (b1 b2 : Nat) =>
  evV tU8 (loadV E0 S1 5 (.pointer (some ⟨b1, b2 + Int.toNat (wrapI .i64 (at_1 + x1.2)) * 1, none⟩))) fun (n1 : Int) =>
  k1 (wrapI .u64 (wrapI .u64 (x1.1 * 256) + wrapI .u64 n1), wrapI .i64 (x1.2 + 1)) S1)
  (k (.int .u64 x1.1) S1))
  (k (.int .u64 x1.1) S1))
  (0, 0) S
theorem w41 (b_0 : Sl) (at_1 : Int) (many_2 : Int) {S : St} {k : Value → St → Prop} (h : c41 b_0 at_1 many_2 S k) : WC E0 41 [.slice b_0.a b_0.len b_0.cap, .int .i64 at_1, .int .i64 many_2] S k :=
  WC_den h41 rfl (by kernel_rfl) (by kernel_rfl : Tryd.f41.body = some (bodyOf Tryd.f41)) (by rw [show (denF E0 h41 Tryd.f41 (bodyOf Tryd.f41) [.slice b_0.a b_0.len b_0.cap, .int .i64 at_1, .int .i64 many_2] S k) = c41 b_0 at_1 many_2 S k by kernel_rfl]; exact h)

/-! 42 wagonway/wagonwayref07.names -/
noncomputable def h42 : Hn := (.n .no (.n (.n .no (.n (.n .no (.n .no (.n .no (.n .no (.n .no .no (some ⟨[3], [(8, .sc .bool)], false⟩)) none) none) none) none) .no none) none) .no none) none)
def c42 (kind_0 : Int) (S : St) (k : Value → St → Prop) : Prop :=
  ifW (eqI kind_0 1) (k (.string { data := #[UInt8.ofNat 99, UInt8.ofNat 115, UInt8.ofNat 112] }) S)
  (ifW (eqI kind_0 2) (k (.string { data := #[UInt8.ofNat 99, UInt8.ofNat 103, UInt8.ofNat 115] }) S)
  (joinW
  (fun (t1 : Bool) (S1 : St) =>
  ifW t1 (k (.string { data := #[UInt8.ofNat 99, UInt8.ofNat 103] }) S1)
  (ifW (eqI kind_0 5) (k (.string { data := #[UInt8.ofNat 99, UInt8.ofNat 115, UInt8.ofNat 119] }) S1)
  (ifW (eqI kind_0 6) (k (.string { data := #[UInt8.ofNat 99, UInt8.ofNat 111, UInt8.ofNat 119, UInt8.ofNat 112, UInt8.ofNat 104] }) S1)
  (ifW (eqI kind_0 7) (k (.string { data := #[UInt8.ofNat 111, UInt8.ofNat 119] }) S1)
  (ifW (eqI kind_0 8) (k (.string { data := #[UInt8.ofNat 99, UInt8.ofNat 112] }) S1)
  (ifW (eqI kind_0 11) (k (.string { data := #[UInt8.ofNat 108] }) S1) (k (.string { data := #[] }) S1)))))))
  fun (k1 : Bool → St → Prop) => ifW (eqI kind_0 3) (k1 true S) (k1 (eqI kind_0 10) S)))
theorem w42 (kind_0 : Int) {S : St} {k : Value → St → Prop} (h : c42 kind_0 S k) : WC E0 42 [.int .i64 kind_0] S k :=
  WC_den h42 rfl (by kernel_rfl) (by kernel_rfl : Tryd.f42.body = some (bodyOf Tryd.f42)) (by rw [show (denF E0 h42 Tryd.f42 (bodyOf Tryd.f42) [.int .i64 kind_0] S k) = c42 kind_0 S k by kernel_rfl]; exact h)

/-! 43 wagonway/wagonwayref07.May -/
noncomputable def h43 : Hn := .no
def c43 (p_0 : Int × Int × Int × Int × Int × Int × Int × Int × Int × Int × Int × Int × Int × Int × Sl) (S : St) (k : Value → St → Prop) : Prop :=
  newW S
  (.cells
  [.int .i64 p_0.1, .int .i64 p_0.2.1, .int .u32 p_0.2.2.1, .int .u32 p_0.2.2.2.1, .int .u32 p_0.2.2.2.2.1,
  .int .u32 p_0.2.2.2.2.2.1, .int .i64 p_0.2.2.2.2.2.2.1, .int .i64 p_0.2.2.2.2.2.2.2.1,
  .int .u32 p_0.2.2.2.2.2.2.2.2.1, .int .u64 p_0.2.2.2.2.2.2.2.2.2.1, .int .i64 p_0.2.2.2.2.2.2.2.2.2.2.1,
  .int .i64 p_0.2.2.2.2.2.2.2.2.2.2.2.1, .int .i64 p_0.2.2.2.2.2.2.2.2.2.2.2.2.1,
  .int .i64 p_0.2.2.2.2.2.2.2.2.2.2.2.2.2.1,
  .slice p_0.2.2.2.2.2.2.2.2.2.2.2.2.2.2.a p_0.2.2.2.2.2.2.2.2.2.2.2.2.2.2.len p_0.2.2.2.2.2.2.2.2.2.2.2.2.2.2.cap]
  none false none)
  fun (b1 : Nat) (S1 : St) =>
  ptrW (some ⟨b1, 0, none⟩) fun (b2 b3 : Nat) =>
  evV tI (loadV E0 S1 3 (.pointer (some ⟨b2, b3 + 0, none⟩))) fun (n1 : Int) =>
  ifW (leI 0 n1)
  (ptrW (some ⟨b1, 0, none⟩) fun (b4 b5 : Nat) =>
  evV tI (loadV E0 S1 3 (.pointer (some ⟨b4, b5 + 0, none⟩))) fun (n2 : Int) =>
  ifW (ltI n2 64)
  (ptrW (some ⟨b1, 0, none⟩) fun (b6 b7 : Nat) =>
  evV tI (loadV E0 S1 3 (.pointer (some ⟨b6, b7 + 1, none⟩))) fun (n3 : Int) =>
  ifW (leI 0 n3)
  (ptrW (some ⟨b1, 0, none⟩) fun (b8 b9 : Nat) =>
  evV tI (loadV E0 S1 3 (.pointer (some ⟨b8, b9 + 1, none⟩))) fun (n4 : Int) =>
  ifW (ltI n4 64)
  (ptrW (some ⟨b1, 0, none⟩) fun (b10 b11 : Nat) =>
  evV tI (loadV E0 S1 3 (.pointer (some ⟨b10, b11 + 0, none⟩))) fun (n5 : Int) =>
  ptrW (some ⟨b1, 0, none⟩) fun (b12 b13 : Nat) =>
  evV tI (loadV E0 S1 3 (.pointer (some ⟨b12, b13 + 1, none⟩))) fun (n6 : Int) =>
  ifW (!eqI n5 n6)
  (ptrW (some ⟨b1, 0, none⟩) fun (b14 b15 : Nat) =>
  evV (TT.one (Ty.agg G53)) (loadV E0 S1 54 (.pointer (some ⟨b14, b15 + 6, none⟩))) fun (x1 : Int × Int × Int × Int × Int × Int × Int × Int × Sl) =>
  evC E0 tB 55 [sv G53 x1] S1 fun (t1 : Bool) (S2 : St) => k (.bool t1) S2)
  (k (.bool false) S1))
  (k (.bool false) S1))
  (k (.bool false) S1))
  (k (.bool false) S1))
  (k (.bool false) S1)
theorem w43 (p_0 : Int × Int × Int × Int × Int × Int × Int × Int × Int × Int × Int × Int × Int × Int × Sl) {S : St} {k : Value → St → Prop} (h : c43 p_0 S k) : WC E0 43 [sv G55 p_0] S k :=
  WC_den h43 rfl (by kernel_rfl) (by kernel_rfl : Tryd.f43.body = some (bodyOf Tryd.f43)) (by rw [show (denF E0 h43 Tryd.f43 (bodyOf Tryd.f43) [sv G55 p_0] S k) = c43 p_0 S k by kernel_rfl]; exact h)

/-! 44 wagonway/wagonwayref07.number -/
noncomputable def h44 : Hn := (.n .no (.n .no (.n (.n .no (.n (.n .no .no (some ⟨[5], [(0, .sc (.int .u64)), (6, .sc (.int .i64))], false⟩)) .no none) none) .no none) none) none)
def c44 (n_0 : Int) (many_1 : Int) (S : St) (k : Value → St → Prop) : Prop :=
  evP tS (makeSliceD E0 S 36 (.int .i64 many_1) (.int .i64 many_1)) fun (s1 : Sl) (S1 : St) =>
  loopW
  (fun (k1 : Int × Int → St → Prop) (x1 : Int × Int) (S2 : St) =>
  ifW (leI 0 x1.2)
  (needW true
  (idxW s1.a s1.len x1.2 fun (b1 b2 : Nat) =>
  evS (storeV E0 S2 5 (.pointer (some ⟨b1, b2 + Int.toNat x1.2 * 1, none⟩)) (.int .u8 (wrapI .u8 (Int.tmod x1.1 256)))) fun (S3 : St) =>
  needW true (k1 (wrapI .u64 (Int.tdiv x1.1 256), wrapI .i64 (x1.2 - 1)) S3)))
  (k (.slice s1.a s1.len s1.cap) S2))
  (n_0, wrapI .i64 (many_1 - 1)) S1
theorem w44 (n_0 : Int) (many_1 : Int) {S : St} {k : Value → St → Prop} (h : c44 n_0 many_1 S k) : WC E0 44 [.int .u64 n_0, .int .i64 many_1] S k :=
  WC_den h44 rfl (by kernel_rfl) (by kernel_rfl : Tryd.f44.body = some (bodyOf Tryd.f44)) (by rw [show (denF E0 h44 Tryd.f44 (bodyOf Tryd.f44) [.int .u64 n_0, .int .i64 many_1] S k) = c44 n_0 many_1 S k by kernel_rfl]; exact h)

/-! 20 wagonway/wagonwayref07.Name -/
noncomputable def h20 : Hn := .no
def c20 (kind_0 : Int) (S : St) (k : Value → St → Prop) : Prop :=
  ifW (eqI kind_0 1) (k (.string { data := #[UInt8.ofNat 114, UInt8.ofNat 101, UInt8.ofNat 113, UInt8.ofNat 117, UInt8.ofNat 101, UInt8.ofNat 115, UInt8.ofNat 116] }) S)
  (ifW (eqI kind_0 2) (k (.string { data := #[UInt8.ofNat 103, UInt8.ofNat 114, UInt8.ofNat 97, UInt8.ofNat 110, UInt8.ofNat 116] }) S)
  (ifW (eqI kind_0 3) (k (.string { data := #[UInt8.ofNat 114, UInt8.ofNat 101, UInt8.ofNat 108, UInt8.ofNat 101, UInt8.ofNat 97, UInt8.ofNat 115, UInt8.ofNat 101] }) S)
  (ifW (eqI kind_0 4) (k (.string { data := #[UInt8.ofNat 97, UInt8.ofNat 99, UInt8.ofNat 107] }) S)
  (ifW (eqI kind_0 5) (k (.string { data := #[UInt8.ofNat 100, UInt8.ofNat 101, UInt8.ofNat 110, UInt8.ofNat 121] }) S)
  (ifW (eqI kind_0 6) (k (.string { data := #[UInt8.ofNat 112, UInt8.ofNat 114, UInt8.ofNat 111, UInt8.ofNat 98, UInt8.ofNat 101] }) S)
  (ifW (eqI kind_0 7) (k (.string { data := #[UInt8.ofNat 97, UInt8.ofNat 98, UInt8.ofNat 111, UInt8.ofNat 114, UInt8.ofNat 116] }) S)
  (ifW (eqI kind_0 8) (k (.string { data := #[UInt8.ofNat 105, UInt8.ofNat 110, UInt8.ofNat 104, UInt8.ofNat 101, UInt8.ofNat 114, UInt8.ofNat 105, UInt8.ofNat 116] }) S)
  (ifW (eqI kind_0 9) (k (.string { data := #[UInt8.ofNat 104, UInt8.ofNat 101, UInt8.ofNat 108, UInt8.ofNat 108, UInt8.ofNat 111] }) S)
  (ifW (eqI kind_0 10) (k (.string { data := #[UInt8.ofNat 114, UInt8.ofNat 101, UInt8.ofNat 99, UInt8.ofNat 97, UInt8.ofNat 108, UInt8.ofNat 108] }) S)
  (ifW (eqI kind_0 11) (k (.string { data := #[UInt8.ofNat 115, UInt8.ofNat 116, UInt8.ofNat 97, UInt8.ofNat 116, UInt8.ofNat 117, UInt8.ofNat 115] }) S)
  (k (.string { data := #[] }) S)))))))))))
theorem w20 (kind_0 : Int) {S : St} {k : Value → St → Prop} (h : c20 kind_0 S k) : WC E0 20 [.int .i64 kind_0] S k :=
  WC_den h20 rfl (by kernel_rfl) (by kernel_rfl : Tryd.f20.body = some (bodyOf Tryd.f20)) (by rw [show (denF E0 h20 Tryd.f20 (bodyOf Tryd.f20) [.int .i64 kind_0] S k) = c20 kind_0 S k by kernel_rfl]; exact h)

/-! 18 wagonway/wagonwayref07.Read -/
noncomputable def h18 : Hn := (.n .no (.n .no (.n (.n .no (.n (.n .no .no (some ⟨[0, 2], [(4, .sc .sl), (5, .sc (.int .i64))], false⟩)) .no none) none) .no none) none) none)
def c18 (b_0 : Sl) (S : St) (k : Value → St → Prop) : Prop :=
  newW S
  (.cells
  [.int .i64 0, .int .i64 0, .int .u32 0, .int .u32 0, .int .u32 0, .int .u32 0, .int .i64 0, .int .i64 0,
  .int .u32 0, .int .u64 0, .int .i64 0, .int .i64 0, .int .i64 0, .int .i64 0, .slice none 0 0]
  none false none)
  fun (b1 : Nat) (S1 : St) =>
  loopW
  (fun (k1 : Sl × Int → St → Prop) (x1 : Sl × Int) (S2 : St) =>
  ifW (ltI x1.2 (↑b_0.len : Int))
  (idxW b_0.a b_0.len x1.2 fun (b2 b3 : Nat) =>
  evV tU8 (loadV E0 S2 5 (.pointer (some ⟨b2, b3 + Int.toNat x1.2 * 1, none⟩))) fun (n1 : Int) =>
  newW S2 (.cells [.int .u8 n1] none false none) fun (b4 : Nat) (S3 : St) =>
  evP tS (appendD E0 S3 36 36 (.slice x1.1.a x1.1.len x1.1.cap) (.slice (some ⟨b4, 0, none⟩) 1 1)) fun (s1 : Sl) (S4 : St) =>
  k1 ({ a := s1.a, len := s1.len, cap := s1.cap }, wrapI .i64 (x1.2 + 2)) S4)
  (evC E0 (TT.one (Ty.agg G55)) 32 [.slice x1.1.a x1.1.len x1.1.cap] S2 fun (x2 : Int × Int × Int × Int × Int × Int × Int × Int × Int × Int × Int × Int × Int × Int × Sl) (S5 : St) =>
  newW S5
  (.cells
  [.int .i64 0, .int .i64 0, .int .u32 0, .int .u32 0, .int .u32 0, .int .u32 0, .int .i64 0, .int .i64 0,
  .int .u32 0, .int .u64 0, .int .i64 0, .int .i64 0, .int .i64 0, .int .i64 0, .slice none 0 0]
  none false none)
  fun (b5 : Nat) (S6 : St) =>
  evS (storeV E0 S6 56 (.pointer (some ⟨b5, 0, none⟩)) (sv G55 x2)) fun (S7 : St) =>
  evV (TT.one (Ty.agg G55)) (loadV E0 S7 56 (.pointer (some ⟨b5, 0, none⟩))) fun (x3 : Int × Int × Int × Int × Int × Int × Int × Int × Int × Int × Int × Int × Int × Int × Sl) =>
  evC E0 (TT.tup [Ty.sc Sc.sl, Ty.sc (Sc.int .i64)]) 33 [sv G55 x3] S7 fun (x4 : Sl × Int) (S8 : St) =>
  ifW (!eqI x4.2 0)
  (evS
  (storeV E0 S8 56 (.pointer (some ⟨b1, 0, none⟩))
  (.agg
  #[.int .i64 0, .int .i64 0, .int .u32 0, .int .u32 0, .int .u32 0, .int .u32 0, .int .i64 0,
  .int .i64 0, .int .u32 0, .int .u64 0, .int .i64 0, .int .i64 0, .int .i64 0, .int .i64 0,
  .slice none 0 0]))
  fun (S9 : St) =>
  evV (TT.one (Ty.agg G55)) (loadV E0 S9 56 (.pointer (some ⟨b1, 0, none⟩))) fun (x5 : Int × Int × Int × Int × Int × Int × Int × Int × Int × Int × Int × Int × Int × Int × Sl) =>
  k (.tuple #[sv G55 x5, .int .i64 70]) S9)
  (evP tT (convertD E0 S8 36 9 (.slice x4.1.a x4.1.len x4.1.cap)) fun (l1 : List UInt8) (S10 : St) =>
  evP tT (convertD E0 S10 36 9 (.slice b_0.a b_0.len b_0.cap)) fun (l2 : List UInt8) (S11 : St) =>
  ifW (!l1 == l2)
  (evS
  (storeV E0 S11 56 (.pointer (some ⟨b1, 0, none⟩))
  (.agg
  #[.int .i64 0, .int .i64 0, .int .u32 0, .int .u32 0, .int .u32 0, .int .u32 0, .int .i64 0,
  .int .i64 0, .int .u32 0, .int .u64 0, .int .i64 0, .int .i64 0, .int .i64 0, .int .i64 0,
  .slice none 0 0]))
  fun (S12 : St) =>
  evV (TT.one (Ty.agg G55)) (loadV E0 S12 56 (.pointer (some ⟨b1, 0, none⟩)))
  fun (x6 : Int × Int × Int × Int × Int × Int × Int × Int × Int × Int × Int × Int × Int × Int × Sl) => k (.tuple #[sv G55 x6, .int .i64 70]) S12)
  (evV (TT.one (Ty.agg G55)) (loadV E0 S11 56 (.pointer (some ⟨b5, 0, none⟩))) fun (x7 : Int × Int × Int × Int × Int × Int × Int × Int × Int × Int × Int × Int × Int × Int × Sl) =>
  evS (storeV E0 S11 56 (.pointer (some ⟨b1, 0, none⟩)) (sv G55 x7)) fun (S13 : St) =>
  evV (TT.one (Ty.agg G55)) (loadV E0 S13 56 (.pointer (some ⟨b1, 0, none⟩)))
  fun (x8 : Int × Int × Int × Int × Int × Int × Int × Int × Int × Int × Int × Int × Int × Int × Sl) => k (.tuple #[sv G55 x8, .int .i64 0]) S13))))
  ({ a := none, len := 0, cap := 0 }, 0) S1
theorem w18 (b_0 : Sl) {S : St} {k : Value → St → Prop} (h : c18 b_0 S k) : WC E0 18 [.slice b_0.a b_0.len b_0.cap] S k :=
  WC_den h18 rfl (by kernel_rfl) (by kernel_rfl : Tryd.f18.body = some (bodyOf Tryd.f18)) (by rw [show (denF E0 h18 Tryd.f18 (bodyOf Tryd.f18) [.slice b_0.a b_0.len b_0.cap] S k) = c18 b_0 S k by kernel_rfl]; exact h)

end
end Go.Proofs.YtgdijpcopdgapaaDoor
