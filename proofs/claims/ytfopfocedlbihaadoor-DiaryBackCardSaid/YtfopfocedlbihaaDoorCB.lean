/- Parts of the proof, put together. -/
import Derived.Test.YtfopfocedlbihaaDoorCA
/- The conditions of functions (printed by GenDen.lean). -/
namespace Go.Proofs.YtfopfocedlbihaaDoor
open Go Go.Proofs.YtfopfocedlbihaaDoor.D
set_option linter.unusedVariables false
noncomputable section

/-! 12 wagonway/diary.Line -/
noncomputable def h12 : Hn := (.n .no (.n .no (.n .no (.n .no (.n (.n .no (.n (.n .no .no (some ⟨[27, 28], [(7, .sc .sl), (29, .sc (.int .i64))], false⟩)) .no none) none) .no none) none) none) none) none)
def c12 (x_0 : Int × Int × Int × Int × Int × Int × Int × Sl) (S : St) (k : Value → St → Prop) : Prop :=
  newW S
  (.cells
  [.int .i64 x_0.1, .int .i64 x_0.2.1, .int .i64 x_0.2.2.1, .int .i64 x_0.2.2.2.1, .int .i64 x_0.2.2.2.2.1,
  .int .u64 x_0.2.2.2.2.2.1, .int .i64 x_0.2.2.2.2.2.2.1,
  .slice x_0.2.2.2.2.2.2.2.a x_0.2.2.2.2.2.2.2.len x_0.2.2.2.2.2.2.2.cap]
  none false none)
  fun (b1 : Nat) (S1 : St) =>
  evV (TT.one (Ty.agg G50)) (loadV E0 S1 51 (.pointer (some ⟨b1, 0, none⟩))) fun (x1 : Int × Int × Int × Int × Int × Int × Int × Sl) =>
  evC E0 tI 27 [sv G50 x1] S1 fun (n1 : Int) (S2 : St) =>
  ifW (!eqI n1 0) (k (.tuple #[.string { data := #[] }, .int .i64 n1]) S2)
  (ptrW (some ⟨b1, 0, none⟩) fun (b2 b3 : Nat) =>
  evV (TT.one (Ty.agg G47)) (loadV E0 S2 48 (.pointer (some ⟨b2, b3 + 0, none⟩))) fun (x2 : Int × Int × Int × Int × Int × Int) =>
  evC E0 (TT.tup [Ty.sc Sc.str, Ty.sc (Sc.int .i64)]) 28 [sv G47 x2] S2 fun (x3 : List UInt8 × Int) (S3 : St) =>
  ptrW (some ⟨b1, 0, none⟩) fun (b4 b5 : Nat) =>
  evV tI (loadV E0 S3 43 (.pointer (some ⟨b4, b5 + 6, none⟩))) fun (n2 : Int) =>
  evC E0 tT 29 [.int .i64 n2] S3 fun (l1 : List UInt8) (S4 : St) =>
  newW S4 (.cells [.string { data := List.toArray x3.1 }, .string { data := #[UInt8.ofNat 61] }, .string { data := List.toArray l1 }] none false none) fun (b6 : Nat) (S5 : St) =>
  ptrW (some ⟨b1, 0, none⟩) fun (b7 b8 : Nat) =>
  evV tS (loadV E0 S5 49 (.pointer (some ⟨b7, b8 + 7, none⟩))) fun (s1 : Sl) =>
  loopW
  (fun (k1 : Sl × Int → St → Prop) (x4 : Sl × Int) (S6 : St) =>
  ifW (ltI x4.2 (↑s1.len : Int))
  (idxW s1.a s1.len x4.2 fun (b9 b10 : Nat) =>
  evV (TT.one (Ty.agg G32)) (loadV E0 S6 76 (.pointer (some ⟨b9, b10 + Int.toNat x4.2 * 3, none⟩))) fun (x5 : Int × Int × Int) =>
  newW S6 (.cells [.int .i64 0, .int .i64 0, .int .i64 0] none false none) fun (b11 : Nat) (S7 : St) =>
  evS (storeV E0 S7 76 (.pointer (some ⟨b11, 0, none⟩)) (sv G32 x5)) fun (S8 : St) =>
  ptrW (some ⟨b11, 0, none⟩) fun (b12 b13 : Nat) =>
  evV tI (loadV E0 S8 3 (.pointer (some ⟨b12, b13 + 0, none⟩))) fun (n3 : Int) =>
  idxW (some ⟨1, 0, none⟩) 4 n3 fun (b14 b15 : Nat) =>
  evV tT (loadV E0 S8 9 (.pointer (some ⟨b14, b15 + Int.toNat n3 * 1, none⟩))) fun (l2 : List UInt8) =>
  evV tT (catD { data := List.toArray l2 } { data := #[UInt8.ofNat 58] }) fun (l3 : List UInt8) =>
  ptrW (some ⟨b11, 0, none⟩) fun (b16 b17 : Nat) =>
  evV tI (loadV E0 S8 3 (.pointer (some ⟨b16, b17 + 1, none⟩))) fun (n4 : Int) =>
  evC E0 tT 29 [.int .i64 n4] S8 fun (l4 : List UInt8) (S9 : St) =>
  evV tT (loadV E0 S9 9 (.pointer (some ⟨b14, b15 + Int.toNat n3 * 1, none⟩))) fun (l5 : List UInt8) =>
  sameV (.string { data := List.toArray l5 }) (.string { data := List.toArray l2 })
  (evV tI (loadV E0 S9 3 (.pointer (some ⟨b12, b13 + 0, none⟩))) fun (n5 : Int) =>
  sameV (.int .i64 n5) (.int .i64 n3)
  (evV tT (catD { data := List.toArray l3 } { data := List.toArray l4 }) fun (l6 : List UInt8) =>
  evV tT (catD { data := List.toArray l6 } { data := #[UInt8.ofNat 58] }) fun (l7 : List UInt8) =>
  ptrW (some ⟨b11, 0, none⟩) fun (b18 b19 : Nat) =>
  evV tI (loadV E0 S9 3 (.pointer (some ⟨b18, b19 + 2, none⟩))) fun (n6 : Int) =>
  evV tI (loadV E0 S8 3 (.pointer (some ⟨b18, b19 + 2, none⟩))) fun (n7 : Int) =>
  sameV (.int .i64 n7) (.int .i64 n6)
  (evC E0 tT 29 [.int .i64 n6] S9 fun (l8 : List UInt8) (S10 : St) =>
  evV tT (loadV E0 S10 9 (.pointer (some ⟨b14, b15 + Int.toNat n3 * 1, none⟩))) fun (l9 : List UInt8) =>
  sameV (.string { data := List.toArray l9 }) (.string { data := List.toArray l2 })
  (evV tI (loadV E0 S10 3 (.pointer (some ⟨b12, b13 + 0, none⟩))) fun (n8 : Int) =>
  sameV (.int .i64 n8) (.int .i64 n3)
  (evV tT (catD { data := List.toArray l7 } { data := List.toArray l8 }) fun (l10 : List UInt8) =>
  newW S10 (.cells [.string { data := List.toArray l10 }] none false none) fun (b20 : Nat) (S11 : St) =>
  evP tS (appendD E0 S11 74 74 (.slice x4.1.a x4.1.len x4.1.cap) (.slice (some ⟨b20, 0, none⟩) 1 1))
  fun (s2 : Sl) (S12 : St) => k1 ({ a := s2.a, len := s2.len, cap := s2.cap }, wrapI .i64 (x4.2 + 1)) S12))))))
  (evC E0 tT 30 [.slice x4.1.a x4.1.len x4.1.cap, .string { data := #[UInt8.ofNat 32] }] S6 fun (l11 : List UInt8) (S13 : St) =>
  k (.tuple #[.string { data := List.toArray l11 }, .int .i64 0]) S13))
  ({ a := some ⟨b6, 0, none⟩, len := 3, cap := 3 }, 0) S5)
theorem w12 (x_0 : Int × Int × Int × Int × Int × Int × Int × Sl) {S : St} {k : Value → St → Prop} (h : c12 x_0 S k) : WC E0 12 [sv G50 x_0] S k :=
  WC_den h12 rfl (by kernel_rfl) (by kernel_rfl : Tryd.f12.body = some (bodyOf Tryd.f12)) (by rw [show (denF E0 h12 Tryd.f12 (bodyOf Tryd.f12) [sv G50 x_0] S k) = c12 x_0 S k by kernel_rfl]; exact h)

/-! 13 wagonway/diary.Read -/
noncomputable def h13 : Hn := (.n .no (.n (.n .no (.n .no (.n .no (.n .no (.n .no (.n .no (.n .no (.n .no (.n (.n .no (.n (.n .no .no (some ⟨[], [(43, .agg [(.int .i64), (.int .i64), (.int .i64)])], false⟩)) .no none) none) .no (some ⟨[0, 2, 8, 11], [], true⟩)) none) none) none) none) none) none) none) none) .no none) none)
def c13 (s_0 : List UInt8) (S : St) (k : Value → St → Prop) : Prop :=
  newW S
  (.cells [.int .i64 0, .int .i64 0, .int .i64 0, .int .i64 0, .int .i64 0, .int .u64 0, .int .i64 0, .slice none 0 0] none
  false none)
  fun (b1 : Nat) (S1 : St) =>
  evC E0 (TT.tup [Ty.sc Sc.str, Ty.sc Sc.str, Ty.sc Sc.bool]) 31 [.string { data := List.toArray s_0 }, .string { data := #[UInt8.ofNat 32, UInt8.ofNat 61, UInt8.ofNat 32] }] S1
  fun (x1 : List UInt8 × List UInt8 × Bool) (S2 : St) =>
  ifW (!x1.2.2)
  (evS
  (storeV E0 S2 51 (.pointer (some ⟨b1, 0, none⟩))
  (.agg
  #[.int .i64 0, .int .i64 0, .int .i64 0, .int .i64 0, .int .i64 0, .int .u64 0, .int .i64 0, .slice none 0 0]))
  fun (S3 : St) =>
  evV (TT.one (Ty.agg G50)) (loadV E0 S3 51 (.pointer (some ⟨b1, 0, none⟩))) fun (x2 : Int × Int × Int × Int × Int × Int × Int × Sl) => k (.tuple #[sv G50 x2, .int .i64 280]) S3)
  (evC E0 tS 32 [.string { data := List.toArray x1.2.1 }, .string { data := #[UInt8.ofNat 32] }] S2 fun (s1 : Sl) (S4 : St) =>
  idxW s1.a s1.len 0 fun (b2 b3 : Nat) =>
  evV tT (loadV E0 S4 9 (.pointer (some ⟨b2, b3 + Int.toNat 0 * 1, none⟩))) fun (l1 : List UInt8) =>
  evC E0 tI 33 [.string { data := List.toArray l1 }] S4 fun (n1 : Int) (S5 : St) =>
  newW S5
  (.cells
  [.int .i64 0, .int .i64 0, .int .i64 0, .int .i64 0, .int .i64 0, .int .u64 0, .int .i64 0, .slice none 0 0] none
  false none)
  fun (b4 : Nat) (S6 : St) =>
  evS
  (storeV E0 S6 51 (.pointer (some ⟨b4, 0, none⟩))
  (.agg
  #[.int .i64 0, .int .i64 0, .int .i64 0, .int .i64 0, .int .i64 0, .int .u64 0, .int .i64 n1,
  .slice none 0 0]))
  fun (S7 : St) =>
  evC E0 (TT.tup [Ty.agg G47, Ty.sc (Sc.int .i64)]) 34 [.string { data := List.toArray x1.1 }] S7 fun (x3 : (Int × Int × Int × Int × Int × Int) × Int) (S8 : St) =>
  newW S8 (.cells [.int .i64 0, .int .i64 0, .int .i64 0, .int .i64 0, .int .i64 0, .int .u64 0] none false none)
  fun (b5 : Nat) (S9 : St) =>
  evS (storeV E0 S9 48 (.pointer (some ⟨b5, 0, none⟩)) (sv G47 x3.1)) fun (S10 : St) =>
  evV (TT.one (Ty.agg G47)) (loadV E0 S10 48 (.pointer (some ⟨b5, 0, none⟩))) fun (x4 : Int × Int × Int × Int × Int × Int) =>
  ptrW (some ⟨b4, 0, none⟩) fun (b6 b7 : Nat) =>
  evS (storeV E0 S10 48 (.pointer (some ⟨b6, b7 + 0, none⟩)) (sv G47 x4)) fun (S11 : St) =>
  newW S11 (.cells [.bool false] none false none) fun (b8 : Nat) (S12 : St) =>
  evS (storeV E0 S12 4 (.pointer (some ⟨b8, 0, none⟩)) (.bool (eqI x3.2 0))) fun (S13 : St) =>
  joinW
  (fun (x5 : List Nat × PUnit) (S14 : St) =>
  evV (TT.one (Ty.agg G50)) (loadV E0 S14 51 (.pointer (some ⟨b4, 0, none⟩))) fun (x6 : Int × Int × Int × Int × Int × Int × Int × Sl) =>
  evC E0 (TT.tup [Ty.sc Sc.str, Ty.sc (Sc.int .i64)]) 12 [sv G50 x6] S14 fun (x7 : List UInt8 × Int) (S15 : St) =>
  evV tB (loadV E0 S15 4 (.pointer (some ⟨b8, 0, none⟩))) fun (t1 : Bool) =>
  ifW (!t1)
  (evS
  (storeV E0 S15 51 (.pointer (some ⟨b1, 0, none⟩))
  (.agg
  #[.int .i64 0, .int .i64 0, .int .i64 0, .int .i64 0, .int .i64 0, .int .u64 0,
  .int .i64 0, .slice none 0 0]))
  fun (S16 : St) =>
  shutW x5.1 S16 fun (S17 : St) =>
  evV (TT.one (Ty.agg G50)) (loadV E0 S17 51 (.pointer (some ⟨b1, 0, none⟩))) fun (x8 : Int × Int × Int × Int × Int × Int × Int × Sl) =>
  k (.tuple #[sv G50 x8, .int .i64 280]) S17)
  (ifW (!eqI x7.2 0)
  (evS
  (storeV E0 S15 51 (.pointer (some ⟨b1, 0, none⟩))
  (.agg
  #[.int .i64 0, .int .i64 0, .int .i64 0, .int .i64 0, .int .i64 0, .int .u64 0,
  .int .i64 0, .slice none 0 0]))
  fun (S18 : St) =>
  shutW x5.1 S18 fun (S19 : St) =>
  evV (TT.one (Ty.agg G50)) (loadV E0 S19 51 (.pointer (some ⟨b1, 0, none⟩))) fun (x9 : Int × Int × Int × Int × Int × Int × Int × Sl) =>
  k (.tuple #[sv G50 x9, .int .i64 280]) S19)
  (ifW (!x7.1 == s_0)
  (evS
  (storeV E0 S15 51 (.pointer (some ⟨b1, 0, none⟩))
  (.agg
  #[.int .i64 0, .int .i64 0, .int .i64 0, .int .i64 0, .int .i64 0, .int .u64 0,
  .int .i64 0, .slice none 0 0]))
  fun (S20 : St) =>
  shutW x5.1 S20 fun (S21 : St) =>
  evV (TT.one (Ty.agg G50)) (loadV E0 S21 51 (.pointer (some ⟨b1, 0, none⟩))) fun (x10 : Int × Int × Int × Int × Int × Int × Int × Sl) =>
  k (.tuple #[sv G50 x10, .int .i64 280]) S21)
  (evV (TT.one (Ty.agg G50)) (loadV E0 S15 51 (.pointer (some ⟨b4, 0, none⟩))) fun (x11 : Int × Int × Int × Int × Int × Int × Int × Sl) =>
  evS (storeV E0 S15 51 (.pointer (some ⟨b1, 0, none⟩)) (sv G50 x11)) fun (S22 : St) =>
  shutW x5.1 S22 fun (S23 : St) =>
  evV (TT.one (Ty.agg G50)) (loadV E0 S23 51 (.pointer (some ⟨b1, 0, none⟩))) fun (x12 : Int × Int × Int × Int × Int × Int × Int × Sl) =>
  k (.tuple #[sv G50 x12, .int .i64 0]) S23))))
  fun (k1 : List Nat × PUnit → St → Prop) =>
  evV tS (sliceD E0 S13 74 (.slice s1.a s1.len s1.cap) (some (.int .i64 1)) none none) fun (s2 : Sl) =>
  evC E0 tA 35 [.slice s2.a s2.len s2.cap] S13 fun (v1 : Value) (S24 : St) =>
  newW S24 DObj.deferred fun (b9 : Nat) (S25 : St) =>
  ∀ (b10 : Nat) (S26 : St) (k2 : LoopState → Option Code → DObj),
  b10 = S25.next →
  S26 = (St.alloc S25 (k2 LoopState.ready none)).2 →
  (LoopL fun (x13 : LoopState) (p1 : Option Code) => k2 x13 p1) →
  (RoundH E0 b10 [Ty.agg [Sc.int .i64, Sc.int .i64, Sc.int .i64]] fun (x14 : Int × Int × Int) (S27 : St) (k3 : Bool → St → Prop) =>
  hasW S27 b10 (k2 LoopState.ready none)
  (newW S27 (.cells [.int .i64 0, .int .i64 0, .int .i64 0] none false none) fun (b11 : Nat) (S28 : St) =>
  evS (storeV E0 S28 76 (.pointer (some ⟨b11, 0, none⟩)) (sv G32 x14)) fun (S29 : St) =>
  hasW S29 b10 (k2 LoopState.ready none)
  (updW S29 b10 (k2 LoopState.busy none) fun (S30 : St) =>
  evV tB (loadV E0 S30 4 (.pointer (some ⟨b8, 0, none⟩))) fun (t2 : Bool) =>
  ifW t2
  (evV (TT.one (Ty.agg G32)) (loadV E0 S30 76 (.pointer (some ⟨b11, 0, none⟩))) fun (x15 : Int × Int × Int) =>
  evC E0 tB 36 [sv G32 x15] S30 fun (t3 : Bool) (S31 : St) =>
  evS (storeV E0 S31 4 (.pointer (some ⟨b8, 0, none⟩)) (.bool t3)) fun (S32 : St) =>
  evV tB (loadV E0 S32 4 (.pointer (some ⟨b8, 0, none⟩))) fun (t4 : Bool) =>
  ifW (!t4) (hasW S32 b10 (k2 LoopState.busy none) (updW S32 b10 (k2 LoopState.done (some (Code.exit 0))) fun (S33 : St) => k3 false S33))
  (ptrW (some ⟨b4, 0, none⟩) fun (b12 b13 : Nat) =>
  evV tS (loadV E0 S32 49 (.pointer (some ⟨b12, b13 + 7, none⟩))) fun (s3 : Sl) =>
  evV (TT.one (Ty.agg G32)) (loadV E0 S32 76 (.pointer (some ⟨b11, 0, none⟩))) fun (x16 : Int × Int × Int) =>
  newW S32
  (.cells [.int .i64 x16.1, .int .i64 x16.2.1, .int .i64 x16.2.2] none false none)
  fun (b14 : Nat) (S34 : St) =>
  evP tS (appendD E0 S34 49 49 (.slice s3.a s3.len s3.cap) (.slice (some ⟨b14, 0, none⟩) 1 1))
  fun (s4 : Sl) (S35 : St) =>
  ptrW (some ⟨b4, 0, none⟩) fun (b15 b16 : Nat) =>
  evS (storeV E0 S35 49 (.pointer (some ⟨b15, b16 + 7, none⟩)) (.slice s4.a s4.len s4.cap)) fun (S36 : St) =>
  hasW S36 b10 (k2 LoopState.busy none) (updW S36 b10 (k2 LoopState.ready none) fun (S37 : St) => k3 true S37)))
  (evS (storeV E0 S30 4 (.pointer (some ⟨b8, 0, none⟩)) (.bool false)) fun (S38 : St) =>
  evV tB (loadV E0 S38 4 (.pointer (some ⟨b8, 0, none⟩))) fun (t5 : Bool) =>
  ifW (!t5) (hasW S38 b10 (k2 LoopState.busy none) (updW S38 b10 (k2 LoopState.done (some (Code.exit 0))) fun (S39 : St) => k3 false S39))
  (ptrW (some ⟨b4, 0, none⟩) fun (b17 b18 : Nat) =>
  evV tS (loadV E0 S38 49 (.pointer (some ⟨b17, b18 + 7, none⟩))) fun (s5 : Sl) =>
  evV (TT.one (Ty.agg G32)) (loadV E0 S38 76 (.pointer (some ⟨b11, 0, none⟩))) fun (x17 : Int × Int × Int) =>
  newW S38 (.cells [.int .i64 x17.1, .int .i64 x17.2.1, .int .i64 x17.2.2] none false none)
  fun (b19 : Nat) (S40 : St) =>
  evP tS (appendD E0 S40 49 49 (.slice s5.a s5.len s5.cap) (.slice (some ⟨b19, 0, none⟩) 1 1))
  fun (s6 : Sl) (S41 : St) =>
  ptrW (some ⟨b4, 0, none⟩) fun (b20 b21 : Nat) =>
  evS (storeV E0 S41 49 (.pointer (some ⟨b20, b21 + 7, none⟩)) (.slice s6.a s6.len s6.cap)) fun (S42 : St) =>
  hasW S42 b10 (k2 LoopState.busy none) (updW S42 b10 (k2 LoopState.ready none) fun (S43 : St) => k3 true S43)))))) →
  WG E0 v1 b10 S26 fun (S44 : St) =>
  hasW S44 b10 (k2 LoopState.ready none) (updW S44 b10 (k2 LoopState.exhausted none) fun (S45 : St) => k1 ([b9], PUnit.unit) S45) ∨
  hasW S44 b10 (k2 LoopState.done (some (Code.exit 0))) (updW S44 b10 (k2 LoopState.exhausted (some (Code.exit 0))) fun (S46 : St) => k1 ([b9], PUnit.unit) S46) ∨
  False)
theorem w13 (s_0 : List UInt8) {S : St} {k : Value → St → Prop} (h : c13 s_0 S k) : WC E0 13 [.string ⟨s_0.toArray⟩] S k :=
  WC_den h13 rfl (by kernel_rfl) (by kernel_rfl : Tryd.f13.body = some (bodyOf Tryd.f13)) (by rw [show (denF E0 h13 Tryd.f13 (bodyOf Tryd.f13) [.string ⟨s_0.toArray⟩] S k) = c13 s_0 S k by kernel_rfl]; exact h)

/-! 14 wagonway/wagonwayref28.Same -/
noncomputable def h14 : Hn := (.n .no (.n .no (.n (.n .no (.n (.n .no .no (some ⟨[2, 3], [(5, .sc (.int .i64))], false⟩)) .no none) none) .no none) none) none)
def c14 (a_0 : Int × Int × Int × Int × Int × Int × Int × Sl) (b_1 : Int × Int × Int × Int × Int × Int × Int × Sl) (S : St) (k : Value → St → Prop) : Prop :=
  newW S
  (.cells
  [.int .i64 a_0.1, .int .i64 a_0.2.1, .int .i64 a_0.2.2.1, .int .i64 a_0.2.2.2.1, .int .i64 a_0.2.2.2.2.1,
  .int .u64 a_0.2.2.2.2.2.1, .int .i64 a_0.2.2.2.2.2.2.1,
  .slice a_0.2.2.2.2.2.2.2.a a_0.2.2.2.2.2.2.2.len a_0.2.2.2.2.2.2.2.cap]
  none false none)
  fun (b1 : Nat) (S1 : St) =>
  newW S1
  (.cells
  [.int .i64 b_1.1, .int .i64 b_1.2.1, .int .i64 b_1.2.2.1, .int .i64 b_1.2.2.2.1, .int .i64 b_1.2.2.2.2.1,
  .int .u64 b_1.2.2.2.2.2.1, .int .i64 b_1.2.2.2.2.2.2.1,
  .slice b_1.2.2.2.2.2.2.2.a b_1.2.2.2.2.2.2.2.len b_1.2.2.2.2.2.2.2.cap]
  none false none)
  fun (b2 : Nat) (S2 : St) =>
  ptrW (some ⟨b1, 0, none⟩) fun (b3 b4 : Nat) =>
  evV (TT.one (Ty.agg G47)) (loadV E0 S2 48 (.pointer (some ⟨b3, b4 + 0, none⟩))) fun (x1 : Int × Int × Int × Int × Int × Int) =>
  ptrW (some ⟨b2, 0, none⟩) fun (b5 b6 : Nat) =>
  evV (TT.one (Ty.agg G47)) (loadV E0 S2 48 (.pointer (some ⟨b5, b6 + 0, none⟩))) fun (x2 : Int × Int × Int × Int × Int × Int) =>
  eqW E0 S2 48 (sv G47 x1) (sv G47 x2) fun (t1 : Bool) =>
  ifW (!t1) (k (.bool false) S2)
  (ptrW (some ⟨b1, 0, none⟩) fun (b7 b8 : Nat) =>
  evV tI (loadV E0 S2 43 (.pointer (some ⟨b7, b8 + 6, none⟩))) fun (n1 : Int) =>
  ptrW (some ⟨b2, 0, none⟩) fun (b9 b10 : Nat) =>
  evV tI (loadV E0 S2 43 (.pointer (some ⟨b9, b10 + 6, none⟩))) fun (n2 : Int) =>
  ifW (!eqI n1 n2) (k (.bool false) S2)
  (ptrW (some ⟨b1, 0, none⟩) fun (b11 b12 : Nat) =>
  evV tS (loadV E0 S2 49 (.pointer (some ⟨b11, b12 + 7, none⟩))) fun (s1 : Sl) =>
  ptrW (some ⟨b2, 0, none⟩) fun (b13 b14 : Nat) =>
  evV tS (loadV E0 S2 49 (.pointer (some ⟨b13, b14 + 7, none⟩))) fun (s2 : Sl) =>
  ifW (!eqI (↑s1.len : Int) (↑s2.len : Int)) (k (.bool false) S2)
  (loopW
  (fun (k1 : Int → St → Prop) (n3 : Int) (S3 : St) =>
  ptrW (some ⟨b1, 0, none⟩) fun (b15 b16 : Nat) =>
  evV tS (loadV E0 S3 49 (.pointer (some ⟨b15, b16 + 7, none⟩))) fun (s3 : Sl) =>
  ifW (ltI n3 (↑s3.len : Int))
  (ptrW (some ⟨b1, 0, none⟩) fun (b17 b18 : Nat) =>
  evV tS (loadV E0 S3 49 (.pointer (some ⟨b17, b18 + 7, none⟩))) fun (s4 : Sl) =>
  idxW s4.a s4.len n3 fun (b19 b20 : Nat) =>
  evV (TT.one (Ty.agg G32)) (loadV E0 S3 76 (.pointer (some ⟨b19, b20 + Int.toNat n3 * 3, none⟩))) fun (x3 : Int × Int × Int) =>
  ptrW (some ⟨b2, 0, none⟩) fun (b21 b22 : Nat) =>
  evV tS (loadV E0 S3 49 (.pointer (some ⟨b21, b22 + 7, none⟩))) fun (s5 : Sl) =>
  idxW s5.a s5.len n3 fun (b23 b24 : Nat) =>
  evV (TT.one (Ty.agg G32)) (loadV E0 S3 76 (.pointer (some ⟨b23, b24 + Int.toNat n3 * 3, none⟩))) fun (x4 : Int × Int × Int) =>
  eqW E0 S3 76 (sv G32 x3) (sv G32 x4) fun (t2 : Bool) => ifW (!t2) (k (.bool false) S3) (k1 (wrapI .i64 (n3 + 1)) S3))
  (k (.bool true) S3))
  0 S2)))
theorem w14 (a_0 : Int × Int × Int × Int × Int × Int × Int × Sl) (b_1 : Int × Int × Int × Int × Int × Int × Int × Sl) {S : St} {k : Value → St → Prop} (h : c14 a_0 b_1 S k) : WC E0 14 [sv G50 a_0, sv G50 b_1] S k :=
  WC_den h14 rfl (by kernel_rfl) (by kernel_rfl : Tryd.f14.body = some (bodyOf Tryd.f14)) (by rw [show (denF E0 h14 Tryd.f14 (bodyOf Tryd.f14) [sv G50 a_0, sv G50 b_1] S k) = c14 a_0 b_1 S k by kernel_rfl]; exact h)

/-! 27 wagonway/diary.Check -/
noncomputable def h27 : Hn := .no
def c27 (x_0 : Int × Int × Int × Int × Int × Int × Int × Sl) (S : St) (k : Value → St → Prop) : Prop :=
  newW S
  (.cells
  [.int .i64 x_0.1, .int .i64 x_0.2.1, .int .i64 x_0.2.2.1, .int .i64 x_0.2.2.2.1, .int .i64 x_0.2.2.2.2.1,
  .int .u64 x_0.2.2.2.2.2.1, .int .i64 x_0.2.2.2.2.2.2.1,
  .slice x_0.2.2.2.2.2.2.2.a x_0.2.2.2.2.2.2.2.len x_0.2.2.2.2.2.2.2.cap]
  none false none)
  fun (b1 : Nat) (S1 : St) =>
  ptrW (some ⟨b1, 0, none⟩) fun (b2 b3 : Nat) =>
  evV (TT.one (Ty.agg G47)) (loadV E0 S1 48 (.pointer (some ⟨b2, b3 + 0, none⟩))) fun (x1 : Int × Int × Int × Int × Int × Int) =>
  evC E0 tI 60 [sv G47 x1] S1 fun (n1 : Int) (S2 : St) =>
  ifW (!eqI n1 0) (k (.int .i64 280) S2)
  (ptrW (some ⟨b1, 0, none⟩) fun (b4 b5 : Nat) =>
  evV tI (loadV E0 S2 43 (.pointer (some ⟨b4, b5 + 6, none⟩))) fun (n2 : Int) =>
  ifW (ltI n2 0) (k (.int .i64 280) S2)
  (ptrW (some ⟨b1, 0, none⟩) fun (b6 b7 : Nat) =>
  evV tI (loadV E0 S2 43 (.pointer (some ⟨b6, b7 + 6, none⟩))) fun (n3 : Int) =>
  ifW (ltI 999 n3) (k (.int .i64 280) S2)
  (ptrW (some ⟨b1, 0, none⟩) fun (b8 b9 : Nat) =>
  evV tS (loadV E0 S2 49 (.pointer (some ⟨b8, b9 + 7, none⟩))) fun (s1 : Sl) =>
  ifW (ltI 1000 (↑s1.len : Int)) (k (.int .i64 280) S2)
  (ptrW (some ⟨b1, 0, none⟩) fun (b10 b11 : Nat) =>
  evV tI (loadV E0 S2 43 (.pointer (some ⟨b10, b11 + 6, none⟩))) fun (n4 : Int) =>
  ifW (!eqI n4 0)
  (ptrW (some ⟨b1, 0, none⟩) fun (b12 b13 : Nat) =>
  evV tS (loadV E0 S2 49 (.pointer (some ⟨b12, b13 + 7, none⟩))) fun (s2 : Sl) =>
  ifW (ltI 0 (↑s2.len : Int)) (k (.int .i64 280) S2)
  (ptrW (some ⟨b1, 0, none⟩) fun (b14 b15 : Nat) =>
  evV tS (loadV E0 S2 49 (.pointer (some ⟨b14, b15 + 7, none⟩))) fun (s3 : Sl) =>
  evC E0 tB 61 [.slice s3.a s3.len s3.cap, .func (Fn.func 59) #[] #[]] S2 fun (t1 : Bool) (S3 : St) =>
  ifW t1 (k (.int .i64 280) S3) (k (.int .i64 0) S3)))
  (ptrW (some ⟨b1, 0, none⟩) fun (b16 b17 : Nat) =>
  evV tS (loadV E0 S2 49 (.pointer (some ⟨b16, b17 + 7, none⟩))) fun (s4 : Sl) =>
  evC E0 tB 61 [.slice s4.a s4.len s4.cap, .func (Fn.func 59) #[] #[]] S2 fun (t2 : Bool) (S4 : St) =>
  ifW t2 (k (.int .i64 280) S4) (k (.int .i64 0) S4))))))
theorem w27 (x_0 : Int × Int × Int × Int × Int × Int × Int × Sl) {S : St} {k : Value → St → Prop} (h : c27 x_0 S k) : WC E0 27 [sv G50 x_0] S k :=
  WC_den h27 rfl (by kernel_rfl) (by kernel_rfl : Tryd.f27.body = some (bodyOf Tryd.f27)) (by rw [show (denF E0 h27 Tryd.f27 (bodyOf Tryd.f27) [sv G50 x_0] S k) = c27 x_0 S k by kernel_rfl]; exact h)

/-! 28 wagonway/order.Line -/
noncomputable def h28 : Hn := (.n .no (.n .no (.n .no (.n (.n .no (.n (.n .no (.n (.n .no (.n .no .no (some ⟨[5], [(7, .sc .str)], false⟩)) none) .no none) (some ⟨[], [(20, .sc (.int .u8))], false⟩)) .no none) none) .no none) none) none) none)
def c28 (x_0 : Int × Int × Int × Int × Int × Int) (S : St) (k : Value → St → Prop) : Prop :=
  newW S
  (.cells
  [.int .i64 x_0.1, .int .i64 x_0.2.1, .int .i64 x_0.2.2.1, .int .i64 x_0.2.2.2.1, .int .i64 x_0.2.2.2.2.1,
  .int .u64 x_0.2.2.2.2.2]
  none false none)
  fun (b1 : Nat) (S1 : St) =>
  evV (TT.one (Ty.agg G47)) (loadV E0 S1 48 (.pointer (some ⟨b1, 0, none⟩))) fun (x1 : Int × Int × Int × Int × Int × Int) =>
  evC E0 tI 60 [sv G47 x1] S1 fun (n1 : Int) (S2 : St) =>
  ifW (!eqI n1 0) (k (.tuple #[.string { data := #[] }, .int .i64 n1]) S2)
  (ptrW (some ⟨b1, 0, none⟩) fun (b2 b3 : Nat) =>
  evV tI (loadV E0 S2 3 (.pointer (some ⟨b2, b3 + 0, none⟩))) fun (n2 : Int) =>
  evC E0 tT 62 [.int .i64 n2] S2 fun (l1 : List UInt8) (S3 : St) =>
  newW S3 (.cells [.string { data := List.toArray l1 }] none false none) fun (b4 : Nat) (S4 : St) =>
  newW S4 (.cells [.slice none 0 0] none false none) fun (b5 : Nat) (S5 : St) =>
  evS (storeV E0 S5 74 (.pointer (some ⟨b5, 0, none⟩)) (.slice (some ⟨b4, 0, none⟩) 1 1)) fun (S6 : St) =>
  ptrW (some ⟨b1, 0, none⟩) fun (b6 b7 : Nat) =>
  evV tI (loadV E0 S6 3 (.pointer (some ⟨b6, b7 + 0, none⟩))) fun (n3 : Int) =>
  evC E0 tA 63 [.int .i64 n3] S6 fun (v1 : Value) (S7 : St) =>
  newW S7 DObj.deferred fun (b8 : Nat) (S8 : St) =>
  ∀ (b9 : Nat) (S9 : St) (k1 : LoopState → Option Code → DObj),
  b9 = S8.next →
  S9 = (St.alloc S8 (k1 LoopState.ready none)).2 →
  (LoopL fun (x2 : LoopState) (p1 : Option Code) => k1 x2 p1) →
  (RoundH E0 b9 [Ty.sc (Sc.int .u8)] fun (n4 : Int) (S10 : St) (k2 : Bool → St → Prop) =>
  hasW S10 b9 (k1 LoopState.ready none)
  (hasW S10 b9 (k1 LoopState.ready none)
  (updW S10 b9 (k1 LoopState.busy none) fun (S11 : St) =>
  ptrW (some ⟨b1, 0, none⟩) fun (b10 b11 : Nat) =>
  evV tI (loadV E0 S11 3 (.pointer (some ⟨b10, b11 + 2, none⟩))) fun (n5 : Int) =>
  evC E0 tT 29 [.int .i64 n5] S11 fun (l2 : List UInt8) (S12 : St) =>
  joinW
  (fun (l3 : List UInt8) (S13 : St) =>
  evV tS (loadV E0 S13 74 (.pointer (some ⟨b5, 0, none⟩))) fun (s1 : Sl) =>
  newW S13 (.cells [.string { data := List.toArray l3 }] none false none) fun (b12 : Nat) (S14 : St) =>
  evP tS (appendD E0 S14 74 74 (.slice s1.a s1.len s1.cap) (.slice (some ⟨b12, 0, none⟩) 1 1)) fun (s2 : Sl) (S15 : St) =>
  evS (storeV E0 S15 74 (.pointer (some ⟨b5, 0, none⟩)) (.slice s2.a s2.len s2.cap)) fun (S16 : St) =>
  hasW S16 b9 (k1 LoopState.busy none) (updW S16 b9 (k1 LoopState.ready none) fun (S17 : St) => k2 true S17))
  fun (k3 : List UInt8 → St → Prop) =>
  ifW (eqI n4 114)
  (ptrW (some ⟨b1, 0, none⟩) fun (b13 b14 : Nat) =>
  evV tI (loadV E0 S12 3 (.pointer (some ⟨b13, b14 + 1, none⟩))) fun (n6 : Int) =>
  evC E0 tT 29 [.int .i64 n6] S12 fun (l4 : List UInt8) (S18 : St) => k3 l4 S18)
  (ifW (eqI n4 100)
  (ptrW (some ⟨b1, 0, none⟩) fun (b15 b16 : Nat) =>
  evV tU (loadV E0 S12 46 (.pointer (some ⟨b15, b16 + 5, none⟩))) fun (n7 : Int) =>
  evC E0 tT 64 [.int .u64 n7, .int .i64 10] S12 fun (l5 : List UInt8) (S19 : St) => k3 l5 S19)
  (ifW (eqI n4 97)
  (ptrW (some ⟨b1, 0, none⟩) fun (b17 b18 : Nat) =>
  evV tI (loadV E0 S12 3 (.pointer (some ⟨b17, b18 + 3, none⟩))) fun (n8 : Int) =>
  evC E0 tT 29 [.int .i64 n8] S12 fun (l6 : List UInt8) (S20 : St) => k3 l6 S20)
  (ifW (eqI n4 119)
  (ptrW (some ⟨b1, 0, none⟩) fun (b19 b20 : Nat) =>
  evV tI (loadV E0 S12 3 (.pointer (some ⟨b19, b20 + 4, none⟩))) fun (n9 : Int) =>
  evC E0 tT 29 [.int .i64 n9] S12 fun (l7 : List UInt8) (S21 : St) => k3 l7 S21)
  (ifW (eqI n4 117)
  (ptrW (some ⟨b1, 0, none⟩) fun (b21 b22 : Nat) =>
  evV tI (loadV E0 S12 3 (.pointer (some ⟨b21, b22 + 2, none⟩))) fun (n10 : Int) =>
  ifW (ltI n10 0) (k3 [UInt8.ofNat 97, UInt8.ofNat 108, UInt8.ofNat 108] S12) (k3 l2 S12))
  (k3 l2 S12)))))))) →
  WG E0 v1 b9 S9 fun (S22 : St) =>
  hasW S22 b9 (k1 LoopState.ready none)
  (updW S22 b9 (k1 LoopState.exhausted none) fun (S23 : St) =>
  evV tS (loadV E0 S23 74 (.pointer (some ⟨b5, 0, none⟩))) fun (s3 : Sl) =>
  evC E0 tT 30 [.slice s3.a s3.len s3.cap, .string { data := #[UInt8.ofNat 32] }] S23 fun (l8 : List UInt8) (S24 : St) =>
  hasW S24 b8 DObj.deferred (updW S24 b8 DObj.dead fun (S25 : St) => k (.tuple #[.string { data := List.toArray l8 }, .int .i64 0]) S25)) ∨
  False)
theorem w28 (x_0 : Int × Int × Int × Int × Int × Int) {S : St} {k : Value → St → Prop} (h : c28 x_0 S k) : WC E0 28 [sv G47 x_0] S k :=
  WC_den h28 rfl (by kernel_rfl) (by kernel_rfl : Tryd.f28.body = some (bodyOf Tryd.f28)) (by rw [show (denF E0 h28 Tryd.f28 (bodyOf Tryd.f28) [sv G47 x_0] S k) = c28 x_0 S k by kernel_rfl]; exact h)

/-! 29 strconv.Itoa -/
noncomputable def h29 : Hn := .no
def c29 (i_0 : Int) (S : St) (k : Value → St → Prop) : Prop :=
  evC E0 tT 65 [.int .i64 i_0] S fun (l1 : List UInt8) (S1 : St) => k (.string { data := List.toArray l1 }) S1
theorem w29 (i_0 : Int) {S : St} {k : Value → St → Prop} (h : c29 i_0 S k) : WC E0 29 [.int .i64 i_0] S k :=
  WC_den h29 rfl (by kernel_rfl) (by kernel_rfl : Tryd.f29.body = some (bodyOf Tryd.f29)) (by rw [show (denF E0 h29 Tryd.f29 (bodyOf Tryd.f29) [.int .i64 i_0] S k) = c29 i_0 S k by kernel_rfl]; exact h)

/-! 33 wagonway/diary.number -/
noncomputable def h33 : Hn := .no
def c33 (s_0 : List UInt8) (S : St) (k : Value → St → Prop) : Prop :=
  evC E0 (TT.tup [Ty.sc (Sc.int .i64), Ty.sc Sc.any]) 69 [.string { data := List.toArray s_0 }] S fun (x1 : Int × Value) (S1 : St) =>
    match x1.2, Value.nilIface with
    | Value.int x2 n1, Value.int x3 n2 =>
      Bool.rec False (ifW (!eqI n1 n2) (k (.int .i64 (-1)) S1) (k (.int .i64 x1.1) S1))
        (match x2, x3 with
        | .i8, .i8 => true
        | .i16, .i16 => true
        | .i32, .i32 => true
        | .i64, .i64 => true
        | .u8, .u8 => true
        | .u16, .u16 => true
        | .u32, .u32 => true
        | .u64, .u64 => true
        | x14, x15 => false)
    | .string x16, .string x17 => ifW (!x16.data.toList == x17.data.toList) (k (.int .i64 (-1)) S1) (k (.int .i64 x1.1) S1)
    | v3, v4 =>
      needB
        (match v3, v4 with
        | Value.nilIface, Value.nilIface => true
        | .agg x19, .agg x20 => false
        | v7, v8 => true)
        (eqW E0 S1 96 v3 v4 fun (t2 : Bool) => ifW (!t2) (k (.int .i64 (-1)) S1) (k (.int .i64 x1.1) S1))
theorem w33 (s_0 : List UInt8) {S : St} {k : Value → St → Prop} (h : c33 s_0 S k) : WC E0 33 [.string ⟨s_0.toArray⟩] S k :=
  WC_den h33 rfl (by kernel_rfl) (by kernel_rfl : Tryd.f33.body = some (bodyOf Tryd.f33)) (by rw [show (denF E0 h33 Tryd.f33 (bodyOf Tryd.f33) [.string ⟨s_0.toArray⟩] S k) = c33 s_0 S k by kernel_rfl]; exact h)

/-! 34 wagonway/order.Read -/
noncomputable def h34 : Hn := (.n .no (.n .no (.n .no (.n (.n .no (.n (.n .no .no (some ⟨[0, 2, 4, 5], [(17, .sc (.int .i64))], false⟩)) .no none) none) (.n .no (.n .no (.n (.n .no (.n (.n .no .no (some ⟨[], [(40, .sc (.int .u8))], false⟩)) .no none) none) .no none) none) none) none) none) none) none)
def c34 (s_0 : List UInt8) (S : St) (k : Value → St → Prop) : Prop :=
  newW S (.cells [.int .i64 0, .int .i64 0, .int .i64 0, .int .i64 0, .int .i64 0, .int .u64 0] none false none) fun (b1 : Nat) (S1 : St) =>
  evC E0 tS 32 [.string { data := List.toArray s_0 }, .string { data := #[UInt8.ofNat 32] }] S1 fun (s1 : Sl) (S2 : St) =>
  newW S2 (.cells [.slice none 0 0] none false none) fun (b2 : Nat) (S3 : St) =>
  evS (storeV E0 S3 74 (.pointer (some ⟨b2, 0, none⟩)) (.slice s1.a s1.len s1.cap)) fun (S4 : St) =>
  newW S4 (.cells [.int .i64 0, .int .i64 0, .int .i64 0, .int .i64 0, .int .i64 0, .int .u64 0] none false none)
  fun (b3 : Nat) (S5 : St) =>
  evS
  (storeV E0 S5 48 (.pointer (some ⟨b3, 0, none⟩))
  (.agg #[.int .i64 0, .int .i64 0, .int .i64 0, .int .i64 0, .int .i64 0, .int .u64 0]))
  fun (S6 : St) =>
  loopW
  (fun (k1 : Int → St → Prop) (n1 : Int) (S7 : St) =>
  ifW (ltI n1 10)
  (ifW (ltI 0 n1)
  (idxW (some ⟨2, 0, none⟩) 10 n1 fun (b4 b5 : Nat) =>
  evV tT (loadV E0 S7 9 (.pointer (some ⟨b4, b5 + Int.toNat n1 * 1, none⟩))) fun (l1 : List UInt8) =>
  evV tS (loadV E0 S7 74 (.pointer (some ⟨b2, 0, none⟩))) fun (s2 : Sl) =>
  idxW s2.a s2.len 0 fun (b6 b7 : Nat) =>
  evV tT (loadV E0 S7 9 (.pointer (some ⟨b6, b7 + Int.toNat 0 * 1, none⟩))) fun (l2 : List UInt8) =>
  ifW (l1 == l2)
  (ptrW (some ⟨b3, 0, none⟩) fun (b8 b9 : Nat) =>
  evS (storeV E0 S7 3 (.pointer (some ⟨b8, b9 + 0, none⟩)) (.int .i64 n1)) fun (S8 : St) => k1 (wrapI .i64 (n1 + 1)) S8)
  (k1 (wrapI .i64 (n1 + 1)) S7))
  (k1 (wrapI .i64 (n1 + 1)) S7))
  (evV tS (loadV E0 S7 74 (.pointer (some ⟨b2, 0, none⟩))) fun (s3 : Sl) =>
  evV tS (sliceD E0 S7 74 (.slice s3.a s3.len s3.cap) (some (.int .i64 1)) none none) fun (s4 : Sl) =>
  evS (storeV E0 S7 74 (.pointer (some ⟨b2, 0, none⟩)) (.slice s4.a s4.len s4.cap)) fun (S9 : St) =>
  newW S9 (.cells [Value.nilFunc] none false none) fun (b10 : Nat) (S10 : St) =>
  evS (storeV E0 S10 99 (.pointer (some ⟨b10, 0, none⟩)) (.func (Fn.func 70) #[] #[.pointer (some ⟨b2, 0, none⟩)])) fun (S11 : St) =>
  ptrW (some ⟨b3, 0, none⟩) fun (b11 b12 : Nat) =>
  evV tI (loadV E0 S11 3 (.pointer (some ⟨b11, b12 + 0, none⟩))) fun (n2 : Int) =>
  evC E0 tA 63 [.int .i64 n2] S11 fun (v1 : Value) (S12 : St) =>
  newW S12 DObj.deferred fun (b13 : Nat) (S13 : St) =>
  ∀ (b14 : Nat) (S14 : St) (k2 : LoopState → Option Code → DObj),
  b14 = S13.next →
  S14 = (St.alloc S13 (k2 LoopState.ready none)).2 →
  (LoopL fun (x1 : LoopState) (p1 : Option Code) => k2 x1 p1) →
  (RoundH E0 b14 [Ty.sc (Sc.int .u8)] fun (n3 : Int) (S15 : St) (k3 : Bool → St → Prop) =>
  hasW S15 b14 (k2 LoopState.ready none)
  (hasW S15 b14 (k2 LoopState.ready none)
  (updW S15 b14 (k2 LoopState.busy none) fun (S16 : St) =>
  evV tA (loadV E0 S16 99 (.pointer (some ⟨b10, 0, none⟩))) fun (v2 : Value) =>
  evY E0 tT v2 [] S16 fun (l3 : List UInt8) (S17 : St) =>
  evC E0 (TT.tup [Ty.sc (Sc.int .i64), Ty.sc Sc.any]) 69 [.string { data := List.toArray l3 }] S17 fun (x2 : Int × Value) (S18 : St) =>
  ifW (eqI n3 114)
  (ptrW (some ⟨b3, 0, none⟩) fun (b15 b16 : Nat) =>
  evS (storeV E0 S18 3 (.pointer (some ⟨b15, b16 + 1, none⟩)) (.int .i64 x2.1)) fun (S19 : St) =>
  hasW S19 b14 (k2 LoopState.busy none) (updW S19 b14 (k2 LoopState.ready none) fun (S20 : St) => k3 true S20))
  (ifW (eqI n3 100)
  (evC E0 (TT.tup [Ty.sc (Sc.int .u64), Ty.sc Sc.any]) 71
  [.string { data := List.toArray l3 }, .int .i64 10, .int .i64 64] S18 fun (x3 : Int × Value) (S21 : St) =>
  ptrW (some ⟨b3, 0, none⟩) fun (b17 b18 : Nat) =>
  evS (storeV E0 S21 46 (.pointer (some ⟨b17, b18 + 5, none⟩)) (.int .u64 x3.1)) fun (S22 : St) =>
  hasW S22 b14 (k2 LoopState.busy none) (updW S22 b14 (k2 LoopState.ready none) fun (S23 : St) => k3 true S23))
  (ifW (eqI n3 97)
  (ptrW (some ⟨b3, 0, none⟩) fun (b19 b20 : Nat) =>
  evS (storeV E0 S18 3 (.pointer (some ⟨b19, b20 + 3, none⟩)) (.int .i64 x2.1)) fun (S24 : St) =>
  hasW S24 b14 (k2 LoopState.busy none) (updW S24 b14 (k2 LoopState.ready none) fun (S25 : St) => k3 true S25))
  (ifW (eqI n3 119)
  (ptrW (some ⟨b3, 0, none⟩) fun (b21 b22 : Nat) =>
  evS (storeV E0 S18 3 (.pointer (some ⟨b21, b22 + 4, none⟩)) (.int .i64 x2.1)) fun (S26 : St) =>
  hasW S26 b14 (k2 LoopState.busy none) (updW S26 b14 (k2 LoopState.ready none) fun (S27 : St) => k3 true S27))
  (ptrW (some ⟨b3, 0, none⟩) fun (b23 b24 : Nat) =>
  evS (storeV E0 S18 3 (.pointer (some ⟨b23, b24 + 2, none⟩)) (.int .i64 x2.1)) fun (S28 : St) =>
  ifW (eqI n3 117)
  (ifW (l3 == [UInt8.ofNat 97, UInt8.ofNat 108, UInt8.ofNat 108])
  (ptrW (some ⟨b3, 0, none⟩) fun (b25 b26 : Nat) =>
  evS (storeV E0 S28 3 (.pointer (some ⟨b25, b26 + 2, none⟩)) (.int .i64 (-1))) fun (S29 : St) =>
  hasW S29 b14 (k2 LoopState.busy none) (updW S29 b14 (k2 LoopState.ready none) fun (S30 : St) => k3 true S30))
  (hasW S28 b14 (k2 LoopState.busy none) (updW S28 b14 (k2 LoopState.ready none) fun (S31 : St) => k3 true S31)))
  (hasW S28 b14 (k2 LoopState.busy none) (updW S28 b14 (k2 LoopState.ready none) fun (S32 : St) => k3 true S32))))))))) →
  WG E0 v1 b14 S14 fun (S33 : St) =>
  hasW S33 b14 (k2 LoopState.ready none)
  (updW S33 b14 (k2 LoopState.exhausted none) fun (S34 : St) =>
  evV (TT.one (Ty.agg G47)) (loadV E0 S34 48 (.pointer (some ⟨b3, 0, none⟩))) fun (x4 : Int × Int × Int × Int × Int × Int) =>
  evC E0 (TT.tup [Ty.sc Sc.str, Ty.sc (Sc.int .i64)]) 28 [sv G47 x4] S34 fun (x5 : List UInt8 × Int) (S35 : St) =>
  ifW (!eqI x5.2 0)
  (evS
  (storeV E0 S35 48 (.pointer (some ⟨b1, 0, none⟩))
  (.agg
  #[.int .i64 0, .int .i64 0, .int .i64 0, .int .i64 0, .int .i64 0, .int .u64 0]))
  fun (S36 : St) =>
  hasW S36 b13 DObj.deferred
  (updW S36 b13 DObj.dead fun (S37 : St) =>
  evV (TT.one (Ty.agg G47)) (loadV E0 S37 48 (.pointer (some ⟨b1, 0, none⟩))) fun (x6 : Int × Int × Int × Int × Int × Int) =>
  k (.tuple #[sv G47 x6, .int .i64 230]) S37))
  (ifW (!x5.1 == s_0)
  (evS
  (storeV E0 S35 48 (.pointer (some ⟨b1, 0, none⟩))
  (.agg
  #[.int .i64 0, .int .i64 0, .int .i64 0, .int .i64 0, .int .i64 0,
  .int .u64 0]))
  fun (S38 : St) =>
  hasW S38 b13 DObj.deferred
  (updW S38 b13 DObj.dead fun (S39 : St) =>
  evV (TT.one (Ty.agg G47)) (loadV E0 S39 48 (.pointer (some ⟨b1, 0, none⟩))) fun (x7 : Int × Int × Int × Int × Int × Int) =>
  k (.tuple #[sv G47 x7, .int .i64 230]) S39))
  (evV (TT.one (Ty.agg G47)) (loadV E0 S35 48 (.pointer (some ⟨b3, 0, none⟩))) fun (x8 : Int × Int × Int × Int × Int × Int) =>
  evS (storeV E0 S35 48 (.pointer (some ⟨b1, 0, none⟩)) (sv G47 x8)) fun (S40 : St) =>
  hasW S40 b13 DObj.deferred
  (updW S40 b13 DObj.dead fun (S41 : St) =>
  evV (TT.one (Ty.agg G47)) (loadV E0 S41 48 (.pointer (some ⟨b1, 0, none⟩))) fun (x9 : Int × Int × Int × Int × Int × Int) =>
  k (.tuple #[sv G47 x9, .int .i64 0]) S41)))) ∨
  False))
  0 S6
theorem w34 (s_0 : List UInt8) {S : St} {k : Value → St → Prop} (h : c34 s_0 S k) : WC E0 34 [.string ⟨s_0.toArray⟩] S k :=
  WC_den h34 rfl (by kernel_rfl) (by kernel_rfl : Tryd.f34.body = some (bodyOf Tryd.f34)) (by rw [show (denF E0 h34 Tryd.f34 (bodyOf Tryd.f34) [.string ⟨s_0.toArray⟩] S k) = c34 s_0 S k by kernel_rfl]; exact h)

/-! 35 wagonway/diary.steps -/
noncomputable def h35 : Hn := .no
def c35 (l_0 : Sl) (S : St) (k : Value → St → Prop) : Prop :=
  newW S (.cells [.slice l_0.a l_0.len l_0.cap] none false none) fun (b1 : Nat) (S1 : St) => k (.func (Fn.func 72) #[] #[.pointer (some ⟨b1, 0, none⟩)]) S1
theorem w35 (l_0 : Sl) {S : St} {k : Value → St → Prop} (h : c35 l_0 S k) : WC E0 35 [.slice l_0.a l_0.len l_0.cap] S k :=
  WC_den h35 rfl (by kernel_rfl) (by kernel_rfl : Tryd.f35.body = some (bodyOf Tryd.f35)) (by rw [show (denF E0 h35 Tryd.f35 (bodyOf Tryd.f35) [.slice l_0.a l_0.len l_0.cap] S k) = c35 l_0 S k by kernel_rfl]; exact h)

/-! 36 wagonway/diary.may -/
noncomputable def h36 : Hn := .no
def c36 (x_0 : Int × Int × Int) (S : St) (k : Value → St → Prop) : Prop :=
  newW S (.cells [.int .i64 x_0.1, .int .i64 x_0.2.1, .int .i64 x_0.2.2] none false none) fun (b1 : Nat) (S1 : St) =>
  ptrW (some ⟨b1, 0, none⟩) fun (b2 b3 : Nat) =>
  evV tI (loadV E0 S1 3 (.pointer (some ⟨b2, b3 + 0, none⟩))) fun (n1 : Int) =>
  ifW (leI 1 n1)
  (ptrW (some ⟨b1, 0, none⟩) fun (b4 b5 : Nat) =>
  evV tI (loadV E0 S1 3 (.pointer (some ⟨b4, b5 + 0, none⟩))) fun (n2 : Int) =>
  ifW (leI n2 3)
  (ptrW (some ⟨b1, 0, none⟩) fun (b6 b7 : Nat) =>
  evV tI (loadV E0 S1 3 (.pointer (some ⟨b6, b7 + 1, none⟩))) fun (n3 : Int) =>
  ifW (leI 0 n3)
  (ptrW (some ⟨b1, 0, none⟩) fun (b8 b9 : Nat) =>
  evV tI (loadV E0 S1 3 (.pointer (some ⟨b8, b9 + 1, none⟩))) fun (n4 : Int) =>
  ifW (ltI n4 64)
  (ptrW (some ⟨b1, 0, none⟩) fun (b10 b11 : Nat) =>
  evV tI (loadV E0 S1 3 (.pointer (some ⟨b10, b11 + 2, none⟩))) fun (n5 : Int) =>
  ifW (leI 0 n5)
  (ptrW (some ⟨b1, 0, none⟩) fun (b12 b13 : Nat) =>
  evV tI (loadV E0 S1 3 (.pointer (some ⟨b12, b13 + 2, none⟩))) fun (n6 : Int) => k (.bool (ltI n6 1024)) S1)
  (k (.bool false) S1))
  (k (.bool false) S1))
  (k (.bool false) S1))
  (k (.bool false) S1))
  (k (.bool false) S1)
theorem w36 (x_0 : Int × Int × Int) {S : St} {k : Value → St → Prop} (h : c36 x_0 S k) : WC E0 36 [sv G32 x_0] S k :=
  WC_den h36 rfl (by kernel_rfl) (by kernel_rfl : Tryd.f36.body = some (bodyOf Tryd.f36)) (by rw [show (denF E0 h36 Tryd.f36 (bodyOf Tryd.f36) [sv G32 x_0] S k) = c36 x_0 S k by kernel_rfl]; exact h)

/-! 39 (*strings.Builder).WriteString -/
noncomputable def h39 : Hn := .no
def c39 (b_0 : Option Addr) (s_1 : List UInt8) (S : St) (k : Value → St → Prop) : Prop :=
  evC E0 (TT.tup []) 75 [.pointer b_0] S fun (x1 : PUnit) (S1 : St) =>
  ptrW b_0 fun (b1 b2 : Nat) =>
  ptrW (some ⟨b1, b2, none⟩) fun (b3 b4 : Nat) =>
  evV tS (loadV E0 S1 92 (.pointer (some ⟨b3, b4 + 1, none⟩))) fun (s1 : Sl) =>
  evP tS (appendD E0 S1 92 9 (.slice s1.a s1.len s1.cap) (.string { data := List.toArray s_1 })) fun (s2 : Sl) (S2 : St) =>
  ptrW b_0 fun (b5 b6 : Nat) =>
  ptrW (some ⟨b5, b6, none⟩) fun (b7 b8 : Nat) =>
  evS (storeV E0 S2 92 (.pointer (some ⟨b7, b8 + 1, none⟩)) (.slice s2.a s2.len s2.cap)) fun (S3 : St) =>
  k (.tuple #[.int .i64 (↑(List.length s_1) : Int), Value.nilIface]) S3
theorem w39 (b_0 : Option Addr) (s_1 : List UInt8) {S : St} {k : Value → St → Prop} (h : c39 b_0 s_1 S k) : WC E0 39 [.pointer b_0, .string ⟨s_1.toArray⟩] S k :=
  WC_den h39 rfl (by kernel_rfl) (by kernel_rfl : Tryd.f39.body = some (bodyOf Tryd.f39)) (by rw [show (denF E0 h39 Tryd.f39 (bodyOf Tryd.f39) [.pointer b_0, .string ⟨s_1.toArray⟩] S k) = c39 b_0 s_1 S k by kernel_rfl]; exact h)

/-! 41 strings.Lines -/
noncomputable def h41 : Hn := .no
def c41 (s_0 : List UInt8) (S : St) (k : Value → St → Prop) : Prop :=
  newW S (.cells [.string { data := List.toArray s_0 }] none false none) fun (b1 : Nat) (S1 : St) => k (.func (Fn.func 76) #[] #[.pointer (some ⟨b1, 0, none⟩)]) S1
theorem w41 (s_0 : List UInt8) {S : St} {k : Value → St → Prop} (h : c41 s_0 S k) : WC E0 41 [.string ⟨s_0.toArray⟩] S k :=
  WC_den h41 rfl (by kernel_rfl) (by kernel_rfl : Tryd.f41.body = some (bodyOf Tryd.f41)) (by rw [show (denF E0 h41 Tryd.f41 (bodyOf Tryd.f41) [.string ⟨s_0.toArray⟩] S k) = c41 s_0 S k by kernel_rfl]; exact h)

/-! 42 strings.TrimSuffix -/
noncomputable def h42 : Hn := .no
def c42 (s_0 : List UInt8) (suffix_1 : List UInt8) (S : St) (k : Value → St → Prop) : Prop :=
  evC E0 tT 78 [.string { data := List.toArray s_0 }, .string { data := List.toArray suffix_1 }] S fun (l1 : List UInt8) (S1 : St) => k (.string { data := List.toArray l1 }) S1
theorem w42 (s_0 : List UInt8) (suffix_1 : List UInt8) {S : St} {k : Value → St → Prop} (h : c42 s_0 suffix_1 S k) : WC E0 42 [.string ⟨s_0.toArray⟩, .string ⟨suffix_1.toArray⟩] S k :=
  WC_den h42 rfl (by kernel_rfl) (by kernel_rfl : Tryd.f42.body = some (bodyOf Tryd.f42)) (by rw [show (denF E0 h42 Tryd.f42 (bodyOf Tryd.f42) [.string ⟨s_0.toArray⟩, .string ⟨suffix_1.toArray⟩] S k) = c42 s_0 suffix_1 S k by kernel_rfl]; exact h)

/-! 43 strings.HasSuffix -/
noncomputable def h43 : Hn := .no
def c43 (s_0 : List UInt8) (suffix_1 : List UInt8) (S : St) (k : Value → St → Prop) : Prop :=
  evC E0 tB 79 [.string { data := List.toArray s_0 }, .string { data := List.toArray suffix_1 }] S fun (t1 : Bool) (S1 : St) => k (.bool t1) S1
theorem w43 (s_0 : List UInt8) (suffix_1 : List UInt8) {S : St} {k : Value → St → Prop} (h : c43 s_0 suffix_1 S k) : WC E0 43 [.string ⟨s_0.toArray⟩, .string ⟨suffix_1.toArray⟩] S k :=
  WC_den h43 rfl (by kernel_rfl) (by kernel_rfl : Tryd.f43.body = some (bodyOf Tryd.f43)) (by rw [show (denF E0 h43 Tryd.f43 (bodyOf Tryd.f43) [.string ⟨s_0.toArray⟩, .string ⟨suffix_1.toArray⟩] S k) = c43 s_0 suffix_1 S k by kernel_rfl]; exact h)

/-! 59 wagonway/diary.Check$1 -/
noncomputable def h59 : Hn := .no
def c59 (y_0 : Int × Int × Int) (S : St) (k : Value → St → Prop) : Prop :=
  newW S (.cells [.int .i64 y_0.1, .int .i64 y_0.2.1, .int .i64 y_0.2.2] none false none) fun (b1 : Nat) (S1 : St) =>
  evV (TT.one (Ty.agg G32)) (loadV E0 S1 76 (.pointer (some ⟨b1, 0, none⟩))) fun (x1 : Int × Int × Int) => evC E0 tB 36 [sv G32 x1] S1 fun (t1 : Bool) (S2 : St) => k (.bool !t1) S2
theorem w59 (y_0 : Int × Int × Int) {S : St} {k : Value → St → Prop} (h : c59 y_0 S k) : WC E0 59 [sv G32 y_0] S k :=
  WC_den h59 rfl (by kernel_rfl) (by kernel_rfl : Tryd.f59.body = some (bodyOf Tryd.f59)) (by rw [show (denF E0 h59 Tryd.f59 (bodyOf Tryd.f59) [sv G32 y_0] S k) = c59 y_0 S k by kernel_rfl]; exact h)

/-! 60 wagonway/order.Check -/
noncomputable def h60 : Hn := (.n .no (.n (.n .no (.n .no (.n .no (.n (.n .no (.n (.n .no .no (some ⟨[], [(16, .sc (.int .u8))], false⟩)) .no none) none) .no (some ⟨[1, 3, 4], [], true⟩)) none) none) none) .no none) none)
def c60 (x_0 : Int × Int × Int × Int × Int × Int) (S : St) (k : Value → St → Prop) : Prop :=
  newW S
  (.cells
  [.int .i64 x_0.1, .int .i64 x_0.2.1, .int .i64 x_0.2.2.1, .int .i64 x_0.2.2.2.1, .int .i64 x_0.2.2.2.2.1,
  .int .u64 x_0.2.2.2.2.2]
  none false none)
  fun (b1 : Nat) (S1 : St) =>
  ptrW (some ⟨b1, 0, none⟩) fun (b2 b3 : Nat) =>
  evV tI (loadV E0 S1 3 (.pointer (some ⟨b2, b3 + 0, none⟩))) fun (n1 : Int) =>
  newW S1 (.cells [.int .i64 0, .int .i64 0, .int .i64 0, .int .i64 0, .int .i64 0, .int .u64 0] none false none)
  fun (b4 : Nat) (S2 : St) =>
  evS
  (storeV E0 S2 48 (.pointer (some ⟨b4, 0, none⟩))
  (.agg #[.int .i64 n1, .int .i64 0, .int .i64 0, .int .i64 0, .int .i64 0, .int .u64 0]))
  fun (S3 : St) =>
  ptrW (some ⟨b1, 0, none⟩) fun (b5 b6 : Nat) =>
  evV tI (loadV E0 S3 3 (.pointer (some ⟨b5, b6 + 0, none⟩))) fun (n2 : Int) =>
  evC E0 tT 62 [.int .i64 n2] S3 fun (l1 : List UInt8) (S4 : St) =>
  newW S4 (.cells [.bool false] none false none) fun (b7 : Nat) (S5 : St) =>
  evS (storeV E0 S5 4 (.pointer (some ⟨b7, 0, none⟩)) (.bool !l1 == [])) fun (S6 : St) =>
  joinW
  (fun (x1 : List Nat × PUnit) (S7 : St) =>
  evV tB (loadV E0 S7 4 (.pointer (some ⟨b7, 0, none⟩))) fun (t1 : Bool) =>
  ifW (!t1) (shutW x1.1 S7 fun (S8 : St) => k (.int .i64 230) S8)
  (evV (TT.one (Ty.agg G47)) (loadV E0 S7 48 (.pointer (some ⟨b1, 0, none⟩))) fun (x2 : Int × Int × Int × Int × Int × Int) =>
  evV (TT.one (Ty.agg G47)) (loadV E0 S7 48 (.pointer (some ⟨b4, 0, none⟩))) fun (x3 : Int × Int × Int × Int × Int × Int) =>
  eqW E0 S7 48 (sv G47 x2) (sv G47 x3) fun (t2 : Bool) =>
  ifW (!t2) (shutW x1.1 S7 fun (S9 : St) => k (.int .i64 230) S9) (shutW x1.1 S7 fun (S10 : St) => k (.int .i64 0) S10)))
  fun (k1 : List Nat × PUnit → St → Prop) =>
  ptrW (some ⟨b1, 0, none⟩) fun (b8 b9 : Nat) =>
  evV tI (loadV E0 S6 3 (.pointer (some ⟨b8, b9 + 0, none⟩))) fun (n3 : Int) =>
  evC E0 tA 63 [.int .i64 n3] S6 fun (v1 : Value) (S11 : St) =>
  newW S11 DObj.deferred fun (b10 : Nat) (S12 : St) =>
  ∀ (b11 : Nat) (S13 : St) (k2 : LoopState → Option Code → DObj),
  b11 = S12.next →
  S13 = (St.alloc S12 (k2 LoopState.ready none)).2 →
  (LoopL fun (x4 : LoopState) (p1 : Option Code) => k2 x4 p1) →
  (RoundH E0 b11 [Ty.sc (Sc.int .u8)] fun (n4 : Int) (S14 : St) (k3 : Bool → St → Prop) =>
  hasW S14 b11 (k2 LoopState.ready none)
  (hasW S14 b11 (k2 LoopState.ready none)
  (updW S14 b11 (k2 LoopState.busy none) fun (S15 : St) =>
  ifW (eqI n4 114)
  (ptrW (some ⟨b1, 0, none⟩) fun (b12 b13 : Nat) =>
  evV tI (loadV E0 S15 3 (.pointer (some ⟨b12, b13 + 1, none⟩))) fun (n5 : Int) =>
  ptrW (some ⟨b1, 0, none⟩) fun (b14 b15 : Nat) =>
  evV tI (loadV E0 S15 3 (.pointer (some ⟨b14, b15 + 1, none⟩))) fun (n6 : Int) =>
  evC E0 tB 96 [.int .i64 n6, .int .i64 0, .int .i64 63] S15 fun (t3 : Bool) (S16 : St) =>
  evV tI (loadV E0 S16 3 (.pointer (some ⟨b12, b13 + 1, none⟩))) fun (n7 : Int) =>
  sameV (.int .i64 n7) (.int .i64 n5)
  (ptrW (some ⟨b4, 0, none⟩) fun (b16 b17 : Nat) =>
  evS (storeV E0 S16 3 (.pointer (some ⟨b16, b17 + 1, none⟩)) (.int .i64 n5)) fun (S17 : St) =>
  evS (storeV E0 S17 4 (.pointer (some ⟨b7, 0, none⟩)) (.bool t3)) fun (S18 : St) =>
  evV tB (loadV E0 S18 4 (.pointer (some ⟨b7, 0, none⟩))) fun (t4 : Bool) =>
  ifW (!t4) (hasW S18 b11 (k2 LoopState.busy none) (updW S18 b11 (k2 LoopState.done (some (Code.exit 0))) fun (S19 : St) => k3 false S19))
  (hasW S18 b11 (k2 LoopState.busy none) (updW S18 b11 (k2 LoopState.ready none) fun (S20 : St) => k3 true S20))))
  (ifW (eqI n4 100)
  (ptrW (some ⟨b1, 0, none⟩) fun (b18 b19 : Nat) =>
  evV tU (loadV E0 S15 46 (.pointer (some ⟨b18, b19 + 5, none⟩))) fun (n8 : Int) =>
  ptrW (some ⟨b4, 0, none⟩) fun (b20 b21 : Nat) =>
  evS (storeV E0 S15 46 (.pointer (some ⟨b20, b21 + 5, none⟩)) (.int .u64 n8)) fun (S21 : St) =>
  evV tB (loadV E0 S21 4 (.pointer (some ⟨b7, 0, none⟩))) fun (t5 : Bool) =>
  ifW (!t5) (hasW S21 b11 (k2 LoopState.busy none) (updW S21 b11 (k2 LoopState.done (some (Code.exit 0))) fun (S22 : St) => k3 false S22))
  (hasW S21 b11 (k2 LoopState.busy none) (updW S21 b11 (k2 LoopState.ready none) fun (S23 : St) => k3 true S23)))
  (ifW (eqI n4 112)
  (ptrW (some ⟨b1, 0, none⟩) fun (b22 b23 : Nat) =>
  evV tI (loadV E0 S15 3 (.pointer (some ⟨b22, b23 + 2, none⟩))) fun (n9 : Int) =>
  ptrW (some ⟨b1, 0, none⟩) fun (b24 b25 : Nat) =>
  evV tI (loadV E0 S15 3 (.pointer (some ⟨b24, b25 + 2, none⟩))) fun (n10 : Int) =>
  ptrW (some ⟨b4, 0, none⟩) fun (b26 b27 : Nat) =>
  evS (storeV E0 S15 3 (.pointer (some ⟨b26, b27 + 2, none⟩)) (.int .i64 n9)) fun (S24 : St) =>
  evV tI (loadV E0 S24 3 (.pointer (some ⟨b24, b25 + 2, none⟩))) fun (n11 : Int) =>
  sameV (.int .i64 n11) (.int .i64 n10)
  (evS (storeV E0 S24 4 (.pointer (some ⟨b7, 0, none⟩)) (.bool (leI 1 n10))) fun (S25 : St) =>
  evV tB (loadV E0 S25 4 (.pointer (some ⟨b7, 0, none⟩))) fun (t6 : Bool) =>
  ifW (!t6) (hasW S25 b11 (k2 LoopState.busy none) (updW S25 b11 (k2 LoopState.done (some (Code.exit 0))) fun (S26 : St) => k3 false S26))
  (hasW S25 b11 (k2 LoopState.busy none) (updW S25 b11 (k2 LoopState.ready none) fun (S27 : St) => k3 true S27))))
  (ifW (eqI n4 97)
  (ptrW (some ⟨b1, 0, none⟩) fun (b28 b29 : Nat) =>
  evV tI (loadV E0 S15 3 (.pointer (some ⟨b28, b29 + 3, none⟩))) fun (n12 : Int) =>
  ptrW (some ⟨b1, 0, none⟩) fun (b30 b31 : Nat) =>
  evV tI (loadV E0 S15 3 (.pointer (some ⟨b30, b31 + 3, none⟩))) fun (n13 : Int) =>
  ptrW (some ⟨b4, 0, none⟩) fun (b32 b33 : Nat) =>
  evS (storeV E0 S15 3 (.pointer (some ⟨b32, b33 + 3, none⟩)) (.int .i64 n12)) fun (S28 : St) =>
  evV tI (loadV E0 S28 3 (.pointer (some ⟨b30, b31 + 3, none⟩))) fun (n14 : Int) =>
  sameV (.int .i64 n14) (.int .i64 n13)
  (evS (storeV E0 S28 4 (.pointer (some ⟨b7, 0, none⟩)) (.bool (leI 0 n13))) fun (S29 : St) =>
  evV tB (loadV E0 S29 4 (.pointer (some ⟨b7, 0, none⟩))) fun (t7 : Bool) =>
  ifW (!t7) (hasW S29 b11 (k2 LoopState.busy none) (updW S29 b11 (k2 LoopState.done (some (Code.exit 0))) fun (S30 : St) => k3 false S30))
  (hasW S29 b11 (k2 LoopState.busy none) (updW S29 b11 (k2 LoopState.ready none) fun (S31 : St) => k3 true S31))))
  (ifW (eqI n4 119)
  (ptrW (some ⟨b1, 0, none⟩) fun (b34 b35 : Nat) =>
  evV tI (loadV E0 S15 3 (.pointer (some ⟨b34, b35 + 4, none⟩))) fun (n15 : Int) =>
  ptrW (some ⟨b1, 0, none⟩) fun (b36 b37 : Nat) =>
  evV tI (loadV E0 S15 3 (.pointer (some ⟨b36, b37 + 4, none⟩))) fun (n16 : Int) =>
  evC E0 tB 96 [.int .i64 n16, .int .i64 1, .int .i64 255] S15 fun (t8 : Bool) (S32 : St) =>
  evV tI (loadV E0 S32 3 (.pointer (some ⟨b34, b35 + 4, none⟩))) fun (n17 : Int) =>
  sameV (.int .i64 n17) (.int .i64 n15)
  (ptrW (some ⟨b4, 0, none⟩) fun (b38 b39 : Nat) =>
  evS (storeV E0 S32 3 (.pointer (some ⟨b38, b39 + 4, none⟩)) (.int .i64 n15)) fun (S33 : St) =>
  evS (storeV E0 S33 4 (.pointer (some ⟨b7, 0, none⟩)) (.bool t8)) fun (S34 : St) =>
  evV tB (loadV E0 S34 4 (.pointer (some ⟨b7, 0, none⟩))) fun (t9 : Bool) =>
  ifW (!t9) (hasW S34 b11 (k2 LoopState.busy none) (updW S34 b11 (k2 LoopState.done (some (Code.exit 0))) fun (S35 : St) => k3 false S35))
  (hasW S34 b11 (k2 LoopState.busy none) (updW S34 b11 (k2 LoopState.ready none) fun (S36 : St) => k3 true S36))))
  (ifW (eqI n4 99)
  (ptrW (some ⟨b1, 0, none⟩) fun (b40 b41 : Nat) =>
  evV tI (loadV E0 S15 3 (.pointer (some ⟨b40, b41 + 2, none⟩))) fun (n18 : Int) =>
  ptrW (some ⟨b1, 0, none⟩) fun (b42 b43 : Nat) =>
  evV tI (loadV E0 S15 3 (.pointer (some ⟨b42, b43 + 2, none⟩))) fun (n19 : Int) =>
  evC E0 tB 96 [.int .i64 n19, .int .i64 0, .int .i64 1023] S15 fun (t10 : Bool) (S37 : St) =>
  evV tI (loadV E0 S37 3 (.pointer (some ⟨b40, b41 + 2, none⟩))) fun (n20 : Int) =>
  sameV (.int .i64 n20) (.int .i64 n18)
  (ptrW (some ⟨b4, 0, none⟩) fun (b44 b45 : Nat) =>
  evS (storeV E0 S37 3 (.pointer (some ⟨b44, b45 + 2, none⟩)) (.int .i64 n18)) fun (S38 : St) =>
  evS (storeV E0 S38 4 (.pointer (some ⟨b7, 0, none⟩)) (.bool t10)) fun (S39 : St) =>
  evV tB (loadV E0 S39 4 (.pointer (some ⟨b7, 0, none⟩))) fun (t11 : Bool) =>
  ifW (!t11) (hasW S39 b11 (k2 LoopState.busy none) (updW S39 b11 (k2 LoopState.done (some (Code.exit 0))) fun (S40 : St) => k3 false S40))
  (hasW S39 b11 (k2 LoopState.busy none) (updW S39 b11 (k2 LoopState.ready none) fun (S41 : St) => k3 true S41))))
  (ifW (eqI n4 101)
  (ptrW (some ⟨b1, 0, none⟩) fun (b46 b47 : Nat) =>
  evV tI (loadV E0 S15 3 (.pointer (some ⟨b46, b47 + 2, none⟩))) fun (n21 : Int) =>
  ptrW (some ⟨b1, 0, none⟩) fun (b48 b49 : Nat) =>
  evV tI (loadV E0 S15 3 (.pointer (some ⟨b48, b49 + 2, none⟩))) fun (n22 : Int) =>
  evC E0 tB 96 [.int .i64 n22, .int .i64 0, .int .i64 1000] S15 fun (t12 : Bool) (S42 : St) =>
  evV tI (loadV E0 S42 3 (.pointer (some ⟨b46, b47 + 2, none⟩))) fun (n23 : Int) =>
  sameV (.int .i64 n23) (.int .i64 n21)
  (ptrW (some ⟨b4, 0, none⟩) fun (b50 b51 : Nat) =>
  evS (storeV E0 S42 3 (.pointer (some ⟨b50, b51 + 2, none⟩)) (.int .i64 n21)) fun (S43 : St) =>
  evS (storeV E0 S43 4 (.pointer (some ⟨b7, 0, none⟩)) (.bool t12)) fun (S44 : St) =>
  evV tB (loadV E0 S44 4 (.pointer (some ⟨b7, 0, none⟩))) fun (t13 : Bool) =>
  ifW (!t13)
  (hasW S44 b11 (k2 LoopState.busy none) (updW S44 b11 (k2 LoopState.done (some (Code.exit 0))) fun (S45 : St) => k3 false S45))
  (hasW S44 b11 (k2 LoopState.busy none) (updW S44 b11 (k2 LoopState.ready none) fun (S46 : St) => k3 true S46))))
  (ptrW (some ⟨b1, 0, none⟩) fun (b52 b53 : Nat) =>
  evV tI (loadV E0 S15 3 (.pointer (some ⟨b52, b53 + 2, none⟩))) fun (n24 : Int) =>
  ptrW (some ⟨b1, 0, none⟩) fun (b54 b55 : Nat) =>
  evV tI (loadV E0 S15 3 (.pointer (some ⟨b54, b55 + 2, none⟩))) fun (n25 : Int) =>
  evC E0 tB 96 [.int .i64 n25, .int .i64 (-1), .int .i64 1000] S15 fun (t14 : Bool) (S47 : St) =>
  evV tI (loadV E0 S47 3 (.pointer (some ⟨b52, b53 + 2, none⟩))) fun (n26 : Int) =>
  sameV (.int .i64 n26) (.int .i64 n24)
  (ptrW (some ⟨b4, 0, none⟩) fun (b56 b57 : Nat) =>
  evS (storeV E0 S47 3 (.pointer (some ⟨b56, b57 + 2, none⟩)) (.int .i64 n24)) fun (S48 : St) =>
  evS (storeV E0 S48 4 (.pointer (some ⟨b7, 0, none⟩)) (.bool t14)) fun (S49 : St) =>
  evV tB (loadV E0 S49 4 (.pointer (some ⟨b7, 0, none⟩))) fun (t15 : Bool) =>
  ifW (!t15)
  (hasW S49 b11 (k2 LoopState.busy none) (updW S49 b11 (k2 LoopState.done (some (Code.exit 0))) fun (S50 : St) => k3 false S50))
  (hasW S49 b11 (k2 LoopState.busy none) (updW S49 b11 (k2 LoopState.ready none) fun (S51 : St) => k3 true S51))))))))))))) →
  WG E0 v1 b11 S13 fun (S52 : St) =>
  hasW S52 b11 (k2 LoopState.ready none) (updW S52 b11 (k2 LoopState.exhausted none) fun (S53 : St) => k1 ([b10], PUnit.unit) S53) ∨
  hasW S52 b11 (k2 LoopState.done (some (Code.exit 0))) (updW S52 b11 (k2 LoopState.exhausted (some (Code.exit 0))) fun (S54 : St) => k1 ([b10], PUnit.unit) S54) ∨ False
theorem w60 (x_0 : Int × Int × Int × Int × Int × Int) {S : St} {k : Value → St → Prop} (h : c60 x_0 S k) : WC E0 60 [sv G47 x_0] S k :=
  WC_den h60 rfl (by kernel_rfl) (by kernel_rfl : Tryd.f60.body = some (bodyOf Tryd.f60)) (by rw [show (denF E0 h60 Tryd.f60 (bodyOf Tryd.f60) [sv G47 x_0] S k) = c60 x_0 S k by kernel_rfl]; exact h)

/-! 61 slices.ContainsFunc[[]wagonway/api.Step,wagonway/api.Step] -/
noncomputable def h61 : Hn := .no
def c61 (s_0 : Sl) (f_1 : Value) (S : St) (k : Value → St → Prop) : Prop :=
  evC E0 tI 97 [.slice s_0.a s_0.len s_0.cap, f_1] S fun (n1 : Int) (S1 : St) => k (.bool (leI 0 n1)) S1
theorem w61 (s_0 : Sl) (f_1 : Value) {S : St} {k : Value → St → Prop} (h : c61 s_0 f_1 S k) : WC E0 61 [.slice s_0.a s_0.len s_0.cap, f_1] S k :=
  WC_den h61 rfl (by kernel_rfl) (by kernel_rfl : Tryd.f61.body = some (bodyOf Tryd.f61)) (by rw [show (denF E0 h61 Tryd.f61 (bodyOf Tryd.f61) [.slice s_0.a s_0.len s_0.cap, f_1] S k) = c61 s_0 f_1 S k by kernel_rfl]; exact h)

/-! 62 wagonway/order.Name -/
noncomputable def h62 : Hn := .no
def c62 (kind_0 : Int) (S : St) (k : Value → St → Prop) : Prop :=
  ifW (ltI kind_0 0) (k (.string { data := #[] }) S)
  (ifW (leI 10 kind_0) (k (.string { data := #[] }) S)
  (idxW (some ⟨2, 0, none⟩) 10 kind_0 fun (b1 b2 : Nat) =>
  evV tT (loadV E0 S 9 (.pointer (some ⟨b1, b2 + Int.toNat kind_0 * 1, none⟩))) fun (l1 : List UInt8) => k (.string { data := List.toArray l1 }) S))
theorem w62 (kind_0 : Int) {S : St} {k : Value → St → Prop} (h : c62 kind_0 S k) : WC E0 62 [.int .i64 kind_0] S k :=
  WC_den h62 rfl (by kernel_rfl) (by kernel_rfl : Tryd.f62.body = some (bodyOf Tryd.f62)) (by rw [show (denF E0 h62 Tryd.f62 (bodyOf Tryd.f62) [.int .i64 kind_0] S k) = c62 kind_0 S k by kernel_rfl]; exact h)

/-! 63 wagonway/order.parts -/
noncomputable def h63 : Hn := .no
def c63 (kind_0 : Int) (S : St) (k : Value → St → Prop) : Prop :=
  newW S (.cells [.int .i64 kind_0] none false none) fun (b1 : Nat) (S1 : St) => k (.func (Fn.func 98) #[] #[.pointer (some ⟨b1, 0, none⟩)]) S1
theorem w63 (kind_0 : Int) {S : St} {k : Value → St → Prop} (h : c63 kind_0 S k) : WC E0 63 [.int .i64 kind_0] S k :=
  WC_den h63 rfl (by kernel_rfl) (by kernel_rfl : Tryd.f63.body = some (bodyOf Tryd.f63)) (by rw [show (denF E0 h63 Tryd.f63 (bodyOf Tryd.f63) [.int .i64 kind_0] S k) = c63 kind_0 S k by kernel_rfl]; exact h)

/-! 64 strconv.FormatUint -/
noncomputable def h64 : Hn := .no
def c64 (i_0 : Int) (base_1 : Int) (S : St) (k : Value → St → Prop) : Prop :=
  evC E0 tT 99 [.int .u64 i_0, .int .i64 base_1] S fun (l1 : List UInt8) (S1 : St) => k (.string { data := List.toArray l1 }) S1
theorem w64 (i_0 : Int) (base_1 : Int) {S : St} {k : Value → St → Prop} (h : c64 i_0 base_1 S k) : WC E0 64 [.int .u64 i_0, .int .i64 base_1] S k :=
  WC_den h64 rfl (by kernel_rfl) (by kernel_rfl : Tryd.f64.body = some (bodyOf Tryd.f64)) (by rw [show (denF E0 h64 Tryd.f64 (bodyOf Tryd.f64) [.int .u64 i_0, .int .i64 base_1] S k) = c64 i_0 base_1 S k by kernel_rfl]; exact h)

/-! 65 internal/strconv.Itoa -/
noncomputable def h65 : Hn := .no
def c65 (i_0 : Int) (S : St) (k : Value → St → Prop) : Prop :=
  evC E0 tT 100 [.int .i64 i_0, .int .i64 10] S fun (l1 : List UInt8) (S1 : St) => k (.string { data := List.toArray l1 }) S1
theorem w65 (i_0 : Int) {S : St} {k : Value → St → Prop} (h : c65 i_0 S k) : WC E0 65 [.int .i64 i_0] S k :=
  WC_den h65 rfl (by kernel_rfl) (by kernel_rfl : Tryd.f65.body = some (bodyOf Tryd.f65)) (by rw [show (denF E0 h65 Tryd.f65 (bodyOf Tryd.f65) [.int .i64 i_0] S k) = c65 i_0 S k by kernel_rfl]; exact h)

/-! 70 wagonway/order.Read$1 -/
noncomputable def h70 : Hn := .no
def c70 (c0 : Nat) (S : St) (k : Value → St → Prop) : Prop :=
  evV tS (loadV E0 S 74 (.pointer (some ⟨c0, 0, none⟩))) fun (s1 : Sl) =>
  ifW (eqI (↑s1.len : Int) 0) (k (.string { data := #[] }) S)
  (evV tS (loadV E0 S 74 (.pointer (some ⟨c0, 0, none⟩))) fun (s2 : Sl) =>
  idxW s2.a s2.len 0 fun (b1 b2 : Nat) =>
  evV tT (loadV E0 S 9 (.pointer (some ⟨b1, b2 + Int.toNat 0 * 1, none⟩))) fun (l1 : List UInt8) =>
  evV tS (loadV E0 S 74 (.pointer (some ⟨c0, 0, none⟩))) fun (s3 : Sl) =>
  evV tS (sliceD E0 S 74 (.slice s3.a s3.len s3.cap) (some (.int .i64 1)) none none) fun (s4 : Sl) =>
  evS (storeV E0 S 74 (.pointer (some ⟨c0, 0, none⟩)) (.slice s4.a s4.len s4.cap)) fun (S1 : St) => k (.string { data := List.toArray l1 }) S1)
theorem w70 (c0 : Nat) {S : St} {k : Value → St → Prop} (h : c70 c0 S k) : WC E0 70 [.pointer (some ⟨c0, 0, none⟩)] S k :=
  WC_den h70 rfl (by kernel_rfl) (by kernel_rfl : Tryd.f70.body = some (bodyOf Tryd.f70)) (by rw [show (denF E0 h70 Tryd.f70 (bodyOf Tryd.f70) [.pointer (some ⟨c0, 0, none⟩)] S k) = c70 c0 S k by kernel_rfl]; exact h)

/-! 72 wagonway/diary.steps$1 -/
noncomputable def h72 : Hn := (.n .no (.n (.n .no .no (some ⟨[0, 5, 6], [(7, .sc (.int .i64))], false⟩)) .no none) none)
def c72 (yield_0 : Value) (c1 : Nat) (S : St) (k : Value → St → Prop) : Prop :=
  evV tS (loadV E0 S 74 (.pointer (some ⟨c1, 0, none⟩))) fun (s1 : Sl) =>
  loopW
  (fun (k1 : Int → St → Prop) (n1 : Int) (S1 : St) =>
  ifW (ltI n1 (↑s1.len : Int))
  (idxW s1.a s1.len n1 fun (b1 b2 : Nat) =>
  evV tT (loadV E0 S1 9 (.pointer (some ⟨b1, b2 + Int.toNat n1 * 1, none⟩))) fun (l1 : List UInt8) =>
  evC E0 (TT.one (Ty.agg G32)) 73 [.string { data := List.toArray l1 }] S1 fun (x1 : Int × Int × Int) (S2 : St) =>
  evY E0 tB yield_0 [sv G32 x1] S2 fun (t1 : Bool) (S3 : St) => ifW (!t1) (k (.tuple #[]) S3) (k1 (wrapI .i64 (n1 + 1)) S3))
  (k (.tuple #[]) S1))
  0 S
theorem w72 (yield_0 : Value) (c1 : Nat) {S : St} {k : Value → St → Prop} (h : c72 yield_0 c1 S k) : WC E0 72 [yield_0, .pointer (some ⟨c1, 0, none⟩)] S k :=
  WC_den h72 rfl (by kernel_rfl) (by kernel_rfl : Tryd.f72.body = some (bodyOf Tryd.f72)) (by rw [show (denF E0 h72 Tryd.f72 (bodyOf Tryd.f72) [yield_0, .pointer (some ⟨c1, 0, none⟩)] S k) = c72 yield_0 c1 S k by kernel_rfl]; exact h)

/-! 73 wagonway/diary.step -/
noncomputable def h73 : Hn := (.n .no (.n .no (.n .no (.n .no (.n (.n .no (.n (.n .no .no (some ⟨[2, 3, 9], [(28, .sc (.int .i64))], false⟩)) .no none) none) .no none) none) none) none) none)
def c73 (w_0 : List UInt8) (S : St) (k : Value → St → Prop) : Prop :=
  newW S (.cells [.int .i64 0, .int .i64 0, .int .i64 0] none false none) fun (b1 : Nat) (S1 : St) =>
  evC E0 (TT.tup [Ty.sc Sc.str, Ty.sc Sc.str, Ty.sc Sc.bool]) 31 [.string { data := List.toArray w_0 }, .string { data := #[UInt8.ofNat 58] }] S1 fun (x1 : List UInt8 × List UInt8 × Bool) (S2 : St) =>
  evC E0 (TT.tup [Ty.sc Sc.str, Ty.sc Sc.str, Ty.sc Sc.bool]) 31 [.string { data := List.toArray x1.2.1 }, .string { data := #[UInt8.ofNat 58] }] S2 fun (x2 : List UInt8 × List UInt8 × Bool) (S3 : St) =>
  evC E0 tI 33 [.string { data := List.toArray x2.1 }] S3 fun (n1 : Int) (S4 : St) =>
  evC E0 tI 33 [.string { data := List.toArray x2.2.1 }] S4 fun (n2 : Int) (S5 : St) =>
  newW S5 (.cells [.int .i64 0, .int .i64 0, .int .i64 0] none false none) fun (b2 : Nat) (S6 : St) =>
  evS (storeV E0 S6 76 (.pointer (some ⟨b2, 0, none⟩)) (.agg #[.int .i64 0, .int .i64 n1, .int .i64 n2])) fun (S7 : St) =>
  loopW
  (fun (k1 : Int → St → Prop) (n3 : Int) (S8 : St) =>
  ifW (ltI n3 4)
  (ifW (ltI 0 n3)
  (idxW (some ⟨1, 0, none⟩) 4 n3 fun (b3 b4 : Nat) =>
  evV tT (loadV E0 S8 9 (.pointer (some ⟨b3, b4 + Int.toNat n3 * 1, none⟩))) fun (l1 : List UInt8) =>
  ifW (l1 == x1.1)
  (ptrW (some ⟨b2, 0, none⟩) fun (b5 b6 : Nat) =>
  evS (storeV E0 S8 3 (.pointer (some ⟨b5, b6 + 0, none⟩)) (.int .i64 n3)) fun (S9 : St) => k1 (wrapI .i64 (n3 + 1)) S9)
  (k1 (wrapI .i64 (n3 + 1)) S8))
  (k1 (wrapI .i64 (n3 + 1)) S8))
  (evV (TT.one (Ty.agg G32)) (loadV E0 S8 76 (.pointer (some ⟨b2, 0, none⟩))) fun (x3 : Int × Int × Int) =>
  evS (storeV E0 S8 76 (.pointer (some ⟨b1, 0, none⟩)) (sv G32 x3)) fun (S10 : St) =>
  evV (TT.one (Ty.agg G32)) (loadV E0 S10 76 (.pointer (some ⟨b1, 0, none⟩))) fun (x4 : Int × Int × Int) => k (sv G32 x4) S10))
  0 S7
theorem w73 (w_0 : List UInt8) {S : St} {k : Value → St → Prop} (h : c73 w_0 S k) : WC E0 73 [.string ⟨w_0.toArray⟩] S k :=
  WC_den h73 rfl (by kernel_rfl) (by kernel_rfl : Tryd.f73.body = some (bodyOf Tryd.f73)) (by rw [show (denF E0 h73 Tryd.f73 (bodyOf Tryd.f73) [.string ⟨w_0.toArray⟩] S k) = c73 w_0 S k by kernel_rfl]; exact h)

/-! 76 strings.Lines$1 -/
noncomputable def h76 : Hn := (.n (.n (.n .no (.n (.n .no (.n .no .no (some ⟨[0, 1], [(3, .sc .str)], false⟩)) none) .no none) none) .no (some ⟨[0, 1], [], false⟩)) .no none)
def c76 (yield_0 : Value) (c1 : Nat) (S : St) (k : Value → St → Prop) : Prop :=
  loopW
  (fun (k1 : PUnit → St → Prop) (x1 : PUnit) (S1 : St) =>
  evV tT (loadV E0 S1 9 (.pointer (some ⟨c1, 0, none⟩))) fun (l1 : List UInt8) =>
  ifW (ltI 0 (↑(List.length l1) : Int))
  (joinW (fun (l2 : List UInt8) (S2 : St) => evY E0 tB yield_0 [.string { data := List.toArray l2 }] S2 fun (t1 : Bool) (S3 : St) => ifW (!t1) (k (.tuple #[]) S3) (k1 PUnit.unit S3))
  fun (k2 : List UInt8 → St → Prop) =>
  evV tT (loadV E0 S1 9 (.pointer (some ⟨c1, 0, none⟩))) fun (l3 : List UInt8) =>
  evC E0 tI 77 [.string { data := List.toArray l3 }, .int .u8 10] S1 fun (n1 : Int) (S4 : St) =>
  ifW (leI 0 n1)
  (evV tT (loadV E0 S4 9 (.pointer (some ⟨c1, 0, none⟩))) fun (l4 : List UInt8) =>
  evV tT (sliceD E0 S4 9 (.string { data := List.toArray l4 }) none (some (.int .i64 (wrapI .i64 (n1 + 1)))) none) fun (l5 : List UInt8) =>
  evV tT (loadV E0 S4 9 (.pointer (some ⟨c1, 0, none⟩))) fun (l6 : List UInt8) =>
  evV tT (sliceD E0 S4 9 (.string { data := List.toArray l6 }) (some (.int .i64 (wrapI .i64 (n1 + 1)))) none none) fun (l7 : List UInt8) =>
  evS (storeV E0 S4 9 (.pointer (some ⟨c1, 0, none⟩)) (.string { data := List.toArray l7 })) fun (S5 : St) => k2 l5 S5)
  (evV tT (loadV E0 S4 9 (.pointer (some ⟨c1, 0, none⟩))) fun (l8 : List UInt8) =>
  evS (storeV E0 S4 9 (.pointer (some ⟨c1, 0, none⟩)) (.string { data := #[] })) fun (S6 : St) => k2 l8 S6))
  (k (.tuple #[]) S1))
  PUnit.unit S
theorem w76 (yield_0 : Value) (c1 : Nat) {S : St} {k : Value → St → Prop} (h : c76 yield_0 c1 S k) : WC E0 76 [yield_0, .pointer (some ⟨c1, 0, none⟩)] S k :=
  WC_den h76 rfl (by kernel_rfl) (by kernel_rfl : Tryd.f76.body = some (bodyOf Tryd.f76)) (by rw [show (denF E0 h76 Tryd.f76 (bodyOf Tryd.f76) [yield_0, .pointer (some ⟨c1, 0, none⟩)] S k) = c76 yield_0 c1 S k by kernel_rfl]; exact h)

/-! 77 strings.IndexByte -/
noncomputable def h77 : Hn := .no
def c77 (s_0 : List UInt8) (c_1 : Int) (S : St) (k : Value → St → Prop) : Prop :=
  evC E0 tI 110 [.string { data := List.toArray s_0 }, .int .u8 c_1] S fun (n1 : Int) (S1 : St) => k (.int .i64 n1) S1
theorem w77 (s_0 : List UInt8) (c_1 : Int) {S : St} {k : Value → St → Prop} (h : c77 s_0 c_1 S k) : WC E0 77 [.string ⟨s_0.toArray⟩, .int .u8 c_1] S k :=
  WC_den h77 rfl (by kernel_rfl) (by kernel_rfl : Tryd.f77.body = some (bodyOf Tryd.f77)) (by rw [show (denF E0 h77 Tryd.f77 (bodyOf Tryd.f77) [.string ⟨s_0.toArray⟩, .int .u8 c_1] S k) = c77 s_0 c_1 S k by kernel_rfl]; exact h)

/-! 78 internal/stringslite.TrimSuffix -/
noncomputable def h78 : Hn := .no
def c78 (s_0 : List UInt8) (suffix_1 : List UInt8) (S : St) (k : Value → St → Prop) : Prop :=
  evC E0 tB 79 [.string { data := List.toArray s_0 }, .string { data := List.toArray suffix_1 }] S fun (t1 : Bool) (S1 : St) =>
  ifW t1
  (evV tT (sliceD E0 S1 9 (.string { data := List.toArray s_0 }) none (some (.int .i64 (wrapI .i64 ((↑(List.length s_0) : Int) - (↑(List.length suffix_1) : Int))))) none)
  fun (l1 : List UInt8) => k (.string { data := List.toArray l1 }) S1)
  (k (.string { data := List.toArray s_0 }) S1)
theorem w78 (s_0 : List UInt8) (suffix_1 : List UInt8) {S : St} {k : Value → St → Prop} (h : c78 s_0 suffix_1 S k) : WC E0 78 [.string ⟨s_0.toArray⟩, .string ⟨suffix_1.toArray⟩] S k :=
  WC_den h78 rfl (by kernel_rfl) (by kernel_rfl : Tryd.f78.body = some (bodyOf Tryd.f78)) (by rw [show (denF E0 h78 Tryd.f78 (bodyOf Tryd.f78) [.string ⟨s_0.toArray⟩, .string ⟨suffix_1.toArray⟩] S k) = c78 s_0 suffix_1 S k by kernel_rfl]; exact h)

/-! 79 internal/stringslite.HasSuffix -/
noncomputable def h79 : Hn := .no
def c79 (s_0 : List UInt8) (suffix_1 : List UInt8) (S : St) (k : Value → St → Prop) : Prop :=
  ifW (leI (↑(List.length suffix_1) : Int) (↑(List.length s_0) : Int))
  (evV tT (sliceD E0 S 9 (.string { data := List.toArray s_0 }) (some (.int .i64 (wrapI .i64 ((↑(List.length s_0) : Int) - (↑(List.length suffix_1) : Int))))) none none) fun (l1 : List UInt8) =>
  k (.bool (l1 == suffix_1)) S)
  (k (.bool false) S)
theorem w79 (s_0 : List UInt8) (suffix_1 : List UInt8) {S : St} {k : Value → St → Prop} (h : c79 s_0 suffix_1 S k) : WC E0 79 [.string ⟨s_0.toArray⟩, .string ⟨suffix_1.toArray⟩] S k :=
  WC_den h79 rfl (by kernel_rfl) (by kernel_rfl : Tryd.f79.body = some (bodyOf Tryd.f79)) (by rw [show (denF E0 h79 Tryd.f79 (bodyOf Tryd.f79) [.string ⟨s_0.toArray⟩, .string ⟨suffix_1.toArray⟩] S k) = c79 s_0 suffix_1 S k by kernel_rfl]; exact h)

/-! 96 wagonway/order.within -/
noncomputable def h96 : Hn := .no
def c96 (n_0 : Int) (from_1 : Int) (to_2 : Int) (S : St) (k : Value → St → Prop) : Prop :=
  ifW (leI from_1 n_0) (k (.bool (leI n_0 to_2)) S) (k (.bool false) S)
theorem w96 (n_0 : Int) (from_1 : Int) (to_2 : Int) {S : St} {k : Value → St → Prop} (h : c96 n_0 from_1 to_2 S k) : WC E0 96 [.int .i64 n_0, .int .i64 from_1, .int .i64 to_2] S k :=
  WC_den h96 rfl (by kernel_rfl) (by kernel_rfl : Tryd.f96.body = some (bodyOf Tryd.f96)) (by rw [show (denF E0 h96 Tryd.f96 (bodyOf Tryd.f96) [.int .i64 n_0, .int .i64 from_1, .int .i64 to_2] S k) = c96 n_0 from_1 to_2 S k by kernel_rfl]; exact h)

/-! 97 slices.IndexFunc[[]wagonway/api.Step,wagonway/api.Step] -/
noncomputable def h97 : Hn := (.n .no (.n (.n .no (.n (.n .no .no (some ⟨[0, 1, 7], [(8, .sc (.int .i64))], false⟩)) .no none) none) .no none) none)
def c97 (s_0 : Sl) (f_1 : Value) (S : St) (k : Value → St → Prop) : Prop :=
  loopW
  (fun (k1 : Int → St → Prop) (n1 : Int) (S1 : St) =>
  ifW (ltI n1 (↑s_0.len : Int))
  (idxW s_0.a s_0.len n1 fun (b1 b2 : Nat) =>
  evV (TT.one (Ty.agg G32)) (loadV E0 S1 76 (.pointer (some ⟨b1, b2 + Int.toNat n1 * 3, none⟩))) fun (x1 : Int × Int × Int) =>
  evY E0 tB f_1 [sv G32 x1] S1 fun (t1 : Bool) (S2 : St) => ifW t1 (k (.int .i64 n1) S2) (k1 (wrapI .i64 (n1 + 1)) S2))
  (k (.int .i64 (-1)) S1))
  0 S
theorem w97 (s_0 : Sl) (f_1 : Value) {S : St} {k : Value → St → Prop} (h : c97 s_0 f_1 S k) : WC E0 97 [.slice s_0.a s_0.len s_0.cap, f_1] S k :=
  WC_den h97 rfl (by kernel_rfl) (by kernel_rfl : Tryd.f97.body = some (bodyOf Tryd.f97)) (by rw [show (denF E0 h97 Tryd.f97 (bodyOf Tryd.f97) [.slice s_0.a s_0.len s_0.cap, f_1] S k) = c97 s_0 f_1 S k by kernel_rfl]; exact h)

/-! 98 wagonway/order.parts$1 -/
noncomputable def h98 : Hn := (.n .no (.n (.n .no (.n (.n .no (.n .no (.n .no .no (some ⟨[0, 3, 5], [(8, .sc .bool)], false⟩)) none) none) .no none) none) (.n .no (.n (.n .no .no (some ⟨[0, 3, 23], [(24, .sc (.int .i64))], false⟩)) .no none) none) (some ⟨[0], [(3, .sc .str)], false⟩)) none)
def c98 (yield_0 : Value) (c1 : Nat) (S : St) (k : Value → St → Prop) : Prop :=
  joinW
  (fun (l1 : List UInt8) (S1 : St) =>
  loopW
  (fun (k1 : Int → St → Prop) (n1 : Int) (S2 : St) =>
  ifW (ltI n1 (↑(List.length l1) : Int))
  (evV tU8 (indexD E0 9 (.string { data := List.toArray l1 }) (.int .i64 n1)) fun (n2 : Int) =>
  evY E0 tB yield_0 [.int .u8 n2] S2 fun (t1 : Bool) (S3 : St) => ifW (!t1) (k (.tuple #[]) S3) (k1 (wrapI .i64 (n1 + 1)) S3))
  (k (.tuple #[]) S2))
  0 S1)
  fun (k2 : List UInt8 → St → Prop) =>
  evV tI (loadV E0 S 3 (.pointer (some ⟨c1, 0, none⟩))) fun (n3 : Int) =>
  ifW (eqI n3 1) (k2 [UInt8.ofNat 114, UInt8.ofNat 100] S)
  (joinW
  (fun (t2 : Bool) (S4 : St) =>
  ifW t2 (k2 [UInt8.ofNat 112] S4)
  (ifW (eqI n3 5) (k2 [UInt8.ofNat 112, UInt8.ofNat 97, UInt8.ofNat 119] S4)
  (ifW (eqI n3 6) (k2 [UInt8.ofNat 114] S4)
  (ifW (eqI n3 7) (k2 [UInt8.ofNat 114, UInt8.ofNat 99] S4) (ifW (eqI n3 8) (k2 [UInt8.ofNat 114, UInt8.ofNat 101] S4) (ifW (eqI n3 9) (k2 [UInt8.ofNat 114, UInt8.ofNat 117] S4) (k2 [] S4)))))))
  fun (k3 : Bool → St → Prop) => ifW (eqI n3 2) (k3 true S) (ifW (eqI n3 3) (k3 true S) (k3 (eqI n3 4) S)))
theorem w98 (yield_0 : Value) (c1 : Nat) {S : St} {k : Value → St → Prop} (h : c98 yield_0 c1 S k) : WC E0 98 [yield_0, .pointer (some ⟨c1, 0, none⟩)] S k :=
  WC_den h98 rfl (by kernel_rfl) (by kernel_rfl : Tryd.f98.body = some (bodyOf Tryd.f98)) (by rw [show (denF E0 h98 Tryd.f98 (bodyOf Tryd.f98) [yield_0, .pointer (some ⟨c1, 0, none⟩)] S k) = c98 yield_0 c1 S k by kernel_rfl]; exact h)

/-! 99 internal/strconv.FormatUint -/
noncomputable def h99 : Hn := .no
def c99 (i_0 : Int) (base_1 : Int) (S : St) (k : Value → St → Prop) : Prop :=
  ifW (eqI base_1 10)
  (ifW (ltI i_0 100) (evC E0 tT 118 [.int .i64 (wrapI .i64 i_0)] S fun (l1 : List UInt8) (S1 : St) => k (.string { data := List.toArray l1 }) S1)
  (newW S
  (.cells
  [.int .u8 0, .int .u8 0, .int .u8 0, .int .u8 0, .int .u8 0, .int .u8 0, .int .u8 0, .int .u8 0,
  .int .u8 0, .int .u8 0, .int .u8 0, .int .u8 0, .int .u8 0, .int .u8 0, .int .u8 0, .int .u8 0,
  .int .u8 0, .int .u8 0, .int .u8 0, .int .u8 0, .int .u8 0, .int .u8 0, .int .u8 0, .int .u8 0]
  none false none)
  fun (b1 : Nat) (S2 : St) =>
  evC E0 tI 119 [.int .u64 i_0] S2 fun (n1 : Int) (S3 : St) =>
  evV tS (sliceD E0 S3 168 (.pointer (some ⟨b1, 0, none⟩)) none (some (.int .i64 n1)) none) fun (s1 : Sl) =>
  evC E0 (TT.tup []) 120 [.slice s1.a s1.len s1.cap, .int .u64 i_0] S3 fun (x1 : PUnit) (S4 : St) =>
  evV tS (sliceD E0 S4 168 (.pointer (some ⟨b1, 0, none⟩)) none (some (.int .i64 n1)) none) fun (s2 : Sl) =>
  evP tT (convertD E0 S4 92 9 (.slice s2.a s2.len s2.cap)) fun (l2 : List UInt8) (S5 : St) => k (.string { data := List.toArray l2 }) S5))
  (evC E0 (TT.tup [Ty.sc Sc.sl, Ty.sc Sc.str]) 121 [.slice none 0 0, .int .u64 i_0, .int .i64 base_1, .bool false, .bool false] S fun (x2 : Sl × List UInt8) (S6 : St) =>
  k (.string { data := List.toArray x2.2 }) S6)
theorem w99 (i_0 : Int) (base_1 : Int) {S : St} {k : Value → St → Prop} (h : c99 i_0 base_1 S k) : WC E0 99 [.int .u64 i_0, .int .i64 base_1] S k :=
  WC_den h99 rfl (by kernel_rfl) (by kernel_rfl : Tryd.f99.body = some (bodyOf Tryd.f99)) (by rw [show (denF E0 h99 Tryd.f99 (bodyOf Tryd.f99) [.int .u64 i_0, .int .i64 base_1] S k) = c99 i_0 base_1 S k by kernel_rfl]; exact h)

/-! 100 internal/strconv.FormatInt -/
noncomputable def h100 : Hn := (.n .no (.n (.n .no (.n (.n (.n .no .no (some ⟨[0], [(17, .sc .bool)], false⟩)) (.n .no (.n .no (.n .no .no (some ⟨[0, 5], [(6, .sc (.int .u64))], false⟩)) none) none) none) .no none) none) .no none) none)
def c100 (i_0 : Int) (base_1 : Int) (S : St) (k : Value → St → Prop) : Prop :=
  ifW (eqI base_1 10)
  (joinW
  (fun (t1 : Bool) (S1 : St) =>
  ifW t1 (evC E0 tT 118 [.int .i64 i_0] S1 fun (l1 : List UInt8) (S2 : St) => k (.string { data := List.toArray l1 }) S2)
  (newW S1
  (.cells
  [.int .u8 0, .int .u8 0, .int .u8 0, .int .u8 0, .int .u8 0, .int .u8 0, .int .u8 0, .int .u8 0,
  .int .u8 0, .int .u8 0, .int .u8 0, .int .u8 0, .int .u8 0, .int .u8 0, .int .u8 0, .int .u8 0,
  .int .u8 0, .int .u8 0, .int .u8 0, .int .u8 0, .int .u8 0, .int .u8 0, .int .u8 0, .int .u8 0]
  none false none)
  fun (b1 : Nat) (S3 : St) =>
  joinW
  (fun (n1 : Int) (S4 : St) =>
  evC E0 tI 119 [.int .u64 n1] S4 fun (n2 : Int) (S5 : St) =>
  evV tS (sliceD E0 S5 168 (.pointer (some ⟨b1, 0, none⟩)) (some (.int .i64 1)) (some (.int .i64 (wrapI .i64 (1 + n2)))) none) fun (s1 : Sl) =>
  evC E0 (TT.tup []) 120 [.slice s1.a s1.len s1.cap, .int .u64 n1] S5 fun (x1 : PUnit) (S6 : St) =>
  ifW (ltI i_0 0)
  (idxW (some ⟨b1, 0, none⟩) 24 0 fun (b2 b3 : Nat) =>
  evS (storeV E0 S6 5 (.pointer (some ⟨b2, b3 + Int.toNat 0 * 1, none⟩)) (.int .u8 45)) fun (S7 : St) =>
  evV tS (sliceD E0 S7 168 (.pointer (some ⟨b1, 0, none⟩)) none (some (.int .i64 (wrapI .i64 (1 + n2)))) none) fun (s2 : Sl) =>
  evP tT (convertD E0 S7 92 9 (.slice s2.a s2.len s2.cap)) fun (l2 : List UInt8) (S8 : St) => k (.string { data := List.toArray l2 }) S8)
  (evV tS (sliceD E0 S6 168 (.pointer (some ⟨b1, 0, none⟩)) (some (.int .i64 1)) (some (.int .i64 (wrapI .i64 (1 + n2)))) none) fun (s3 : Sl) =>
  evP tT (convertD E0 S6 92 9 (.slice s3.a s3.len s3.cap)) fun (l3 : List UInt8) (S9 : St) => k (.string { data := List.toArray l3 }) S9))
  fun (k1 : Int → St → Prop) => ifW (ltI i_0 0) (k1 (wrapI .u64 (0 - wrapI .u64 i_0)) S3) (k1 (wrapI .u64 i_0) S3)))
  fun (k2 : Bool → St → Prop) => ifW (leI 0 i_0) (k2 (ltI i_0 100) S) (k2 false S))
  (evC E0 (TT.tup [Ty.sc Sc.sl, Ty.sc Sc.str]) 121 [.slice none 0 0, .int .u64 (wrapI .u64 i_0), .int .i64 base_1, .bool (ltI i_0 0), .bool false] S
  fun (x2 : Sl × List UInt8) (S10 : St) => k (.string { data := List.toArray x2.2 }) S10)
theorem w100 (i_0 : Int) (base_1 : Int) {S : St} {k : Value → St → Prop} (h : c100 i_0 base_1 S k) : WC E0 100 [.int .i64 i_0, .int .i64 base_1] S k :=
  WC_den h100 rfl (by kernel_rfl) (by kernel_rfl : Tryd.f100.body = some (bodyOf Tryd.f100)) (by rw [show (denF E0 h100 Tryd.f100 (bodyOf Tryd.f100) [.int .i64 i_0, .int .i64 base_1] S k) = c100 i_0 base_1 S k by kernel_rfl]; exact h)

/-! 119 internal/strconv.numDigits -/
noncomputable def h119 : Hn := .no
def c119 (d_0 : Int) (S : St) (k : Value → St → Prop) : Prop :=
  evC E0 tI 95 [.int .u64 d_0] S fun (n1 : Int) (S1 : St) =>
  evC E0 tI 147 [.int .i64 n1] S1 fun (n2 : Int) (S2 : St) =>
  idxW (some ⟨4, 0, none⟩) 20 n2 fun (b1 b2 : Nat) =>
  evV tU (loadV E0 S2 46 (.pointer (some ⟨b1, b2 + Int.toNat n2 * 1, none⟩))) fun (n3 : Int) =>
  evC E0 tI 148 [.bool (leI n3 d_0)] S2 fun (n4 : Int) (S3 : St) => k (.int .i64 (wrapI .i64 (n2 + n4))) S3
theorem w119 (d_0 : Int) {S : St} {k : Value → St → Prop} (h : c119 d_0 S k) : WC E0 119 [.int .u64 d_0] S k :=
  WC_den h119 rfl (by kernel_rfl) (by kernel_rfl : Tryd.f119.body = some (bodyOf Tryd.f119)) (by rw [show (denF E0 h119 Tryd.f119 (bodyOf Tryd.f119) [.int .u64 d_0] S k) = c119 d_0 S k by kernel_rfl]; exact h)

/-! 147 internal/strconv.log10Pow2 -/
noncomputable def h147 : Hn := .no
def c147 (x_0 : Int) (S : St) (k : Value → St → Prop) : Prop :=
  needW true (k (.int .i64 (Int.fdiv (wrapI .i64 (x_0 * 78913)) (↑(2 ^ min (Int.toNat 18) 64) : Int))) S)
theorem w147 (x_0 : Int) {S : St} {k : Value → St → Prop} (h : c147 x_0 S k) : WC E0 147 [.int .i64 x_0] S k :=
  WC_den h147 rfl (by kernel_rfl) (by kernel_rfl : Tryd.f147.body = some (bodyOf Tryd.f147)) (by rw [show (denF E0 h147 Tryd.f147 (bodyOf Tryd.f147) [.int .i64 x_0] S k) = c147 x_0 S k by kernel_rfl]; exact h)

/-! 148 internal/strconv.bool2[int] -/
noncomputable def h148 : Hn := .no
def c148 (b_0 : Bool) (S : St) (k : Value → St → Prop) : Prop :=
  ifW b_0 (k (.int .i64 1) S) (k (.int .i64 0) S)
theorem w148 (b_0 : Bool) {S : St} {k : Value → St → Prop} (h : c148 b_0 S k) : WC E0 148 [.bool b_0] S k :=
  WC_den h148 rfl (by kernel_rfl) (by kernel_rfl : Tryd.f148.body = some (bodyOf Tryd.f148)) (by rw [show (denF E0 h148 Tryd.f148 (bodyOf Tryd.f148) [.bool b_0] S k) = c148 b_0 S k by kernel_rfl]; exact h)

/-! 4 wagonway/wagonwaylaw28.DiaryBack -/
noncomputable def h4 : Hn := (.n .no (.n .no (.n .no (.n (.n .no (.n (.n .no .no (some ⟨[0, 1, 5, 36], [(37, .sc (.int .i64))], false⟩)) .no none) none) (.n .no (.n .no .no (some ⟨[1, 5], [], false⟩)) none) none) none) none) none)
def c4 (l_0 : Sl) (s_1 : List UInt8) (S : St) (k : Value → St → Prop) : Prop :=
  evC E0 tB 10 [] S fun (t1 : Bool) (S1 : St) =>
  evC E0 tI 11 [.slice l_0.a l_0.len l_0.cap] S1 fun (n1 : Int) (S2 : St) =>
  ifW (ltI 0 n1) (k (.bool t1) S2)
  (ifW (ltI 4000 (↑(List.length s_1) : Int)) (k (.bool t1) S2)
  (ifW (!t1) (k (.bool t1) S2)
  (loopW
  (fun (k1 : Int → St → Prop) (n2 : Int) (S3 : St) =>
  ifW (ltI n2 (↑l_0.len : Int))
  (idxW l_0.a l_0.len n2 fun (b1 b2 : Nat) =>
  evV (TT.one (Ty.agg G50)) (loadV E0 S3 51 (.pointer (some ⟨b1, b2 + Int.toNat n2 * 8, none⟩))) fun (x1 : Int × Int × Int × Int × Int × Int × Int × Sl) =>
  evC E0 (TT.tup [Ty.sc Sc.str, Ty.sc (Sc.int .i64)]) 12 [sv G50 x1] S3 fun (x2 : List UInt8 × Int) (S4 : St) =>
  ifW (!eqI x2.2 0) (k1 (wrapI .i64 (n2 + 1)) S4)
  (evC E0 (TT.tup [Ty.agg G50, Ty.sc (Sc.int .i64)]) 13 [.string { data := List.toArray x2.1 }] S4 fun (x3 : (Int × Int × Int × Int × Int × Int × Int × Sl) × Int) (S5 : St) =>
  newW S5
  (.cells
  [.int .i64 0, .int .i64 0, .int .i64 0, .int .i64 0, .int .i64 0, .int .u64 0, .int .i64 0,
  .slice none 0 0]
  none false none)
  fun (b3 : Nat) (S6 : St) =>
  evS (storeV E0 S6 51 (.pointer (some ⟨b3, 0, none⟩)) (sv G50 x3.1)) fun (S7 : St) =>
  ifW (!eqI x3.2 0) (k (.bool false) S7)
  (evV (TT.one (Ty.agg G50)) (loadV E0 S7 51 (.pointer (some ⟨b3, 0, none⟩))) fun (x4 : Int × Int × Int × Int × Int × Int × Int × Sl) =>
  idxW l_0.a l_0.len n2 fun (b4 b5 : Nat) =>
  evV (TT.one (Ty.agg G50)) (loadV E0 S7 51 (.pointer (some ⟨b4, b5 + Int.toNat n2 * 8, none⟩))) fun (x5 : Int × Int × Int × Int × Int × Int × Int × Sl) =>
  evC E0 tB 14 [sv G50 x4, sv G50 x5] S7 fun (t2 : Bool) (S8 : St) => ifW (!t2) (k (.bool false) S8) (k1 (wrapI .i64 (n2 + 1)) S8))))
  (evC E0 (TT.tup [Ty.sc Sc.str, Ty.sc (Sc.int .i64)]) 15 [.slice l_0.a l_0.len l_0.cap] S3 fun (x6 : List UInt8 × Int) (S9 : St) =>
  joinW
  (fun (x7 : PUnit) (S10 : St) =>
  evC E0 (TT.tup [Ty.sc Sc.sl, Ty.sc (Sc.int .i64), Ty.sc (Sc.int .i64)]) 16 [.string { data := List.toArray s_1 }] S10 fun (x8 : Sl × Int × Int) (S11 : St) =>
  ifW (!eqI x8.2.2 0) (ifW t1 (k (.bool (eqI (↑x8.1.len : Int) 0)) S11) (k (.bool false) S11))
  (evC E0 (TT.tup [Ty.sc Sc.str, Ty.sc (Sc.int .i64)]) 15 [.slice x8.1.a x8.1.len x8.1.cap] S11 fun (x9 : List UInt8 × Int) (S12 : St) =>
  ifW t1 (ifW (eqI x9.2 0) (k (.bool (x9.1 == s_1)) S12) (k (.bool false) S12)) (k (.bool false) S12)))
  fun (k2 : PUnit → St → Prop) =>
  ifW (eqI x6.2 0)
  (evC E0 (TT.tup [Ty.sc Sc.sl, Ty.sc (Sc.int .i64), Ty.sc (Sc.int .i64)]) 16 [.string { data := List.toArray x6.1 }] S9 fun (x10 : Sl × Int × Int) (S13 : St) =>
  ifW (!eqI x10.2.2 0) (k (.bool false) S13)
  (evC E0 tB 17 [.slice x10.1.a x10.1.len x10.1.cap, .slice l_0.a l_0.len l_0.cap] S13 fun (t3 : Bool) (S14 : St) => ifW (!t3) (k (.bool false) S14) (k2 PUnit.unit S14)))
  (k2 PUnit.unit S9)))
  0 S2)))
theorem w4 (l_0 : Sl) (s_1 : List UInt8) {S : St} {k : Value → St → Prop} (h : c4 l_0 s_1 S k) : WC E0 4 [.slice l_0.a l_0.len l_0.cap, .string ⟨s_1.toArray⟩] S k :=
  WC_den h4 rfl (by kernel_rfl) (by kernel_rfl : Tryd.f4.body = some (bodyOf Tryd.f4)) (by rw [show (denF E0 h4 Tryd.f4 (bodyOf Tryd.f4) [.slice l_0.a l_0.len l_0.cap, .string ⟨s_1.toArray⟩] S k) = c4 l_0 s_1 S k by kernel_rfl]; exact h)

/-! 10 wagonway/wagonwaylaw28.alive -/
noncomputable def h10 : Hn := .no
def c10  (S : St) (k : Value → St → Prop) : Prop :=
  evC E0 (TT.one (Ty.agg G50)) 26 [] S fun (x1 : Int × Int × Int × Int × Int × Int × Int × Sl) (S1 : St) =>
  evC E0 (TT.tup [Ty.sc Sc.str, Ty.sc (Sc.int .i64)]) 12 [sv G50 x1] S1 fun (x2 : List UInt8 × Int) (S2 : St) =>
  evC E0 (TT.tup [Ty.agg G50, Ty.sc (Sc.int .i64)]) 13
  [.string
  {
  data :=
  #[UInt8.ofNat 115, UInt8.ofNat 116, UInt8.ofNat 101, UInt8.ofNat 112, UInt8.ofNat 32, UInt8.ofNat 48, UInt8.ofNat 32, UInt8.ofNat 48, UInt8.ofNat 32, UInt8.ofNat 61, UInt8.ofNat 32, UInt8.ofNat 48,
  UInt8.ofNat 32, UInt8.ofNat 103, UInt8.ofNat 114, UInt8.ofNat 97, UInt8.ofNat 110, UInt8.ofNat 116, UInt8.ofNat 58, UInt8.ofNat 48, UInt8.ofNat 58, UInt8.ofNat 49, UInt8.ofNat 32, UInt8.ofNat 109,
  UInt8.ofNat 111, UInt8.ofNat 118, UInt8.ofNat 101, UInt8.ofNat 58, UInt8.ofNat 48, UInt8.ofNat 58, UInt8.ofNat 49] }]
  S2 fun (x3 : (Int × Int × Int × Int × Int × Int × Int × Sl) × Int) (S3 : St) =>
  newW S3
  (.cells [.int .i64 0, .int .i64 0, .int .i64 0, .int .i64 0, .int .i64 0, .int .u64 0, .int .i64 0, .slice none 0 0]
  none false none)
  fun (b1 : Nat) (S4 : St) =>
  evS (storeV E0 S4 51 (.pointer (some ⟨b1, 0, none⟩)) (sv G50 x3.1)) fun (S5 : St) =>
  ifW
  (x2.1 ==
  [UInt8.ofNat 115, UInt8.ofNat 116, UInt8.ofNat 101, UInt8.ofNat 112, UInt8.ofNat 32, UInt8.ofNat 48, UInt8.ofNat 32, UInt8.ofNat 48, UInt8.ofNat 32, UInt8.ofNat 61, UInt8.ofNat 32, UInt8.ofNat 48,
  UInt8.ofNat 32, UInt8.ofNat 103, UInt8.ofNat 114, UInt8.ofNat 97, UInt8.ofNat 110, UInt8.ofNat 116, UInt8.ofNat 58, UInt8.ofNat 48, UInt8.ofNat 58, UInt8.ofNat 49, UInt8.ofNat 32, UInt8.ofNat 109,
  UInt8.ofNat 111, UInt8.ofNat 118, UInt8.ofNat 101, UInt8.ofNat 58, UInt8.ofNat 48, UInt8.ofNat 58, UInt8.ofNat 49])
  (ifW (eqI x2.2 0)
  (ifW (eqI x3.2 0)
  (evV (TT.one (Ty.agg G50)) (loadV E0 S5 51 (.pointer (some ⟨b1, 0, none⟩))) fun (x4 : Int × Int × Int × Int × Int × Int × Int × Sl) =>
  evC E0 (TT.one (Ty.agg G50)) 26 [] S5 fun (x5 : Int × Int × Int × Int × Int × Int × Int × Sl) (S6 : St) =>
  evV (TT.one (Ty.agg G50)) (loadV E0 S6 51 (.pointer (some ⟨b1, 0, none⟩))) fun (x6 : Int × Int × Int × Int × Int × Int × Int × Sl) =>
  sameV (sv G50 x6) (sv G50 x4) (evC E0 tB 14 [sv G50 x4, sv G50 x5] S6 fun (t1 : Bool) (S7 : St) => k (.bool t1) S7))
  (k (.bool false) S5))
  (k (.bool false) S5))
  (k (.bool false) S5)
theorem w10  {S : St} {k : Value → St → Prop} (h : c10  S k) : WC E0 10 [] S k :=
  WC_den h10 rfl (by kernel_rfl) (by kernel_rfl : Tryd.f10.body = some (bodyOf Tryd.f10)) (by rw [show (denF E0 h10 Tryd.f10 (bodyOf Tryd.f10) [] S k) = c10  S k by kernel_rfl]; exact h)

/-! 11 wagonway/wagonwaylaw28.Great -/
noncomputable def h11 : Hn := (.n .no (.n .no (.n (.n .no (.n (.n .no .no (some ⟨[0, 8], [(9, .sc (.int .i64))], false⟩)) .no none) none) .no none) none) none)
def c11 (l_0 : Sl) (S : St) (k : Value → St → Prop) : Prop :=
  ifW (ltI 60 (↑l_0.len : Int)) (k (.int .i64 1) S)
  (loopW
  (fun (k1 : Int → St → Prop) (n1 : Int) (S1 : St) =>
  ifW (ltI n1 (↑l_0.len : Int))
  (idxW l_0.a l_0.len n1 fun (b1 b2 : Nat) =>
  ptrW (some ⟨b1, b2 + Int.toNat n1 * 8, none⟩) fun (b3 b4 : Nat) =>
  evV tS (loadV E0 S1 49 (.pointer (some ⟨b3, b4 + 7, none⟩))) fun (s1 : Sl) =>
  ifW (ltI 30 (↑s1.len : Int))
  (idxW l_0.a l_0.len n1 fun (b5 b6 : Nat) =>
  ptrW (some ⟨b5, b6 + Int.toNat n1 * 8, none⟩) fun (b7 b8 : Nat) =>
  evV tS (loadV E0 S1 49 (.pointer (some ⟨b7, b8 + 7, none⟩))) fun (s2 : Sl) => ifW (!eqI (↑s2.len : Int) 1001) (k (.int .i64 1) S1) (k1 (wrapI .i64 (n1 + 1)) S1))
  (k1 (wrapI .i64 (n1 + 1)) S1))
  (k (.int .i64 0) S1))
  0 S)
theorem w11 (l_0 : Sl) {S : St} {k : Value → St → Prop} (h : c11 l_0 S k) : WC E0 11 [.slice l_0.a l_0.len l_0.cap] S k :=
  WC_den h11 rfl (by kernel_rfl) (by kernel_rfl : Tryd.f11.body = some (bodyOf Tryd.f11)) (by rw [show (denF E0 h11 Tryd.f11 (bodyOf Tryd.f11) [.slice l_0.a l_0.len l_0.cap] S k) = c11 l_0 S k by kernel_rfl]; exact h)

/-! 15 wagonway/diary.Text -/
noncomputable def h15 : Hn := (.n .no (.n .no (.n .no (.n (.n .no (.n (.n .no .no (some ⟨[4, 16, 17], [(18, .sc (.int .i64))], false⟩)) .no none) none) .no none) none) none) none)
def c15 (l_0 : Sl) (S : St) (k : Value → St → Prop) : Prop :=
  ifW (ltI 10000 (↑l_0.len : Int)) (k (.tuple #[.string { data := #[] }, .int .i64 280]) S)
  (evC E0 tB 37 [.slice l_0.a l_0.len l_0.cap, .func (Fn.func 38) #[] #[]] S fun (t1 : Bool) (S1 : St) =>
  ifW t1 (k (.tuple #[.string { data := #[] }, .int .i64 280]) S1)
  (newW S1 (.cells [.pointer none, .slice none 0 0] (some 2000094) false none) fun (b1 : Nat) (S2 : St) =>
  loopW
  (fun (k1 : Int → St → Prop) (n1 : Int) (S3 : St) =>
  ifW (ltI n1 (↑l_0.len : Int))
  (idxW l_0.a l_0.len n1 fun (b2 b3 : Nat) =>
  evV (TT.one (Ty.agg G50)) (loadV E0 S3 51 (.pointer (some ⟨b2, b3 + Int.toNat n1 * 8, none⟩))) fun (x1 : Int × Int × Int × Int × Int × Int × Int × Sl) =>
  newW S3
  (.cells
  [.int .i64 0, .int .i64 0, .int .i64 0, .int .i64 0, .int .i64 0, .int .u64 0, .int .i64 0, .slice none 0 0]
  none false none)
  fun (b4 : Nat) (S4 : St) =>
  evS (storeV E0 S4 51 (.pointer (some ⟨b4, 0, none⟩)) (sv G50 x1)) fun (S5 : St) =>
  evV (TT.one (Ty.agg G50)) (loadV E0 S5 51 (.pointer (some ⟨b4, 0, none⟩))) fun (x2 : Int × Int × Int × Int × Int × Int × Int × Sl) =>
  evC E0 (TT.tup [Ty.sc Sc.str, Ty.sc (Sc.int .i64)]) 12 [sv G50 x2] S5 fun (x3 : List UInt8 × Int) (S6 : St) =>
  evV tT (catD { data := List.toArray x3.1 } { data := #[UInt8.ofNat 10] }) fun (l1 : List UInt8) =>
  evC E0 (TT.tup [Ty.sc (Sc.int .i64), Ty.sc Sc.any]) 39 [.pointer (some ⟨b1, 0, none⟩), .string { data := List.toArray l1 }] S6 fun (x4 : Int × Value) (S7 : St) =>
  k1 (wrapI .i64 (n1 + 1)) S7)
  (evC E0 tT 40 [.pointer (some ⟨b1, 0, none⟩)] S3 fun (l2 : List UInt8) (S8 : St) => k (.tuple #[.string { data := List.toArray l2 }, .int .i64 0]) S8))
  0 S2))
theorem w15 (l_0 : Sl) {S : St} {k : Value → St → Prop} (h : c15 l_0 S k) : WC E0 15 [.slice l_0.a l_0.len l_0.cap] S k :=
  WC_den h15 rfl (by kernel_rfl) (by kernel_rfl : Tryd.f15.body = some (bodyOf Tryd.f15)) (by rw [show (denF E0 h15 Tryd.f15 (bodyOf Tryd.f15) [.slice l_0.a l_0.len l_0.cap] S k) = c15 l_0 S k by kernel_rfl]; exact h)

/-! 16 wagonway/diary.Parse -/
noncomputable def h16 : Hn := (.n .no (.n (.n .no (.n (.n .no (.n (.n .no (.n .no (.n (.n .no .no (some ⟨[2, 3, 4, 6], [(29, .sc .bool)], false⟩)) .no none) none) none) .no none) (some ⟨[], [(10, .sc .str)], false⟩)) .no none) none) .no none) none)
def c16 (s_0 : List UInt8) (S : St) (k : Value → St → Prop) : Prop :=
  newW S (.cells [.slice none 0 0] none false none) fun (b1 : Nat) (S1 : St) =>
  newW S1 (.cells [.int .i64 0] none false none) fun (b2 : Nat) (S2 : St) =>
  newW S2 (.cells [.int .i64 0] none false none) fun (b3 : Nat) (S3 : St) =>
  evC E0 tA 41 [.string { data := List.toArray s_0 }] S3 fun (v1 : Value) (S4 : St) =>
  newW S4 DObj.deferred fun (b4 : Nat) (S5 : St) =>
  ∀ (b5 : Nat) (S6 : St) (k1 : LoopState → Option Code → DObj),
  b5 = S5.next →
  S6 = (St.alloc S5 (k1 LoopState.ready none)).2 →
  (LoopL fun (x1 : LoopState) (p1 : Option Code) => k1 x1 p1) →
  (RoundH E0 b5 [Ty.sc Sc.str] fun (l1 : List UInt8) (S7 : St) (k2 : Bool → St → Prop) =>
  hasW S7 b5 (k1 LoopState.ready none)
  (hasW S7 b5 (k1 LoopState.ready none)
  (updW S7 b5 (k1 LoopState.busy none) fun (S8 : St) =>
  evV tI (loadV E0 S8 3 (.pointer (some ⟨b2, 0, none⟩))) fun (n1 : Int) =>
  evS (storeV E0 S8 3 (.pointer (some ⟨b2, 0, none⟩)) (.int .i64 (wrapI .i64 (n1 + 1)))) fun (S9 : St) =>
  evC E0 tT 42 [.string { data := List.toArray l1 }, .string { data := #[UInt8.ofNat 10] }] S9 fun (l2 : List UInt8) (S10 : St) =>
  evC E0 (TT.tup [Ty.agg G50, Ty.sc (Sc.int .i64)]) 13 [.string { data := List.toArray l2 }] S10 fun (x2 : (Int × Int × Int × Int × Int × Int × Int × Sl) × Int) (S11 : St) =>
  newW S11
  (.cells
  [.int .i64 0, .int .i64 0, .int .i64 0, .int .i64 0, .int .i64 0, .int .u64 0, .int .i64 0,
  .slice none 0 0]
  none false none)
  fun (b6 : Nat) (S12 : St) =>
  evS (storeV E0 S12 51 (.pointer (some ⟨b6, 0, none⟩)) (sv G50 x2.1)) fun (S13 : St) =>
  joinW
  (fun (t1 : Bool) (S14 : St) =>
  ifW t1
  (evV tI (loadV E0 S14 3 (.pointer (some ⟨b2, 0, none⟩))) fun (n2 : Int) =>
  evS (storeV E0 S14 41 (.pointer (some ⟨b1, 0, none⟩)) (.slice none 0 0)) fun (S15 : St) =>
  evV tI (loadV E0 S15 3 (.pointer (some ⟨b2, 0, none⟩))) fun (n3 : Int) =>
  sameV (.int .i64 n3) (.int .i64 n2)
  (evS (storeV E0 S15 3 (.pointer (some ⟨b2, 0, none⟩)) (.int .i64 n2)) fun (S16 : St) =>
  evS (storeV E0 S16 43 (.pointer (some ⟨b3, 0, none⟩)) (.int .i64 280)) fun (S17 : St) =>
  hasW S17 b5 (k1 LoopState.busy none) (updW S17 b5 (k1 LoopState.done (some Code.ret)) fun (S18 : St) => k2 false S18)))
  (evV tS (loadV E0 S14 41 (.pointer (some ⟨b1, 0, none⟩))) fun (s1 : Sl) =>
  evV (TT.one (Ty.agg G50)) (loadV E0 S14 51 (.pointer (some ⟨b6, 0, none⟩))) fun (x3 : Int × Int × Int × Int × Int × Int × Int × Sl) =>
  newW S14
  (.cells
  [.int .i64 x3.1, .int .i64 x3.2.1, .int .i64 x3.2.2.1, .int .i64 x3.2.2.2.1,
  .int .i64 x3.2.2.2.2.1, .int .u64 x3.2.2.2.2.2.1, .int .i64 x3.2.2.2.2.2.2.1,
  .slice x3.2.2.2.2.2.2.2.a x3.2.2.2.2.2.2.2.len x3.2.2.2.2.2.2.2.cap]
  none false none)
  fun (b7 : Nat) (S19 : St) =>
  evP tS (appendD E0 S19 41 41 (.slice s1.a s1.len s1.cap) (.slice (some ⟨b7, 0, none⟩) 1 1)) fun (s2 : Sl) (S20 : St) =>
  evS (storeV E0 S20 41 (.pointer (some ⟨b1, 0, none⟩)) (.slice s2.a s2.len s2.cap)) fun (S21 : St) =>
  hasW S21 b5 (k1 LoopState.busy none) (updW S21 b5 (k1 LoopState.ready none) fun (S22 : St) => k2 true S22)))
  fun (k3 : Bool → St → Prop) =>
  ifW (!eqI x2.2 0) (k3 true S13)
  (evV tI (loadV E0 S13 3 (.pointer (some ⟨b2, 0, none⟩))) fun (n4 : Int) =>
  ifW (ltI 10000 n4) (k3 true S13)
  (evC E0 tB 43 [.string { data := List.toArray l1 }, .string { data := #[UInt8.ofNat 10] }] S13 fun (t2 : Bool) (S23 : St) => k3 (!t2) S23))))) →
  WG E0 v1 b5 S6 fun (S24 : St) =>
  hasW S24 b5 (k1 LoopState.ready none)
  (updW S24 b5 (k1 LoopState.exhausted none) fun (S25 : St) =>
  evV tS (loadV E0 S25 41 (.pointer (some ⟨b1, 0, none⟩))) fun (s3 : Sl) =>
  evS (storeV E0 S25 41 (.pointer (some ⟨b1, 0, none⟩)) (.slice s3.a s3.len s3.cap)) fun (S26 : St) =>
  evS (storeV E0 S26 3 (.pointer (some ⟨b2, 0, none⟩)) (.int .i64 0)) fun (S27 : St) =>
  evS (storeV E0 S27 43 (.pointer (some ⟨b3, 0, none⟩)) (.int .i64 0)) fun (S28 : St) =>
  hasW S28 b4 DObj.deferred
  (updW S28 b4 DObj.dead fun (S29 : St) =>
  evV tS (loadV E0 S29 41 (.pointer (some ⟨b1, 0, none⟩))) fun (s4 : Sl) =>
  evV tI (loadV E0 S29 3 (.pointer (some ⟨b2, 0, none⟩))) fun (n5 : Int) =>
  evV tI (loadV E0 S29 43 (.pointer (some ⟨b3, 0, none⟩))) fun (n6 : Int) =>
  k (.tuple #[.slice s4.a s4.len s4.cap, .int .i64 n5, .int .i64 n6]) S29)) ∨
  hasW S24 b5 (k1 LoopState.done (some Code.ret))
  (updW S24 b5 (k1 LoopState.exhausted (some Code.ret)) fun (S30 : St) =>
  hasW S30 b4 DObj.deferred
  (updW S30 b4 DObj.dead fun (S31 : St) =>
  evV tS (loadV E0 S31 41 (.pointer (some ⟨b1, 0, none⟩))) fun (s5 : Sl) =>
  evV tI (loadV E0 S31 3 (.pointer (some ⟨b2, 0, none⟩))) fun (n7 : Int) =>
  evV tI (loadV E0 S31 43 (.pointer (some ⟨b3, 0, none⟩))) fun (n8 : Int) =>
  k (.tuple #[.slice s5.a s5.len s5.cap, .int .i64 n7, .int .i64 n8]) S31)) ∨
  False
theorem w16 (s_0 : List UInt8) {S : St} {k : Value → St → Prop} (h : c16 s_0 S k) : WC E0 16 [.string ⟨s_0.toArray⟩] S k :=
  WC_den h16 rfl (by kernel_rfl) (by kernel_rfl : Tryd.f16.body = some (bodyOf Tryd.f16)) (by rw [show (denF E0 h16 Tryd.f16 (bodyOf Tryd.f16) [.string ⟨s_0.toArray⟩] S k) = c16 s_0 S k by kernel_rfl]; exact h)

/-! 17 wagonway/wagonwayref28.All -/
noncomputable def h17 : Hn := (.n .no (.n .no (.n (.n .no (.n (.n .no .no (some ⟨[0, 1], [(5, .sc (.int .i64))], false⟩)) .no none) none) .no none) none) none)
def c17 (a_0 : Sl) (b_1 : Sl) (S : St) (k : Value → St → Prop) : Prop :=
  ifW (!eqI (↑a_0.len : Int) (↑b_1.len : Int)) (k (.bool false) S)
  (loopW
  (fun (k1 : Int → St → Prop) (n1 : Int) (S1 : St) =>
  ifW (ltI n1 (↑a_0.len : Int))
  (idxW a_0.a a_0.len n1 fun (b1 b2 : Nat) =>
  evV (TT.one (Ty.agg G50)) (loadV E0 S1 51 (.pointer (some ⟨b1, b2 + Int.toNat n1 * 8, none⟩))) fun (x1 : Int × Int × Int × Int × Int × Int × Int × Sl) =>
  idxW b_1.a b_1.len n1 fun (b3 b4 : Nat) =>
  evV (TT.one (Ty.agg G50)) (loadV E0 S1 51 (.pointer (some ⟨b3, b4 + Int.toNat n1 * 8, none⟩))) fun (x2 : Int × Int × Int × Int × Int × Int × Int × Sl) =>
  evC E0 tB 14 [sv G50 x1, sv G50 x2] S1 fun (t1 : Bool) (S2 : St) => ifW (!t1) (k (.bool false) S2) (k1 (wrapI .i64 (n1 + 1)) S2))
  (k (.bool true) S1))
  0 S)
theorem w17 (a_0 : Sl) (b_1 : Sl) {S : St} {k : Value → St → Prop} (h : c17 a_0 b_1 S k) : WC E0 17 [.slice a_0.a a_0.len a_0.cap, .slice b_1.a b_1.len b_1.cap] S k :=
  WC_den h17 rfl (by kernel_rfl) (by kernel_rfl : Tryd.f17.body = some (bodyOf Tryd.f17)) (by rw [show (denF E0 h17 Tryd.f17 (bodyOf Tryd.f17) [.slice a_0.a a_0.len a_0.cap, .slice b_1.a b_1.len b_1.cap] S k) = c17 a_0 b_1 S k by kernel_rfl]; exact h)

/-! 26 wagonway/wagonwaylaw28.some -/
noncomputable def h26 : Hn := .no
def c26  (S : St) (k : Value → St → Prop) : Prop :=
  newW S
  (.cells [.int .i64 0, .int .i64 0, .int .i64 0, .int .i64 0, .int .i64 0, .int .u64 0, .int .i64 0, .slice none 0 0] none
  false none)
  fun (b1 : Nat) (S1 : St) =>
  newW S1 (.cells [.int .i64 1, .int .i64 0, .int .i64 1, .int .i64 3, .int .i64 0, .int .i64 1] none false none) fun (b2 : Nat) (S2 : St) =>
  evS
  (storeV E0 S2 51 (.pointer (some ⟨b1, 0, none⟩))
  (.agg
  #[.int .i64 1, .int .i64 0, .int .i64 0, .int .i64 0, .int .i64 0, .int .u64 0, .int .i64 0,
  .slice (some ⟨b2, 0, none⟩) 2 2]))
  fun (S3 : St) => evV (TT.one (Ty.agg G50)) (loadV E0 S3 51 (.pointer (some ⟨b1, 0, none⟩))) fun (x1 : Int × Int × Int × Int × Int × Int × Int × Sl) => k (sv G50 x1) S3
theorem w26  {S : St} {k : Value → St → Prop} (h : c26  S k) : WC E0 26 [] S k :=
  WC_den h26 rfl (by kernel_rfl) (by kernel_rfl : Tryd.f26.body = some (bodyOf Tryd.f26)) (by rw [show (denF E0 h26 Tryd.f26 (bodyOf Tryd.f26) [] S k) = c26  S k by kernel_rfl]; exact h)

/-! 37 slices.ContainsFunc[[]wagonway/api.Page,wagonway/api.Page] -/
noncomputable def h37 : Hn := .no
def c37 (s_0 : Sl) (f_1 : Value) (S : St) (k : Value → St → Prop) : Prop :=
  evC E0 tI 74 [.slice s_0.a s_0.len s_0.cap, f_1] S fun (n1 : Int) (S1 : St) => k (.bool (leI 0 n1)) S1
theorem w37 (s_0 : Sl) (f_1 : Value) {S : St} {k : Value → St → Prop} (h : c37 s_0 f_1 S k) : WC E0 37 [.slice s_0.a s_0.len s_0.cap, f_1] S k :=
  WC_den h37 rfl (by kernel_rfl) (by kernel_rfl : Tryd.f37.body = some (bodyOf Tryd.f37)) (by rw [show (denF E0 h37 Tryd.f37 (bodyOf Tryd.f37) [.slice s_0.a s_0.len s_0.cap, f_1] S k) = c37 s_0 f_1 S k by kernel_rfl]; exact h)

/-! 38 wagonway/diary.Text$1 -/
noncomputable def h38 : Hn := .no
def c38 (x_0 : Int × Int × Int × Int × Int × Int × Int × Sl) (S : St) (k : Value → St → Prop) : Prop :=
  newW S
  (.cells
  [.int .i64 x_0.1, .int .i64 x_0.2.1, .int .i64 x_0.2.2.1, .int .i64 x_0.2.2.2.1, .int .i64 x_0.2.2.2.2.1,
  .int .u64 x_0.2.2.2.2.2.1, .int .i64 x_0.2.2.2.2.2.2.1,
  .slice x_0.2.2.2.2.2.2.2.a x_0.2.2.2.2.2.2.2.len x_0.2.2.2.2.2.2.2.cap]
  none false none)
  fun (b1 : Nat) (S1 : St) =>
  evV (TT.one (Ty.agg G50)) (loadV E0 S1 51 (.pointer (some ⟨b1, 0, none⟩))) fun (x1 : Int × Int × Int × Int × Int × Int × Int × Sl) =>
  evC E0 tI 27 [sv G50 x1] S1 fun (n1 : Int) (S2 : St) => k (.bool !eqI n1 0) S2
theorem w38 (x_0 : Int × Int × Int × Int × Int × Int × Int × Sl) {S : St} {k : Value → St → Prop} (h : c38 x_0 S k) : WC E0 38 [sv G50 x_0] S k :=
  WC_den h38 rfl (by kernel_rfl) (by kernel_rfl : Tryd.f38.body = some (bodyOf Tryd.f38)) (by rw [show (denF E0 h38 Tryd.f38 (bodyOf Tryd.f38) [sv G50 x_0] S k) = c38 x_0 S k by kernel_rfl]; exact h)

/-! 74 slices.IndexFunc[[]wagonway/api.Page,wagonway/api.Page] -/
noncomputable def h74 : Hn := (.n .no (.n (.n .no (.n (.n .no .no (some ⟨[0, 1, 7], [(8, .sc (.int .i64))], false⟩)) .no none) none) .no none) none)
def c74 (s_0 : Sl) (f_1 : Value) (S : St) (k : Value → St → Prop) : Prop :=
  loopW
  (fun (k1 : Int → St → Prop) (n1 : Int) (S1 : St) =>
  ifW (ltI n1 (↑s_0.len : Int))
  (idxW s_0.a s_0.len n1 fun (b1 b2 : Nat) =>
  evV (TT.one (Ty.agg G50)) (loadV E0 S1 51 (.pointer (some ⟨b1, b2 + Int.toNat n1 * 8, none⟩))) fun (x1 : Int × Int × Int × Int × Int × Int × Int × Sl) =>
  evY E0 tB f_1 [sv G50 x1] S1 fun (t1 : Bool) (S2 : St) => ifW t1 (k (.int .i64 n1) S2) (k1 (wrapI .i64 (n1 + 1)) S2))
  (k (.int .i64 (-1)) S1))
  0 S
theorem w74 (s_0 : Sl) (f_1 : Value) {S : St} {k : Value → St → Prop} (h : c74 s_0 f_1 S k) : WC E0 74 [.slice s_0.a s_0.len s_0.cap, f_1] S k :=
  WC_den h74 rfl (by kernel_rfl) (by kernel_rfl : Tryd.f74.body = some (bodyOf Tryd.f74)) (by rw [show (denF E0 h74 Tryd.f74 (bodyOf Tryd.f74) [.slice s_0.a s_0.len s_0.cap, f_1] S k) = c74 s_0 f_1 S k by kernel_rfl]; exact h)

end
end Go.Proofs.YtfopfocedlbihaaDoor
