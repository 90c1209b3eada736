/- Parts of the proof, put together. -/
import Derived.Test.YtfopfocedlbihaaDoorCA
/- The conditions of functions (printed by GenDen.lean). -/
namespace Go.Proofs.YtfopfocedlbihaaDoor
open Go Go.Proofs.YtfopfocedlbihaaDoor.D
set_option linter.unusedVariables false
noncomputable section

/-! 29 strconv.Itoa -/
noncomputable def h29 : Hn := .no
def c29 (i_0 : Int) (S : St) (k : Value → St → Prop) : Prop :=
  evC E0 tT 65 [.int .i64 i_0] S fun (l1 : List UInt8) (S1 : St) => k (.string { data := List.toArray l1 }) S1
theorem w29 (i_0 : Int) {S : St} {k : Value → St → Prop} (h : c29 i_0 S k) : WC E0 29 [.int .i64 i_0] S k :=
  WC_den h29 rfl (by kernel_rfl) (by kernel_rfl : Tryd.f29.body = some (bodyOf Tryd.f29)) (by rw [show (denF E0 h29 Tryd.f29 (bodyOf Tryd.f29) [.int .i64 i_0] S k) = c29 i_0 S k by kernel_rfl]; exact h)

/-! 39 (*strings.Builder).WriteString -/
noncomputable def h39 : Hn := .no
def c39 (b_0 : Option Addr) (s_1 : List UInt8) (S : St) (k : Value → St → Prop) : Prop :=
  evC E0 (TT.tup []) 75 [.pointer b_0] S fun (x1 : PUnit) (S1 : St) =>
  ptrW b_0 fun (b1 b2 : Nat) =>
  ptrW (some ⟨b1, b2, none⟩) fun (b3 b4 : Nat) =>
  evV tS (loadV E0 S1 92 (.pointer (some ⟨b3, b4 + 1, none⟩))) fun (s1 : Sl) =>
  evP tS (appendD E0 S1 92 9 (.slice s1.a s1.len s1.cap) (.string { data := List.toArray s_1 })) fun (s2 : Sl) (S2 : St) =>
  ptrW b_0 fun (b5 b6 : Nat) =>
  ptrW (some ⟨b5, b6, none⟩) fun (b7 b8 : Nat) =>
  evS (storeV E0 S2 92 (.pointer (some ⟨b7, b8 + 1, none⟩)) (.slice s2.a s2.len s2.cap)) fun (S3 : St) =>
  k (.tuple #[.int .i64 (↑(List.length s_1) : Int), Value.nilIface]) S3
theorem w39 (b_0 : Option Addr) (s_1 : List UInt8) {S : St} {k : Value → St → Prop} (h : c39 b_0 s_1 S k) : WC E0 39 [.pointer b_0, .string ⟨s_1.toArray⟩] S k :=
  WC_den h39 rfl (by kernel_rfl) (by kernel_rfl : Tryd.f39.body = some (bodyOf Tryd.f39)) (by rw [show (denF E0 h39 Tryd.f39 (bodyOf Tryd.f39) [.pointer b_0, .string ⟨s_1.toArray⟩] S k) = c39 b_0 s_1 S k by kernel_rfl]; exact h)

/-! 60 wagonway/order.Check -/
noncomputable def h60 : Hn := (.n .no (.n (.n .no (.n .no (.n .no (.n (.n .no (.n (.n .no .no (some ⟨[], [(16, .sc (.int .u8))], false⟩)) .no none) none) .no (some ⟨[1, 3, 4], [], true⟩)) none) none) none) .no none) none)
def c60 (x_0 : Int × Int × Int × Int × Int × Int) (S : St) (k : Value → St → Prop) : Prop :=
  newW S
  (.cells
  [.int .i64 x_0.1, .int .i64 x_0.2.1, .int .i64 x_0.2.2.1, .int .i64 x_0.2.2.2.1, .int .i64 x_0.2.2.2.2.1,
  .int .u64 x_0.2.2.2.2.2]
  none false none)
  fun (b1 : Nat) (S1 : St) =>
  ptrW (some ⟨b1, 0, none⟩) fun (b2 b3 : Nat) =>
  evV tI (loadV E0 S1 3 (.pointer (some ⟨b2, b3 + 0, none⟩))) fun (n1 : Int) =>
  newW S1 (.cells [.int .i64 0, .int .i64 0, .int .i64 0, .int .i64 0, .int .i64 0, .int .u64 0] none false none)
  fun (b4 : Nat) (S2 : St) =>
  evS
  (storeV E0 S2 48 (.pointer (some ⟨b4, 0, none⟩))
  (.agg #[.int .i64 n1, .int .i64 0, .int .i64 0, .int .i64 0, .int .i64 0, .int .u64 0]))
  fun (S3 : St) =>
  ptrW (some ⟨b1, 0, none⟩) fun (b5 b6 : Nat) =>
  evV tI (loadV E0 S3 3 (.pointer (some ⟨b5, b6 + 0, none⟩))) fun (n2 : Int) =>
  evC E0 tT 62 [.int .i64 n2] S3 fun (l1 : List UInt8) (S4 : St) =>
  newW S4 (.cells [.bool false] none false none) fun (b7 : Nat) (S5 : St) =>
  evS (storeV E0 S5 4 (.pointer (some ⟨b7, 0, none⟩)) (.bool !l1 == [])) fun (S6 : St) =>
  joinW
  (fun (x1 : List Nat × PUnit) (S7 : St) =>
  evV tB (loadV E0 S7 4 (.pointer (some ⟨b7, 0, none⟩))) fun (t1 : Bool) =>
  ifW (!t1) (shutW x1.1 S7 fun (S8 : St) => k (.int .i64 230) S8)
  (evV (TT.one (Ty.agg G47)) (loadV E0 S7 48 (.pointer (some ⟨b1, 0, none⟩))) fun (x2 : Int × Int × Int × Int × Int × Int) =>
  evV (TT.one (Ty.agg G47)) (loadV E0 S7 48 (.pointer (some ⟨b4, 0, none⟩))) fun (x3 : Int × Int × Int × Int × Int × Int) =>
  eqW E0 S7 48 (sv G47 x2) (sv G47 x3) fun (t2 : Bool) =>
  ifW (!t2) (shutW x1.1 S7 fun (S9 : St) => k (.int .i64 230) S9) (shutW x1.1 S7 fun (S10 : St) => k (.int .i64 0) S10)))
  fun (k1 : List Nat × PUnit → St → Prop) =>
  ptrW (some ⟨b1, 0, none⟩) fun (b8 b9 : Nat) =>
  evV tI (loadV E0 S6 3 (.pointer (some ⟨b8, b9 + 0, none⟩))) fun (n3 : Int) =>
  evC E0 tA 63 [.int .i64 n3] S6 fun (v1 : Value) (S11 : St) =>
  newW S11 DObj.deferred fun (b10 : Nat) (S12 : St) =>
  ∀ (b11 : Nat) (S13 : St) (k2 : LoopState → Option Code → DObj),
  b11 = S12.next →
  S13 = (St.alloc S12 (k2 LoopState.ready none)).2 →
  (LoopL fun (x4 : LoopState) (p1 : Option Code) => k2 x4 p1) →
  (RoundH E0 b11 [Ty.sc (Sc.int .u8)] fun (n4 : Int) (S14 : St) (k3 : Bool → St → Prop) =>
  hasW S14 b11 (k2 LoopState.ready none)
  (hasW S14 b11 (k2 LoopState.ready none)
  (updW S14 b11 (k2 LoopState.busy none) fun (S15 : St) =>
  ifW (eqI n4 114)
  (ptrW (some ⟨b1, 0, none⟩) fun (b12 b13 : Nat) =>
  evV tI (loadV E0 S15 3 (.pointer (some ⟨b12, b13 + 1, none⟩))) fun (n5 : Int) =>
  ptrW (some ⟨b1, 0, none⟩) fun (b14 b15 : Nat) =>
  evV tI (loadV E0 S15 3 (.pointer (some ⟨b14, b15 + 1, none⟩))) fun (n6 : Int) =>
  evC E0 tB 96 [.int .i64 n6, .int .i64 0, .int .i64 63] S15 fun (t3 : Bool) (S16 : St) =>
  evV tI (loadV E0 S16 3 (.pointer (some ⟨b12, b13 + 1, none⟩))) fun (n7 : Int) =>
  sameV (.int .i64 n7) (.int .i64 n5)
  (ptrW (some ⟨b4, 0, none⟩) fun (b16 b17 : Nat) =>
  evS (storeV E0 S16 3 (.pointer (some ⟨b16, b17 + 1, none⟩)) (.int .i64 n5)) fun (S17 : St) =>
  evS (storeV E0 S17 4 (.pointer (some ⟨b7, 0, none⟩)) (.bool t3)) fun (S18 : St) =>
  evV tB (loadV E0 S18 4 (.pointer (some ⟨b7, 0, none⟩))) fun (t4 : Bool) =>
  ifW (!t4) (hasW S18 b11 (k2 LoopState.busy none) (updW S18 b11 (k2 LoopState.done (some (Code.exit 0))) fun (S19 : St) => k3 false S19))
  (hasW S18 b11 (k2 LoopState.busy none) (updW S18 b11 (k2 LoopState.ready none) fun (S20 : St) => k3 true S20))))
  (ifW (eqI n4 100)
  (ptrW (some ⟨b1, 0, none⟩) fun (b18 b19 : Nat) =>
  evV tU (loadV E0 S15 46 (.pointer (some ⟨b18, b19 + 5, none⟩))) fun (n8 : Int) =>
  ptrW (some ⟨b4, 0, none⟩) fun (b20 b21 : Nat) =>
  evS (storeV E0 S15 46 (.pointer (some ⟨b20, b21 + 5, none⟩)) (.int .u64 n8)) fun (S21 : St) =>
  evV tB (loadV E0 S21 4 (.pointer (some ⟨b7, 0, none⟩))) fun (t5 : Bool) =>
  ifW (!t5) (hasW S21 b11 (k2 LoopState.busy none) (updW S21 b11 (k2 LoopState.done (some (Code.exit 0))) fun (S22 : St) => k3 false S22))
  (hasW S21 b11 (k2 LoopState.busy none) (updW S21 b11 (k2 LoopState.ready none) fun (S23 : St) => k3 true S23)))
  (ifW (eqI n4 112)
  (ptrW (some ⟨b1, 0, none⟩) fun (b22 b23 : Nat) =>
  evV tI (loadV E0 S15 3 (.pointer (some ⟨b22, b23 + 2, none⟩))) fun (n9 : Int) =>
  ptrW (some ⟨b1, 0, none⟩) fun (b24 b25 : Nat) =>
  evV tI (loadV E0 S15 3 (.pointer (some ⟨b24, b25 + 2, none⟩))) fun (n10 : Int) =>
  ptrW (some ⟨b4, 0, none⟩) fun (b26 b27 : Nat) =>
  evS (storeV E0 S15 3 (.pointer (some ⟨b26, b27 + 2, none⟩)) (.int .i64 n9)) fun (S24 : St) =>
  evV tI (loadV E0 S24 3 (.pointer (some ⟨b24, b25 + 2, none⟩))) fun (n11 : Int) =>
  sameV (.int .i64 n11) (.int .i64 n10)
  (evS (storeV E0 S24 4 (.pointer (some ⟨b7, 0, none⟩)) (.bool (leI 1 n10))) fun (S25 : St) =>
  evV tB (loadV E0 S25 4 (.pointer (some ⟨b7, 0, none⟩))) fun (t6 : Bool) =>
  ifW (!t6) (hasW S25 b11 (k2 LoopState.busy none) (updW S25 b11 (k2 LoopState.done (some (Code.exit 0))) fun (S26 : St) => k3 false S26))
  (hasW S25 b11 (k2 LoopState.busy none) (updW S25 b11 (k2 LoopState.ready none) fun (S27 : St) => k3 true S27))))
  (ifW (eqI n4 97)
  (ptrW (some ⟨b1, 0, none⟩) fun (b28 b29 : Nat) =>
  evV tI (loadV E0 S15 3 (.pointer (some ⟨b28, b29 + 3, none⟩))) fun (n12 : Int) =>
  ptrW (some ⟨b1, 0, none⟩) fun (b30 b31 : Nat) =>
  evV tI (loadV E0 S15 3 (.pointer (some ⟨b30, b31 + 3, none⟩))) fun (n13 : Int) =>
  ptrW (some ⟨b4, 0, none⟩) fun (b32 b33 : Nat) =>
  evS (storeV E0 S15 3 (.pointer (some ⟨b32, b33 + 3, none⟩)) (.int .i64 n12)) fun (S28 : St) =>
  evV tI (loadV E0 S28 3 (.pointer (some ⟨b30, b31 + 3, none⟩))) fun (n14 : Int) =>
  sameV (.int .i64 n14) (.int .i64 n13)
  (evS (storeV E0 S28 4 (.pointer (some ⟨b7, 0, none⟩)) (.bool (leI 0 n13))) fun (S29 : St) =>
  evV tB (loadV E0 S29 4 (.pointer (some ⟨b7, 0, none⟩))) fun (t7 : Bool) =>
  ifW (!t7) (hasW S29 b11 (k2 LoopState.busy none) (updW S29 b11 (k2 LoopState.done (some (Code.exit 0))) fun (S30 : St) => k3 false S30))
  (hasW S29 b11 (k2 LoopState.busy none) (updW S29 b11 (k2 LoopState.ready none) fun (S31 : St) => k3 true S31))))
  (ifW (eqI n4 119)
  (ptrW (some ⟨b1, 0, none⟩) fun (b34 b35 : Nat) =>
  evV tI (loadV E0 S15 3 (.pointer (some ⟨b34, b35 + 4, none⟩))) fun (n15 : Int) =>
  ptrW (some ⟨b1, 0, none⟩) fun (b36 b37 : Nat) =>
  evV tI (loadV E0 S15 3 (.pointer (some ⟨b36, b37 + 4, none⟩))) fun (n16 : Int) =>
  evC E0 tB 96 [.int .i64 n16, .int .i64 1, .int .i64 255] S15 fun (t8 : Bool) (S32 : St) =>
  evV tI (loadV E0 S32 3 (.pointer (some ⟨b34, b35 + 4, none⟩))) fun (n17 : Int) =>
  sameV (.int .i64 n17) (.int .i64 n15)
  (ptrW (some ⟨b4, 0, none⟩) fun (b38 b39 : Nat) =>
  evS (storeV E0 S32 3 (.pointer (some ⟨b38, b39 + 4, none⟩)) (.int .i64 n15)) fun (S33 : St) =>
  evS (storeV E0 S33 4 (.pointer (some ⟨b7, 0, none⟩)) (.bool t8)) fun (S34 : St) =>
  evV tB (loadV E0 S34 4 (.pointer (some ⟨b7, 0, none⟩))) fun (t9 : Bool) =>
  ifW (!t9) (hasW S34 b11 (k2 LoopState.busy none) (updW S34 b11 (k2 LoopState.done (some (Code.exit 0))) fun (S35 : St) => k3 false S35))
  (hasW S34 b11 (k2 LoopState.busy none) (updW S34 b11 (k2 LoopState.ready none) fun (S36 : St) => k3 true S36))))
  (ifW (eqI n4 99)
  (ptrW (some ⟨b1, 0, none⟩) fun (b40 b41 : Nat) =>
  evV tI (loadV E0 S15 3 (.pointer (some ⟨b40, b41 + 2, none⟩))) fun (n18 : Int) =>
  ptrW (some ⟨b1, 0, none⟩) fun (b42 b43 : Nat) =>
  evV tI (loadV E0 S15 3 (.pointer (some ⟨b42, b43 + 2, none⟩))) fun (n19 : Int) =>
  evC E0 tB 96 [.int .i64 n19, .int .i64 0, .int .i64 1023] S15 fun (t10 : Bool) (S37 : St) =>
  evV tI (loadV E0 S37 3 (.pointer (some ⟨b40, b41 + 2, none⟩))) fun (n20 : Int) =>
  sameV (.int .i64 n20) (.int .i64 n18)
  (ptrW (some ⟨b4, 0, none⟩) fun (b44 b45 : Nat) =>
  evS (storeV E0 S37 3 (.pointer (some ⟨b44, b45 + 2, none⟩)) (.int .i64 n18)) fun (S38 : St) =>
  evS (storeV E0 S38 4 (.pointer (some ⟨b7, 0, none⟩)) (.bool t10)) fun (S39 : St) =>
  evV tB (loadV E0 S39 4 (.pointer (some ⟨b7, 0, none⟩))) fun (t11 : Bool) =>
  ifW (!t11) (hasW S39 b11 (k2 LoopState.busy none) (updW S39 b11 (k2 LoopState.done (some (Code.exit 0))) fun (S40 : St) => k3 false S40))
  (hasW S39 b11 (k2 LoopState.busy none) (updW S39 b11 (k2 LoopState.ready none) fun (S41 : St) => k3 true S41))))
  (ifW (eqI n4 101)
  (ptrW (some ⟨b1, 0, none⟩) fun (b46 b47 : Nat) =>
  evV tI (loadV E0 S15 3 (.pointer (some ⟨b46, b47 + 2, none⟩))) fun (n21 : Int) =>
  ptrW (some ⟨b1, 0, none⟩) fun (b48 b49 : Nat) =>
  evV tI (loadV E0 S15 3 (.pointer (some ⟨b48, b49 + 2, none⟩))) fun (n22 : Int) =>
  evC E0 tB 96 [.int .i64 n22, .int .i64 0, .int .i64 1000] S15 fun (t12 : Bool) (S42 : St) =>
  evV tI (loadV E0 S42 3 (.pointer (some ⟨b46, b47 + 2, none⟩))) fun (n23 : Int) =>
  sameV (.int .i64 n23) (.int .i64 n21)
  (ptrW (some ⟨b4, 0, none⟩) fun (b50 b51 : Nat) =>
  evS (storeV E0 S42 3 (.pointer (some ⟨b50, b51 + 2, none⟩)) (.int .i64 n21)) fun (S43 : St) =>
  evS (storeV E0 S43 4 (.pointer (some ⟨b7, 0, none⟩)) (.bool t12)) fun (S44 : St) =>
  evV tB (loadV E0 S44 4 (.pointer (some ⟨b7, 0, none⟩))) fun (t13 : Bool) =>
  ifW (!t13)
  (hasW S44 b11 (k2 LoopState.busy none) (updW S44 b11 (k2 LoopState.done (some (Code.exit 0))) fun (S45 : St) => k3 false S45))
  (hasW S44 b11 (k2 LoopState.busy none) (updW S44 b11 (k2 LoopState.ready none) fun (S46 : St) => k3 true S46))))
  (ptrW (some ⟨b1, 0, none⟩) fun (b52 b53 : Nat) =>
  evV tI (loadV E0 S15 3 (.pointer (some ⟨b52, b53 + 2, none⟩))) fun (n24 : Int) =>
  ptrW (some ⟨b1, 0, none⟩) fun (b54 b55 : Nat) =>
  evV tI (loadV E0 S15 3 (.pointer (some ⟨b54, b55 + 2, none⟩))) fun (n25 : Int) =>
  evC E0 tB 96 [.int .i64 n25, .int .i64 (-1), .int .i64 1000] S15 fun (t14 : Bool) (S47 : St) =>
  evV tI (loadV E0 S47 3 (.pointer (some ⟨b52, b53 + 2, none⟩))) fun (n26 : Int) =>
  sameV (.int .i64 n26) (.int .i64 n24)
  (ptrW (some ⟨b4, 0, none⟩) fun (b56 b57 : Nat) =>
  evS (storeV E0 S47 3 (.pointer (some ⟨b56, b57 + 2, none⟩)) (.int .i64 n24)) fun (S48 : St) =>
  evS (storeV E0 S48 4 (.pointer (some ⟨b7, 0, none⟩)) (.bool t14)) fun (S49 : St) =>
  evV tB (loadV E0 S49 4 (.pointer (some ⟨b7, 0, none⟩))) fun (t15 : Bool) =>
  ifW (!t15)
  (hasW S49 b11 (k2 LoopState.busy none) (updW S49 b11 (k2 LoopState.done (some (Code.exit 0))) fun (S50 : St) => k3 false S50))
  (hasW S49 b11 (k2 LoopState.busy none) (updW S49 b11 (k2 LoopState.ready none) fun (S51 : St) => k3 true S51))))))))))))) →
  WG E0 v1 b11 S13 fun (S52 : St) =>
  hasW S52 b11 (k2 LoopState.ready none) (updW S52 b11 (k2 LoopState.exhausted none) fun (S53 : St) => k1 ([b10], PUnit.unit) S53) ∨
  hasW S52 b11 (k2 LoopState.done (some (Code.exit 0))) (updW S52 b11 (k2 LoopState.exhausted (some (Code.exit 0))) fun (S54 : St) => k1 ([b10], PUnit.unit) S54) ∨ False
theorem w60 (x_0 : Int × Int × Int × Int × Int × Int) {S : St} {k : Value → St → Prop} (h : c60 x_0 S k) : WC E0 60 [sv G47 x_0] S k :=
  WC_den h60 rfl (by kernel_rfl) (by kernel_rfl : Tryd.f60.body = some (bodyOf Tryd.f60)) (by rw [show (denF E0 h60 Tryd.f60 (bodyOf Tryd.f60) [sv G47 x_0] S k) = c60 x_0 S k by kernel_rfl]; exact h)

/-! 63 wagonway/order.parts -/
noncomputable def h63 : Hn := .no
def c63 (kind_0 : Int) (S : St) (k : Value → St → Prop) : Prop :=
  newW S (.cells [.int .i64 kind_0] none false none) fun (b1 : Nat) (S1 : St) => k (.func (Fn.func 98) #[] #[.pointer (some ⟨b1, 0, none⟩)]) S1
theorem w63 (kind_0 : Int) {S : St} {k : Value → St → Prop} (h : c63 kind_0 S k) : WC E0 63 [.int .i64 kind_0] S k :=
  WC_den h63 rfl (by kernel_rfl) (by kernel_rfl : Tryd.f63.body = some (bodyOf Tryd.f63)) (by rw [show (denF E0 h63 Tryd.f63 (bodyOf Tryd.f63) [.int .i64 kind_0] S k) = c63 kind_0 S k by kernel_rfl]; exact h)

/-! 64 strconv.FormatUint -/
noncomputable def h64 : Hn := .no
def c64 (i_0 : Int) (base_1 : Int) (S : St) (k : Value → St → Prop) : Prop :=
  evC E0 tT 99 [.int .u64 i_0, .int .i64 base_1] S fun (l1 : List UInt8) (S1 : St) => k (.string { data := List.toArray l1 }) S1
theorem w64 (i_0 : Int) (base_1 : Int) {S : St} {k : Value → St → Prop} (h : c64 i_0 base_1 S k) : WC E0 64 [.int .u64 i_0, .int .i64 base_1] S k :=
  WC_den h64 rfl (by kernel_rfl) (by kernel_rfl : Tryd.f64.body = some (bodyOf Tryd.f64)) (by rw [show (denF E0 h64 Tryd.f64 (bodyOf Tryd.f64) [.int .u64 i_0, .int .i64 base_1] S k) = c64 i_0 base_1 S k by kernel_rfl]; exact h)

/-! 65 internal/strconv.Itoa -/
noncomputable def h65 : Hn := .no
def c65 (i_0 : Int) (S : St) (k : Value → St → Prop) : Prop :=
  evC E0 tT 100 [.int .i64 i_0, .int .i64 10] S fun (l1 : List UInt8) (S1 : St) => k (.string { data := List.toArray l1 }) S1
theorem w65 (i_0 : Int) {S : St} {k : Value → St → Prop} (h : c65 i_0 S k) : WC E0 65 [.int .i64 i_0] S k :=
  WC_den h65 rfl (by kernel_rfl) (by kernel_rfl : Tryd.f65.body = some (bodyOf Tryd.f65)) (by rw [show (denF E0 h65 Tryd.f65 (bodyOf Tryd.f65) [.int .i64 i_0] S k) = c65 i_0 S k by kernel_rfl]; exact h)

/-! 70 wagonway/order.Read$1 -/
noncomputable def h70 : Hn := .no
def c70 (c0 : Nat) (S : St) (k : Value → St → Prop) : Prop :=
  evV tS (loadV E0 S 74 (.pointer (some ⟨c0, 0, none⟩))) fun (s1 : Sl) =>
  ifW (eqI (↑s1.len : Int) 0) (k (.string { data := #[] }) S)
  (evV tS (loadV E0 S 74 (.pointer (some ⟨c0, 0, none⟩))) fun (s2 : Sl) =>
  idxW s2.a s2.len 0 fun (b1 b2 : Nat) =>
  evV tT (loadV E0 S 9 (.pointer (some ⟨b1, b2 + Int.toNat 0 * 1, none⟩))) fun (l1 : List UInt8) =>
  evV tS (loadV E0 S 74 (.pointer (some ⟨c0, 0, none⟩))) fun (s3 : Sl) =>
  evV tS (sliceD E0 S 74 (.slice s3.a s3.len s3.cap) (some (.int .i64 1)) none none) fun (s4 : Sl) =>
  evS (storeV E0 S 74 (.pointer (some ⟨c0, 0, none⟩)) (.slice s4.a s4.len s4.cap)) fun (S1 : St) => k (.string { data := List.toArray l1 }) S1)
theorem w70 (c0 : Nat) {S : St} {k : Value → St → Prop} (h : c70 c0 S k) : WC E0 70 [.pointer (some ⟨c0, 0, none⟩)] S k :=
  WC_den h70 rfl (by kernel_rfl) (by kernel_rfl : Tryd.f70.body = some (bodyOf Tryd.f70)) (by rw [show (denF E0 h70 Tryd.f70 (bodyOf Tryd.f70) [.pointer (some ⟨c0, 0, none⟩)] S k) = c70 c0 S k by kernel_rfl]; exact h)

/-! 96 wagonway/order.within -/
noncomputable def h96 : Hn := .no
def c96 (n_0 : Int) (from_1 : Int) (to_2 : Int) (S : St) (k : Value → St → Prop) : Prop :=
  ifW (leI from_1 n_0) (k (.bool (leI n_0 to_2)) S) (k (.bool false) S)
theorem w96 (n_0 : Int) (from_1 : Int) (to_2 : Int) {S : St} {k : Value → St → Prop} (h : c96 n_0 from_1 to_2 S k) : WC E0 96 [.int .i64 n_0, .int .i64 from_1, .int .i64 to_2] S k :=
  WC_den h96 rfl (by kernel_rfl) (by kernel_rfl : Tryd.f96.body = some (bodyOf Tryd.f96)) (by rw [show (denF E0 h96 Tryd.f96 (bodyOf Tryd.f96) [.int .i64 n_0, .int .i64 from_1, .int .i64 to_2] S k) = c96 n_0 from_1 to_2 S k by kernel_rfl]; exact h)

/-! 98 wagonway/order.parts$1 -/
noncomputable def h98 : Hn := (.n .no (.n (.n .no (.n (.n .no (.n .no (.n .no .no (some ⟨[0, 3, 5], [(8, .sc .bool)], false⟩)) none) none) .no none) none) (.n .no (.n (.n .no .no (some ⟨[0, 3, 23], [(24, .sc (.int .i64))], false⟩)) .no none) none) (some ⟨[0], [(3, .sc .str)], false⟩)) none)
def c98 (yield_0 : Value) (c1 : Nat) (S : St) (k : Value → St → Prop) : Prop :=
  joinW
  (fun (l1 : List UInt8) (S1 : St) =>
  loopW
  (fun (k1 : Int → St → Prop) (n1 : Int) (S2 : St) =>
  ifW (ltI n1 (↑(List.length l1) : Int))
  (evV tU8 (indexD E0 9 (.string { data := List.toArray l1 }) (.int .i64 n1)) fun (n2 : Int) =>
  evY E0 tB yield_0 [.int .u8 n2] S2 fun (t1 : Bool) (S3 : St) => ifW (!t1) (k (.tuple #[]) S3) (k1 (wrapI .i64 (n1 + 1)) S3))
  (k (.tuple #[]) S2))
  0 S1)
  fun (k2 : List UInt8 → St → Prop) =>
  evV tI (loadV E0 S 3 (.pointer (some ⟨c1, 0, none⟩))) fun (n3 : Int) =>
  ifW (eqI n3 1) (k2 [UInt8.ofNat 114, UInt8.ofNat 100] S)
  (joinW
  (fun (t2 : Bool) (S4 : St) =>
  ifW t2 (k2 [UInt8.ofNat 112] S4)
  (ifW (eqI n3 5) (k2 [UInt8.ofNat 112, UInt8.ofNat 97, UInt8.ofNat 119] S4)
  (ifW (eqI n3 6) (k2 [UInt8.ofNat 114] S4)
  (ifW (eqI n3 7) (k2 [UInt8.ofNat 114, UInt8.ofNat 99] S4) (ifW (eqI n3 8) (k2 [UInt8.ofNat 114, UInt8.ofNat 101] S4) (ifW (eqI n3 9) (k2 [UInt8.ofNat 114, UInt8.ofNat 117] S4) (k2 [] S4)))))))
  fun (k3 : Bool → St → Prop) => ifW (eqI n3 2) (k3 true S) (ifW (eqI n3 3) (k3 true S) (k3 (eqI n3 4) S)))
theorem w98 (yield_0 : Value) (c1 : Nat) {S : St} {k : Value → St → Prop} (h : c98 yield_0 c1 S k) : WC E0 98 [yield_0, .pointer (some ⟨c1, 0, none⟩)] S k :=
  WC_den h98 rfl (by kernel_rfl) (by kernel_rfl : Tryd.f98.body = some (bodyOf Tryd.f98)) (by rw [show (denF E0 h98 Tryd.f98 (bodyOf Tryd.f98) [yield_0, .pointer (some ⟨c1, 0, none⟩)] S k) = c98 yield_0 c1 S k by kernel_rfl]; exact h)

/-! 99 internal/strconv.FormatUint -/
noncomputable def h99 : Hn := .no
def c99 (i_0 : Int) (base_1 : Int) (S : St) (k : Value → St → Prop) : Prop :=
  ifW (eqI base_1 10)
  (ifW (ltI i_0 100) (evC E0 tT 118 [.int .i64 (wrapI .i64 i_0)] S fun (l1 : List UInt8) (S1 : St) => k (.string { data := List.toArray l1 }) S1)
  (newW S
  (.cells
  [.int .u8 0, .int .u8 0, .int .u8 0, .int .u8 0, .int .u8 0, .int .u8 0, .int .u8 0, .int .u8 0,
  .int .u8 0, .int .u8 0, .int .u8 0, .int .u8 0, .int .u8 0, .int .u8 0, .int .u8 0, .int .u8 0,
  .int .u8 0, .int .u8 0, .int .u8 0, .int .u8 0, .int .u8 0, .int .u8 0, .int .u8 0, .int .u8 0]
  none false none)
  fun (b1 : Nat) (S2 : St) =>
  evC E0 tI 119 [.int .u64 i_0] S2 fun (n1 : Int) (S3 : St) =>
  evV tS (sliceD E0 S3 168 (.pointer (some ⟨b1, 0, none⟩)) none (some (.int .i64 n1)) none) fun (s1 : Sl) =>
  evC E0 (TT.tup []) 120 [.slice s1.a s1.len s1.cap, .int .u64 i_0] S3 fun (x1 : PUnit) (S4 : St) =>
  evV tS (sliceD E0 S4 168 (.pointer (some ⟨b1, 0, none⟩)) none (some (.int .i64 n1)) none) fun (s2 : Sl) =>
  evP tT (convertD E0 S4 92 9 (.slice s2.a s2.len s2.cap)) fun (l2 : List UInt8) (S5 : St) => k (.string { data := List.toArray l2 }) S5))
  (evC E0 (TT.tup [Ty.sc Sc.sl, Ty.sc Sc.str]) 121 [.slice none 0 0, .int .u64 i_0, .int .i64 base_1, .bool false, .bool false] S fun (x2 : Sl × List UInt8) (S6 : St) =>
  k (.string { data := List.toArray x2.2 }) S6)
theorem w99 (i_0 : Int) (base_1 : Int) {S : St} {k : Value → St → Prop} (h : c99 i_0 base_1 S k) : WC E0 99 [.int .u64 i_0, .int .i64 base_1] S k :=
  WC_den h99 rfl (by kernel_rfl) (by kernel_rfl : Tryd.f99.body = some (bodyOf Tryd.f99)) (by rw [show (denF E0 h99 Tryd.f99 (bodyOf Tryd.f99) [.int .u64 i_0, .int .i64 base_1] S k) = c99 i_0 base_1 S k by kernel_rfl]; exact h)

/-! 100 internal/strconv.FormatInt -/
noncomputable def h100 : Hn := (.n .no (.n (.n .no (.n (.n (.n .no .no (some ⟨[0], [(17, .sc .bool)], false⟩)) (.n .no (.n .no (.n .no .no (some ⟨[0, 5], [(6, .sc (.int .u64))], false⟩)) none) none) none) .no none) none) .no none) none)
def c100 (i_0 : Int) (base_1 : Int) (S : St) (k : Value → St → Prop) : Prop :=
  ifW (eqI base_1 10)
  (joinW
  (fun (t1 : Bool) (S1 : St) =>
  ifW t1 (evC E0 tT 118 [.int .i64 i_0] S1 fun (l1 : List UInt8) (S2 : St) => k (.string { data := List.toArray l1 }) S2)
  (newW S1
  (.cells
  [.int .u8 0, .int .u8 0, .int .u8 0, .int .u8 0, .int .u8 0, .int .u8 0, .int .u8 0, .int .u8 0,
  .int .u8 0, .int .u8 0, .int .u8 0, .int .u8 0, .int .u8 0, .int .u8 0, .int .u8 0, .int .u8 0,
  .int .u8 0, .int .u8 0, .int .u8 0, .int .u8 0, .int .u8 0, .int .u8 0, .int .u8 0, .int .u8 0]
  none false none)
  fun (b1 : Nat) (S3 : St) =>
  joinW
  (fun (n1 : Int) (S4 : St) =>
  evC E0 tI 119 [.int .u64 n1] S4 fun (n2 : Int) (S5 : St) =>
  evV tS (sliceD E0 S5 168 (.pointer (some ⟨b1, 0, none⟩)) (some (.int .i64 1)) (some (.int .i64 (wrapI .i64 (1 + n2)))) none) fun (s1 : Sl) =>
  evC E0 (TT.tup []) 120 [.slice s1.a s1.len s1.cap, .int .u64 n1] S5 fun (x1 : PUnit) (S6 : St) =>
  ifW (ltI i_0 0)
  (idxW (some ⟨b1, 0, none⟩) 24 0 fun (b2 b3 : Nat) =>
  evS (storeV E0 S6 5 (.pointer (some ⟨b2, b3 + Int.toNat 0 * 1, none⟩)) (.int .u8 45)) fun (S7 : St) =>
  evV tS (sliceD E0 S7 168 (.pointer (some ⟨b1, 0, none⟩)) none (some (.int .i64 (wrapI .i64 (1 + n2)))) none) fun (s2 : Sl) =>
  evP tT (convertD E0 S7 92 9 (.slice s2.a s2.len s2.cap)) fun (l2 : List UInt8) (S8 : St) => k (.string { data := List.toArray l2 }) S8)
  (evV tS (sliceD E0 S6 168 (.pointer (some ⟨b1, 0, none⟩)) (some (.int .i64 1)) (some (.int .i64 (wrapI .i64 (1 + n2)))) none) fun (s3 : Sl) =>
  evP tT (convertD E0 S6 92 9 (.slice s3.a s3.len s3.cap)) fun (l3 : List UInt8) (S9 : St) => k (.string { data := List.toArray l3 }) S9))
  fun (k1 : Int → St → Prop) => ifW (ltI i_0 0) (k1 (wrapI .u64 (0 - wrapI .u64 i_0)) S3) (k1 (wrapI .u64 i_0) S3)))
  fun (k2 : Bool → St → Prop) => ifW (leI 0 i_0) (k2 (ltI i_0 100) S) (k2 false S))
  (evC E0 (TT.tup [Ty.sc Sc.sl, Ty.sc Sc.str]) 121 [.slice none 0 0, .int .u64 (wrapI .u64 i_0), .int .i64 base_1, .bool (ltI i_0 0), .bool false] S
  fun (x2 : Sl × List UInt8) (S10 : St) => k (.string { data := List.toArray x2.2 }) S10)
theorem w100 (i_0 : Int) (base_1 : Int) {S : St} {k : Value → St → Prop} (h : c100 i_0 base_1 S k) : WC E0 100 [.int .i64 i_0, .int .i64 base_1] S k :=
  WC_den h100 rfl (by kernel_rfl) (by kernel_rfl : Tryd.f100.body = some (bodyOf Tryd.f100)) (by rw [show (denF E0 h100 Tryd.f100 (bodyOf Tryd.f100) [.int .i64 i_0, .int .i64 base_1] S k) = c100 i_0 base_1 S k by kernel_rfl]; exact h)

/-! 119 internal/strconv.numDigits -/
noncomputable def h119 : Hn := .no
def c119 (d_0 : Int) (S : St) (k : Value → St → Prop) : Prop :=
  evC E0 tI 95 [.int .u64 d_0] S fun (n1 : Int) (S1 : St) =>
  evC E0 tI 147 [.int .i64 n1] S1 fun (n2 : Int) (S2 : St) =>
  idxW (some ⟨4, 0, none⟩) 20 n2 fun (b1 b2 : Nat) =>
  evV tU (loadV E0 S2 46 (.pointer (some ⟨b1, b2 + Int.toNat n2 * 1, none⟩))) fun (n3 : Int) =>
  evC E0 tI 148 [.bool (leI n3 d_0)] S2 fun (n4 : Int) (S3 : St) => k (.int .i64 (wrapI .i64 (n2 + n4))) S3
theorem w119 (d_0 : Int) {S : St} {k : Value → St → Prop} (h : c119 d_0 S k) : WC E0 119 [.int .u64 d_0] S k :=
  WC_den h119 rfl (by kernel_rfl) (by kernel_rfl : Tryd.f119.body = some (bodyOf Tryd.f119)) (by rw [show (denF E0 h119 Tryd.f119 (bodyOf Tryd.f119) [.int .u64 d_0] S k) = c119 d_0 S k by kernel_rfl]; exact h)

/-! 147 internal/strconv.log10Pow2 -/
noncomputable def h147 : Hn := .no
def c147 (x_0 : Int) (S : St) (k : Value → St → Prop) : Prop :=
  needW true (k (.int .i64 (Int.fdiv (wrapI .i64 (x_0 * 78913)) (↑(2 ^ min (Int.toNat 18) 64) : Int))) S)
theorem w147 (x_0 : Int) {S : St} {k : Value → St → Prop} (h : c147 x_0 S k) : WC E0 147 [.int .i64 x_0] S k :=
  WC_den h147 rfl (by kernel_rfl) (by kernel_rfl : Tryd.f147.body = some (bodyOf Tryd.f147)) (by rw [show (denF E0 h147 Tryd.f147 (bodyOf Tryd.f147) [.int .i64 x_0] S k) = c147 x_0 S k by kernel_rfl]; exact h)

/-! 148 internal/strconv.bool2[int] -/
noncomputable def h148 : Hn := .no
def c148 (b_0 : Bool) (S : St) (k : Value → St → Prop) : Prop :=
  ifW b_0 (k (.int .i64 1) S) (k (.int .i64 0) S)
theorem w148 (b_0 : Bool) {S : St} {k : Value → St → Prop} (h : c148 b_0 S k) : WC E0 148 [.bool b_0] S k :=
  WC_den h148 rfl (by kernel_rfl) (by kernel_rfl : Tryd.f148.body = some (bodyOf Tryd.f148)) (by rw [show (denF E0 h148 Tryd.f148 (bodyOf Tryd.f148) [.bool b_0] S k) = c148 b_0 S k by kernel_rfl]; exact h)

/-! 3 wagonway/wagonwaylaw26.WatchOrder -/
noncomputable def h3 : Hn := (.n .no (.n .no (.n .no (.n .no (.n (.n .no (.n (.n .no .no (some ⟨[1, 3, 4], [(5, .sc (.int .i64))], false⟩)) .no none) none) (.n .no (.n .no (.n (.n .no (.n (.n (.n .no (.n (.n (.n .no (.n (.n .no (.n (.n .no .no (some ⟨[1, 3, 4, 8, 9], [(10, .sc .sl), (11, .sc (.int .i64))], false⟩)) .no none) none) .no none) none) .no none) .no none) none) .no (some ⟨[1, 3, 4, 8], [(9, .sc (.int .i64))], false⟩)) .no none) none) .no none) none) none) none) none) none) none) none)
def c3 (v_0 : Sl × Sl × Sl × Sl × Sl × Sl × Sl × Sl × Int) (S : St) (k : Value → St → Prop) : Prop :=
  newW S
  (.cells
  [.slice v_0.1.a v_0.1.len v_0.1.cap, .slice v_0.2.1.a v_0.2.1.len v_0.2.1.cap, .slice v_0.2.2.1.a v_0.2.2.1.len v_0.2.2.1.cap,
  .slice v_0.2.2.2.1.a v_0.2.2.2.1.len v_0.2.2.2.1.cap, .slice v_0.2.2.2.2.1.a v_0.2.2.2.2.1.len v_0.2.2.2.2.1.cap,
  .slice v_0.2.2.2.2.2.1.a v_0.2.2.2.2.2.1.len v_0.2.2.2.2.2.1.cap,
  .slice v_0.2.2.2.2.2.2.1.a v_0.2.2.2.2.2.2.1.len v_0.2.2.2.2.2.2.1.cap,
  .slice v_0.2.2.2.2.2.2.2.1.a v_0.2.2.2.2.2.2.2.1.len v_0.2.2.2.2.2.2.2.1.cap, .int .i64 v_0.2.2.2.2.2.2.2.2]
  none false none)
  fun (b1 : Nat) (S1 : St) =>
  evC E0 tB 5 [] S1 fun (t1 : Bool) (S2 : St) =>
  evV (TT.one (Ty.agg G26)) (loadV E0 S2 27 (.pointer (some ⟨b1, 0, none⟩))) fun (x1 : Sl × Sl × Sl × Sl × Sl × Sl × Sl × Sl × Int) =>
  evC E0 tI 6 [sv G26 x1] S2 fun (n1 : Int) (S3 : St) =>
  ifW (ltI 0 n1) (k (.bool t1) S3)
  (ifW (!t1) (k (.bool t1) S3)
  (evV (TT.one (Ty.agg G26)) (loadV E0 S3 27 (.pointer (some ⟨b1, 0, none⟩))) fun (x2 : Sl × Sl × Sl × Sl × Sl × Sl × Sl × Sl × Int) =>
  evC E0 tS 7 [sv G26 x2] S3 fun (s1 : Sl) (S4 : St) =>
  loopW
  (fun (k1 : Int → St → Prop) (n2 : Int) (S5 : St) =>
  ifW (ltI n2 (↑s1.len : Int))
  (idxW s1.a s1.len n2 fun (b2 b3 : Nat) =>
  ptrW (some ⟨b2, b3 + Int.toNat n2 * 3, none⟩) fun (b4 b5 : Nat) =>
  evV tI (loadV E0 S5 3 (.pointer (some ⟨b4, b5 + 0, none⟩))) fun (n3 : Int) =>
  ifW (ltI n3 1) (k (.bool false) S5)
  (idxW s1.a s1.len n2 fun (b6 b7 : Nat) =>
  ptrW (some ⟨b6, b7 + Int.toNat n2 * 3, none⟩) fun (b8 b9 : Nat) =>
  evV tI (loadV E0 S5 3 (.pointer (some ⟨b8, b9 + 0, none⟩))) fun (n4 : Int) =>
  ifW (ltI 7 n4) (k (.bool false) S5)
  (idxW s1.a s1.len n2 fun (b10 b11 : Nat) =>
  ptrW (some ⟨b10, b11 + Int.toNat n2 * 3, none⟩) fun (b12 b13 : Nat) =>
  evV tI (loadV E0 S5 3 (.pointer (some ⟨b12, b13 + 0, none⟩))) fun (n5 : Int) =>
  evC E0 tT 8 [.int .i64 n5] S5 fun (l1 : List UInt8) (S6 : St) =>
  ifW (l1 == []) (k (.bool false) S6)
  (ifW (eqI n2 0) (k1 (wrapI .i64 (n2 + 1)) S6)
  (idxW s1.a s1.len (wrapI .i64 (n2 - 1)) fun (b14 b15 : Nat) =>
  evV (TT.one (Ty.agg G32)) (loadV E0 S6 33 (.pointer (some ⟨b14, b15 + Int.toNat (wrapI .i64 (n2 - 1)) * 3, none⟩)))
  fun (x3 : Int × Int × Int) =>
  newW S6 (.cells [.int .i64 0, .int .i64 0, .int .i64 0] none false none) fun (b16 : Nat) (S7 : St) =>
  evS (storeV E0 S7 33 (.pointer (some ⟨b16, 0, none⟩)) (sv G32 x3)) fun (S8 : St) =>
  idxW s1.a s1.len n2 fun (b17 b18 : Nat) =>
  evV (TT.one (Ty.agg G32)) (loadV E0 S8 33 (.pointer (some ⟨b17, b18 + Int.toNat n2 * 3, none⟩))) fun (x4 : Int × Int × Int) =>
  newW S8 (.cells [.int .i64 0, .int .i64 0, .int .i64 0] none false none) fun (b19 : Nat) (S9 : St) =>
  evS (storeV E0 S9 33 (.pointer (some ⟨b19, 0, none⟩)) (sv G32 x4)) fun (S10 : St) =>
  ptrW (some ⟨b16, 0, none⟩) fun (b20 b21 : Nat) =>
  evV tI (loadV E0 S10 3 (.pointer (some ⟨b20, b21 + 0, none⟩))) fun (n6 : Int) =>
  ptrW (some ⟨b19, 0, none⟩) fun (b22 b23 : Nat) =>
  evV tI (loadV E0 S10 3 (.pointer (some ⟨b22, b23 + 0, none⟩))) fun (n7 : Int) =>
  ifW (ltI n7 n6) (k (.bool false) S10)
  (ptrW (some ⟨b16, 0, none⟩) fun (b24 b25 : Nat) =>
  evV tI (loadV E0 S10 3 (.pointer (some ⟨b24, b25 + 0, none⟩))) fun (n8 : Int) =>
  ptrW (some ⟨b19, 0, none⟩) fun (b26 b27 : Nat) =>
  evV tI (loadV E0 S10 3 (.pointer (some ⟨b26, b27 + 0, none⟩))) fun (n9 : Int) =>
  ifW (eqI n8 n9)
  (ptrW (some ⟨b16, 0, none⟩) fun (b28 b29 : Nat) =>
  evV tI (loadV E0 S10 3 (.pointer (some ⟨b28, b29 + 1, none⟩))) fun (n10 : Int) =>
  ptrW (some ⟨b19, 0, none⟩) fun (b30 b31 : Nat) =>
  evV tI (loadV E0 S10 3 (.pointer (some ⟨b30, b31 + 1, none⟩))) fun (n11 : Int) =>
  ifW (ltI n11 n10) (k (.bool false) S10)
  (ptrW (some ⟨b16, 0, none⟩) fun (b32 b33 : Nat) =>
  evV tI (loadV E0 S10 3 (.pointer (some ⟨b32, b33 + 1, none⟩))) fun (n12 : Int) =>
  ptrW (some ⟨b19, 0, none⟩) fun (b34 b35 : Nat) =>
  evV tI (loadV E0 S10 3 (.pointer (some ⟨b34, b35 + 1, none⟩))) fun (n13 : Int) =>
  ifW (eqI n12 n13)
  (ptrW (some ⟨b16, 0, none⟩) fun (b36 b37 : Nat) =>
  evV tI (loadV E0 S10 3 (.pointer (some ⟨b36, b37 + 2, none⟩))) fun (n14 : Int) =>
  ptrW (some ⟨b19, 0, none⟩) fun (b38 b39 : Nat) =>
  evV tI (loadV E0 S10 3 (.pointer (some ⟨b38, b39 + 2, none⟩))) fun (n15 : Int) =>
  ifW (leI n15 n14) (k (.bool false) S10) (k1 (wrapI .i64 (n2 + 1)) S10))
  (k1 (wrapI .i64 (n2 + 1)) S10)))
  (k1 (wrapI .i64 (n2 + 1)) S10)))))))
  (evV (TT.one (Ty.agg G26)) (loadV E0 S5 27 (.pointer (some ⟨b1, 0, none⟩))) fun (x5 : Sl × Sl × Sl × Sl × Sl × Sl × Sl × Sl × Int) =>
  newW S5
  (.cells
  [.slice none 0 0, .slice none 0 0, .slice none 0 0, .slice none 0 0, .slice none 0 0, .slice none 0 0, .slice none 0 0, .slice none 0 0,
  .int .i64 0]
  none false none)
  fun (b40 : Nat) (S11 : St) =>
  evS (storeV E0 S11 27 (.pointer (some ⟨b40, 0, none⟩)) (sv G26 x5)) fun (S12 : St) =>
  ptrW (some ⟨b40, 0, none⟩) fun (b41 b42 : Nat) =>
  evS (storeV E0 S12 23 (.pointer (some ⟨b41, b42 + 1, none⟩)) (.slice none 0 0)) fun (S13 : St) =>
  loopW
  (fun (k2 : Int → St → Prop) (n16 : Int) (S14 : St) =>
  ptrW (some ⟨b1, 0, none⟩) fun (b43 b44 : Nat) =>
  evV tS (loadV E0 S14 23 (.pointer (some ⟨b43, b44 + 1, none⟩))) fun (s2 : Sl) =>
  ifW (ltI n16 (↑s2.len : Int))
  (ptrW (some ⟨b1, 0, none⟩) fun (b45 b46 : Nat) =>
  evV tS (loadV E0 S14 23 (.pointer (some ⟨b45, b46 + 1, none⟩))) fun (s3 : Sl) =>
  idxW s3.a s3.len n16 fun (b47 b48 : Nat) =>
  evV tS (loadV E0 S14 35 (.pointer (some ⟨b47, b48 + Int.toNat n16 * 1, none⟩))) fun (s4 : Sl) =>
  loopW
  (fun (k3 : Sl × Int → St → Prop) (x6 : Sl × Int) (S15 : St) =>
  ifW (leI 0 x6.2)
  (ptrW (some ⟨b1, 0, none⟩) fun (b49 b50 : Nat) =>
  evV tS (loadV E0 S15 23 (.pointer (some ⟨b49, b50 + 1, none⟩))) fun (s5 : Sl) =>
  idxW s5.a s5.len n16 fun (b51 b52 : Nat) =>
  evV tS (loadV E0 S15 35 (.pointer (some ⟨b51, b52 + Int.toNat n16 * 1, none⟩))) fun (s6 : Sl) =>
  idxW s6.a s6.len x6.2 fun (b53 b54 : Nat) =>
  evV (TT.one (Ty.agg G37)) (loadV E0 S15 38 (.pointer (some ⟨b53, b54 + Int.toNat x6.2 * 2, none⟩))) fun (x7 : Int × Int) =>
  newW S15 (.cells [.int .i64 x7.1, .int .u32 x7.2] none false none) fun (b55 : Nat) (S16 : St) =>
  evP tS (appendD E0 S16 35 35 (.slice x6.1.a x6.1.len x6.1.cap) (.slice (some ⟨b55, 0, none⟩) 1 1))
  fun (s7 : Sl) (S17 : St) => k3 ({ a := s7.a, len := s7.len, cap := s7.cap }, wrapI .i64 (x6.2 - 1)) S17)
  (ptrW (some ⟨b40, 0, none⟩) fun (b56 b57 : Nat) =>
  evV tS (loadV E0 S15 23 (.pointer (some ⟨b56, b57 + 1, none⟩))) fun (s8 : Sl) =>
  newW S15 (.cells [.slice x6.1.a x6.1.len x6.1.cap] none false none) fun (b58 : Nat) (S18 : St) =>
  evP tS (appendD E0 S18 23 23 (.slice s8.a s8.len s8.cap) (.slice (some ⟨b58, 0, none⟩) 1 1)) fun (s9 : Sl) (S19 : St) =>
  ptrW (some ⟨b40, 0, none⟩) fun (b59 b60 : Nat) =>
  evS (storeV E0 S19 23 (.pointer (some ⟨b59, b60 + 1, none⟩)) (.slice s9.a s9.len s9.cap)) fun (S20 : St) =>
  k2 (wrapI .i64 (n16 + 1)) S20))
  ({ a := none, len := 0, cap := 0 }, wrapI .i64 ((↑s4.len : Int) - 1)) S14)
  (ifW t1
  (evV (TT.one (Ty.agg G26)) (loadV E0 S14 27 (.pointer (some ⟨b40, 0, none⟩))) fun (x8 : Sl × Sl × Sl × Sl × Sl × Sl × Sl × Sl × Int) =>
  evC E0 tS 7 [sv G26 x8] S14 fun (s10 : Sl) (S21 : St) =>
  evC E0 tB 9 [.slice s10.a s10.len s10.cap, .slice s1.a s1.len s1.cap] S21 fun (t2 : Bool) (S22 : St) => k (.bool t2) S22)
  (k (.bool false) S14)))
  0 S13))
  0 S4))
theorem w3 (v_0 : Sl × Sl × Sl × Sl × Sl × Sl × Sl × Sl × Int) {S : St} {k : Value → St → Prop} (h : c3 v_0 S k) : WC E0 3 [sv G26 v_0] S k :=
  WC_den h3 rfl (by kernel_rfl) (by kernel_rfl : Tryd.f3.body = some (bodyOf Tryd.f3)) (by rw [show (denF E0 h3 Tryd.f3 (bodyOf Tryd.f3) [sv G26 v_0] S k) = c3 v_0 S k by kernel_rfl]; exact h)

/-! 5 wagonway/wagonwaylaw26.alive -/
noncomputable def h5 : Hn := .no
def c5  (S : St) (k : Value → St → Prop) : Prop :=
  evC E0 (TT.one (Ty.agg G26)) 18 [] S fun (x1 : Sl × Sl × Sl × Sl × Sl × Sl × Sl × Sl × Int) (S1 : St) =>
  evC E0 tS 7 [sv G26 x1] S1 fun (s1 : Sl) (S2 : St) =>
  newW S2
  (.cells
  [.int .i64 1, .int .i64 1, .int .i64 0, .int .i64 2, .int .i64 1, .int .i64 0, .int .i64 3, .int .i64 1,
  .int .i64 0]
  none false none)
  fun (b1 : Nat) (S3 : St) =>
  evC E0 tB 9 [.slice s1.a s1.len s1.cap, .slice (some ⟨b1, 0, none⟩) 3 3] S3 fun (t1 : Bool) (S4 : St) =>
  ifW t1
  (evC E0 tT 19 [.slice s1.a s1.len s1.cap] S4 fun (l1 : List UInt8) (S5 : St) =>
  k
  (.bool
  (l1 ==
  [UInt8.ofNat 99, UInt8.ofNat 114, UInt8.ofNat 111, UInt8.ofNat 119, UInt8.ofNat 100, UInt8.ofNat 101, UInt8.ofNat 100, UInt8.ofNat 32, UInt8.ofNat 49, UInt8.ofNat 32, UInt8.ofNat 48, UInt8.ofNat 10,
  UInt8.ofNat 117, UInt8.ofNat 110, UInt8.ofNat 104, UInt8.ofNat 101, UInt8.ofNat 108, UInt8.ofNat 100, UInt8.ofNat 32, UInt8.ofNat 49, UInt8.ofNat 32, UInt8.ofNat 48, UInt8.ofNat 10, UInt8.ofNat 117,
  UInt8.ofNat 110, UInt8.ofNat 107, UInt8.ofNat 110, UInt8.ofNat 111, UInt8.ofNat 119, UInt8.ofNat 110, UInt8.ofNat 32, UInt8.ofNat 49, UInt8.ofNat 32, UInt8.ofNat 48, UInt8.ofNat 10]))
  S5)
  (k (.bool false) S4)
theorem w5  {S : St} {k : Value → St → Prop} (h : c5  S k) : WC E0 5 [] S k :=
  WC_den h5 rfl (by kernel_rfl) (by kernel_rfl : Tryd.f5.body = some (bodyOf Tryd.f5)) (by rw [show (denF E0 h5 Tryd.f5 (bodyOf Tryd.f5) [] S k) = c5  S k by kernel_rfl]; exact h)

/-! 6 wagonway/wagonwayref26.Great -/
noncomputable def h6 : Hn := (.n .no (.n .no (.n (.n .no (.n (.n .no .no (some ⟨[1], [(3, .sc (.int .i64)), (4, .sc (.int .i64))], false⟩)) .no none) none) (.n (.n .no (.n (.n .no .no (some ⟨[1], [(3, .sc (.int .i64)), (5, .sc (.int .i64))], false⟩)) .no none) none) .no none) none) none) none)
def c6 (v_0 : Sl × Sl × Sl × Sl × Sl × Sl × Sl × Sl × Int) (S : St) (k : Value → St → Prop) : Prop :=
  newW S
  (.cells
  [.slice v_0.1.a v_0.1.len v_0.1.cap, .slice v_0.2.1.a v_0.2.1.len v_0.2.1.cap, .slice v_0.2.2.1.a v_0.2.2.1.len v_0.2.2.1.cap,
  .slice v_0.2.2.2.1.a v_0.2.2.2.1.len v_0.2.2.2.1.cap, .slice v_0.2.2.2.2.1.a v_0.2.2.2.2.1.len v_0.2.2.2.2.1.cap,
  .slice v_0.2.2.2.2.2.1.a v_0.2.2.2.2.2.1.len v_0.2.2.2.2.2.1.cap,
  .slice v_0.2.2.2.2.2.2.1.a v_0.2.2.2.2.2.2.1.len v_0.2.2.2.2.2.2.1.cap,
  .slice v_0.2.2.2.2.2.2.2.1.a v_0.2.2.2.2.2.2.2.1.len v_0.2.2.2.2.2.2.2.1.cap, .int .i64 v_0.2.2.2.2.2.2.2.2]
  none false none)
  fun (b1 : Nat) (S1 : St) =>
  ptrW (some ⟨b1, 0, none⟩) fun (b2 b3 : Nat) =>
  evV tS (loadV E0 S1 22 (.pointer (some ⟨b2, b3 + 0, none⟩))) fun (s1 : Sl) =>
  ptrW (some ⟨b1, 0, none⟩) fun (b4 b5 : Nat) =>
  evV tS (loadV E0 S1 22 (.pointer (some ⟨b4, b5 + 2, none⟩))) fun (s2 : Sl) =>
  ptrW (some ⟨b1, 0, none⟩) fun (b6 b7 : Nat) =>
  evV tS (loadV E0 S1 22 (.pointer (some ⟨b6, b7 + 4, none⟩))) fun (s3 : Sl) =>
  ptrW (some ⟨b1, 0, none⟩) fun (b8 b9 : Nat) =>
  evV tS (loadV E0 S1 25 (.pointer (some ⟨b8, b9 + 5, none⟩))) fun (s4 : Sl) =>
  ptrW (some ⟨b1, 0, none⟩) fun (b10 b11 : Nat) =>
  evV tS (loadV E0 S1 22 (.pointer (some ⟨b10, b11 + 6, none⟩))) fun (s5 : Sl) =>
  ptrW (some ⟨b1, 0, none⟩) fun (b12 b13 : Nat) =>
  evV tS (loadV E0 S1 25 (.pointer (some ⟨b12, b13 + 7, none⟩))) fun (s6 : Sl) =>
  loopW
  (fun (k1 : Int × Int → St → Prop) (x1 : Int × Int) (S2 : St) =>
  ptrW (some ⟨b1, 0, none⟩) fun (b14 b15 : Nat) =>
  evV tS (loadV E0 S2 23 (.pointer (some ⟨b14, b15 + 1, none⟩))) fun (s7 : Sl) =>
  ifW (ltI x1.2 (↑s7.len : Int))
  (ptrW (some ⟨b1, 0, none⟩) fun (b16 b17 : Nat) =>
  evV tS (loadV E0 S2 23 (.pointer (some ⟨b16, b17 + 1, none⟩))) fun (s8 : Sl) =>
  idxW s8.a s8.len x1.2 fun (b18 b19 : Nat) =>
  evV tS (loadV E0 S2 35 (.pointer (some ⟨b18, b19 + Int.toNat x1.2 * 1, none⟩))) fun (s9 : Sl) =>
  k1 (wrapI .i64 (wrapI .i64 (x1.1 + 1) + (↑s9.len : Int)), wrapI .i64 (x1.2 + 1)) S2)
  (loopW
  (fun (k2 : Int × Int → St → Prop) (x2 : Int × Int) (S3 : St) =>
  ptrW (some ⟨b1, 0, none⟩) fun (b20 b21 : Nat) =>
  evV tS (loadV E0 S3 24 (.pointer (some ⟨b20, b21 + 3, none⟩))) fun (s10 : Sl) =>
  ifW (ltI x2.2 (↑s10.len : Int))
  (ptrW (some ⟨b1, 0, none⟩) fun (b22 b23 : Nat) =>
  evV tS (loadV E0 S3 24 (.pointer (some ⟨b22, b23 + 3, none⟩))) fun (s11 : Sl) =>
  idxW s11.a s11.len x2.2 fun (b24 b25 : Nat) =>
  evV tS (loadV E0 S3 22 (.pointer (some ⟨b24, b25 + Int.toNat x2.2 * 1, none⟩))) fun (s12 : Sl) =>
  k2 (wrapI .i64 (wrapI .i64 (x2.1 + 1) + (↑s12.len : Int)), wrapI .i64 (x2.2 + 1)) S3)
  (ifW (ltI 1000 x2.1) (k (.int .i64 1) S3) (k (.int .i64 0) S3)))
  (x1.1, 0) S2))
  (wrapI .i64
  (wrapI .i64 (wrapI .i64 (wrapI .i64 (wrapI .i64 ((↑s1.len : Int) + (↑s2.len : Int)) + (↑s3.len : Int)) + (↑s4.len : Int)) + (↑s5.len : Int)) + (↑s6.len : Int)),
  0)
  S1
theorem w6 (v_0 : Sl × Sl × Sl × Sl × Sl × Sl × Sl × Sl × Int) {S : St} {k : Value → St → Prop} (h : c6 v_0 S k) : WC E0 6 [sv G26 v_0] S k :=
  WC_den h6 rfl (by kernel_rfl) (by kernel_rfl : Tryd.f6.body = some (bodyOf Tryd.f6)) (by rw [show (denF E0 h6 Tryd.f6 (bodyOf Tryd.f6) [sv G26 v_0] S k) = c6 v_0 S k by kernel_rfl]; exact h)

/-! 7 wagonway/watch.Look -/
noncomputable def h7 : Hn := (.n .no (.n .no (.n (.n .no (.n (.n (.n .no (.n .no (.n (.n (.n .no (.n .no (.n (.n .no .no (some ⟨[], [(15, .agg [(.int .i64), (.int .i64), (.int .i64)])], false⟩)) .no none) none) none) .no none) .no none) none) none) .no (some ⟨[1, 3, 8], [(9, .sc (.int .i64))], true⟩)) .no none) none) (.n .no .no (some ⟨[3], [], false⟩)) none) none) none)
def c7 (v_0 : Sl × Sl × Sl × Sl × Sl × Sl × Sl × Sl × Int) (S : St) (k : Value → St → Prop) : Prop :=
  newW S
  (.cells
  [.slice v_0.1.a v_0.1.len v_0.1.cap, .slice v_0.2.1.a v_0.2.1.len v_0.2.1.cap, .slice v_0.2.2.1.a v_0.2.2.1.len v_0.2.2.1.cap,
  .slice v_0.2.2.2.1.a v_0.2.2.2.1.len v_0.2.2.2.1.cap, .slice v_0.2.2.2.2.1.a v_0.2.2.2.2.1.len v_0.2.2.2.2.1.cap,
  .slice v_0.2.2.2.2.2.1.a v_0.2.2.2.2.2.1.len v_0.2.2.2.2.2.1.cap,
  .slice v_0.2.2.2.2.2.2.1.a v_0.2.2.2.2.2.2.1.len v_0.2.2.2.2.2.2.1.cap,
  .slice v_0.2.2.2.2.2.2.2.1.a v_0.2.2.2.2.2.2.2.1.len v_0.2.2.2.2.2.2.2.1.cap, .int .i64 v_0.2.2.2.2.2.2.2.2]
  none false none)
  fun (b1 : Nat) (S1 : St) =>
  newW S1 (.cells [.slice none 0 0] none false none) fun (b2 : Nat) (S2 : St) =>
  ptrW (some ⟨b1, 0, none⟩) fun (b3 b4 : Nat) =>
  evV tS (loadV E0 S2 22 (.pointer (some ⟨b3, b4 + 0, none⟩))) fun (s1 : Sl) =>
  loopW
  (fun (k1 : List Nat × Int → St → Prop) (x1 : List Nat × Int) (S3 : St) =>
  ifW (ltI x1.2 (↑s1.len : Int))
  (evV (TT.one (Ty.agg G26)) (loadV E0 S3 27 (.pointer (some ⟨b1, 0, none⟩))) fun (x2 : Sl × Sl × Sl × Sl × Sl × Sl × Sl × Sl × Int) =>
  evC E0 tA 20 [sv G26 x2, .int .i64 x1.2] S3 fun (v1 : Value) (S4 : St) =>
  newW S4 DObj.deferred fun (b5 : Nat) (S5 : St) =>
  ∀ (b6 : Nat) (S6 : St) (k2 : LoopState → Option Code → DObj),
  b6 = S5.next →
  S6 = (St.alloc S5 (k2 LoopState.ready none)).2 →
  (LoopL fun (x3 : LoopState) (p1 : Option Code) => k2 x3 p1) →
  (RoundH E0 b6 [Ty.agg [Sc.int .i64, Sc.int .i64, Sc.int .i64]] fun (x4 : Int × Int × Int) (S7 : St) (k3 : Bool → St → Prop) =>
  hasW S7 b6 (k2 LoopState.ready none)
  (newW S7 (.cells [.int .i64 0, .int .i64 0, .int .i64 0] none false none) fun (b7 : Nat) (S8 : St) =>
  evS (storeV E0 S8 33 (.pointer (some ⟨b7, 0, none⟩)) (sv G32 x4)) fun (S9 : St) =>
  hasW S9 b6 (k2 LoopState.ready none)
  (updW S9 b6 (k2 LoopState.busy none) fun (S10 : St) =>
  evV tS (loadV E0 S10 30 (.pointer (some ⟨b2, 0, none⟩))) fun (s2 : Sl) =>
  evV (TT.one (Ty.agg G32)) (loadV E0 S10 33 (.pointer (some ⟨b7, 0, none⟩))) fun (x5 : Int × Int × Int) =>
  newW S10 (.cells [.int .i64 x5.1, .int .i64 x5.2.1, .int .i64 x5.2.2] none false none) fun (b8 : Nat) (S11 : St) =>
  evP tS (appendD E0 S11 30 30 (.slice s2.a s2.len s2.cap) (.slice (some ⟨b8, 0, none⟩) 1 1)) fun (s3 : Sl) (S12 : St) =>
  evS (storeV E0 S12 30 (.pointer (some ⟨b2, 0, none⟩)) (.slice s3.a s3.len s3.cap)) fun (S13 : St) =>
  hasW S13 b6 (k2 LoopState.busy none) (updW S13 b6 (k2 LoopState.ready none) fun (S14 : St) => k3 true S14)))) →
  WG E0 v1 b6 S6 fun (S15 : St) =>
  hasW S15 b6 (k2 LoopState.ready none) (updW S15 b6 (k2 LoopState.exhausted none) fun (S16 : St) => k1 (b5 :: x1.1, wrapI .i64 (x1.2 + 1)) S16) ∨ False)
  (joinW
  (fun (x6 : PUnit) (S17 : St) =>
  evV tS (loadV E0 S17 30 (.pointer (some ⟨b2, 0, none⟩))) fun (s4 : Sl) =>
  evC E0 (TT.tup []) 21 [.slice s4.a s4.len s4.cap, .func (Fn.func 22) #[] #[]] S17 fun (x7 : PUnit) (S18 : St) =>
  evV tS (loadV E0 S18 30 (.pointer (some ⟨b2, 0, none⟩))) fun (s5 : Sl) =>
  evC E0 tS 25 [.slice s5.a s5.len s5.cap] S18 fun (s6 : Sl) (S19 : St) => shutW x1.1 S19 fun (S20 : St) => k (.slice s6.a s6.len s6.cap) S20)
  fun (k4 : PUnit → St → Prop) =>
  ptrW (some ⟨b1, 0, none⟩) fun (b9 b10 : Nat) =>
  evV tI (loadV E0 S3 3 (.pointer (some ⟨b9, b10 + 8, none⟩))) fun (n1 : Int) =>
  ifW (ltI 256 n1)
  (evV tS (loadV E0 S3 30 (.pointer (some ⟨b2, 0, none⟩))) fun (s7 : Sl) =>
  newW S3 (.cells [.int .i64 7, .int .i64 0, .int .i64 0] none false none) fun (b11 : Nat) (S21 : St) =>
  evP tS (appendD E0 S21 30 30 (.slice s7.a s7.len s7.cap) (.slice (some ⟨b11, 0, none⟩) 1 1)) fun (s8 : Sl) (S22 : St) =>
  evS (storeV E0 S22 30 (.pointer (some ⟨b2, 0, none⟩)) (.slice s8.a s8.len s8.cap)) fun (S23 : St) => k4 PUnit.unit S23)
  (k4 PUnit.unit S3)))
  ([], 0) S2
theorem w7 (v_0 : Sl × Sl × Sl × Sl × Sl × Sl × Sl × Sl × Int) {S : St} {k : Value → St → Prop} (h : c7 v_0 S k) : WC E0 7 [sv G26 v_0] S k :=
  WC_den h7 rfl (by kernel_rfl) (by kernel_rfl : Tryd.f7.body = some (bodyOf Tryd.f7)) (by rw [show (denF E0 h7 Tryd.f7 (bodyOf Tryd.f7) [sv G26 v_0] S k) = c7 v_0 S k by kernel_rfl]; exact h)

/-! 8 wagonway/watch.Name -/
noncomputable def h8 : Hn := .no
def c8 (code_0 : Int) (S : St) (k : Value → St → Prop) : Prop :=
  ifW (ltI code_0 1) (k (.string { data := #[] }) S)
  (ifW (leI 8 code_0) (k (.string { data := #[] }) S)
  (idxW (some ⟨0, 0, none⟩) 8 code_0 fun (b1 b2 : Nat) =>
  evV tT (loadV E0 S 9 (.pointer (some ⟨b1, b2 + Int.toNat code_0 * 1, none⟩))) fun (l1 : List UInt8) => k (.string { data := List.toArray l1 }) S))
theorem w8 (code_0 : Int) {S : St} {k : Value → St → Prop} (h : c8 code_0 S k) : WC E0 8 [.int .i64 code_0] S k :=
  WC_den h8 rfl (by kernel_rfl) (by kernel_rfl : Tryd.f8.body = some (bodyOf Tryd.f8)) (by rw [show (denF E0 h8 Tryd.f8 (bodyOf Tryd.f8) [.int .i64 code_0] S k) = c8 code_0 S k by kernel_rfl]; exact h)

/-! 9 wagonway/wagonwayref26.Same -/
noncomputable def h9 : Hn := (.n .no (.n .no (.n (.n .no (.n (.n .no .no (some ⟨[0, 1], [(5, .sc (.int .i64))], false⟩)) .no none) none) .no none) none) none)
def c9 (a_0 : Sl) (b_1 : Sl) (S : St) (k : Value → St → Prop) : Prop :=
  ifW (!eqI (↑a_0.len : Int) (↑b_1.len : Int)) (k (.bool false) S)
  (loopW
  (fun (k1 : Int → St → Prop) (n1 : Int) (S1 : St) =>
  ifW (ltI n1 (↑a_0.len : Int))
  (idxW a_0.a a_0.len n1 fun (b1 b2 : Nat) =>
  evV (TT.one (Ty.agg G32)) (loadV E0 S1 33 (.pointer (some ⟨b1, b2 + Int.toNat n1 * 3, none⟩))) fun (x1 : Int × Int × Int) =>
  idxW b_1.a b_1.len n1 fun (b3 b4 : Nat) =>
  evV (TT.one (Ty.agg G32)) (loadV E0 S1 33 (.pointer (some ⟨b3, b4 + Int.toNat n1 * 3, none⟩))) fun (x2 : Int × Int × Int) =>
  eqW E0 S1 33 (sv G32 x1) (sv G32 x2) fun (t1 : Bool) => ifW (!t1) (k (.bool false) S1) (k1 (wrapI .i64 (n1 + 1)) S1))
  (k (.bool true) S1))
  0 S)
theorem w9 (a_0 : Sl) (b_1 : Sl) {S : St} {k : Value → St → Prop} (h : c9 a_0 b_1 S k) : WC E0 9 [.slice a_0.a a_0.len a_0.cap, .slice b_1.a b_1.len b_1.cap] S k :=
  WC_den h9 rfl (by kernel_rfl) (by kernel_rfl : Tryd.f9.body = some (bodyOf Tryd.f9)) (by rw [show (denF E0 h9 Tryd.f9 (bodyOf Tryd.f9) [.slice a_0.a a_0.len a_0.cap, .slice b_1.a b_1.len b_1.cap] S k) = c9 a_0 b_1 S k by kernel_rfl]; exact h)

/-! 18 wagonway/wagonwaylaw26.few -/
noncomputable def h18 : Hn := .no
def c18  (S : St) (k : Value → St → Prop) : Prop :=
  newW S
  (.cells [.slice none 0 0, .slice none 0 0, .slice none 0 0, .slice none 0 0, .slice none 0 0, .slice none 0 0, .slice none 0 0, .slice none 0 0, .int .i64 0] none
  false none)
  fun (b1 : Nat) (S1 : St) =>
  newW S1 (.cells [.int .i64 0, .int .i64 0] none false none) fun (b2 : Nat) (S2 : St) =>
  newW S2 (.cells [.int .i64 0, .int .u32 1] none false none) fun (b3 : Nat) (S3 : St) =>
  newW S3 (.cells [.int .i64 0, .int .u32 1] none false none) fun (b4 : Nat) (S4 : St) =>
  newW S4 (.cells [.slice (some ⟨b3, 0, none⟩) 1 1, .slice (some ⟨b4, 0, none⟩) 1 1] none false none) fun (b5 : Nat) (S5 : St) =>
  newW S5 (.cells [.int .i64 0, .int .i64 (-1)] none false none) fun (b6 : Nat) (S6 : St) =>
  newW S6 (.cells [.int .u32 1, .int .u32 0] none false none) fun (b7 : Nat) (S7 : St) =>
  newW S7 (.cells [.int .i64 3, .int .i64 3] none false none) fun (b8 : Nat) (S8 : St) =>
  newW S8 (.cells [.int .u32 1, .int .u32 1] none false none) fun (b9 : Nat) (S9 : St) =>
  evS
  (storeV E0 S9 27 (.pointer (some ⟨b1, 0, none⟩))
  (.agg
  #[.slice (some ⟨b2, 0, none⟩) 2 2, .slice (some ⟨b5, 0, none⟩) 2 2, .slice none 0 0, .slice none 0 0, .slice (some ⟨b8, 0, none⟩) 2 2,
  .slice (some ⟨b9, 0, none⟩) 2 2, .slice (some ⟨b6, 0, none⟩) 2 2, .slice (some ⟨b7, 0, none⟩) 2 2, .int .i64 0]))
  fun (S10 : St) => evV (TT.one (Ty.agg G26)) (loadV E0 S10 27 (.pointer (some ⟨b1, 0, none⟩))) fun (x1 : Sl × Sl × Sl × Sl × Sl × Sl × Sl × Sl × Int) => k (sv G26 x1) S10
theorem w18  {S : St} {k : Value → St → Prop} (h : c18  S k) : WC E0 18 [] S k :=
  WC_den h18 rfl (by kernel_rfl) (by kernel_rfl : Tryd.f18.body = some (bodyOf Tryd.f18)) (by rw [show (denF E0 h18 Tryd.f18 (bodyOf Tryd.f18) [] S k) = c18  S k by kernel_rfl]; exact h)

/-! 19 wagonway/watch.Text -/
noncomputable def h19 : Hn := (.n .no (.n .no (.n (.n .no (.n (.n .no .no (some ⟨[3, 7, 8], [(9, .sc (.int .i64))], false⟩)) .no none) none) .no none) none) none)
def c19 (l_0 : Sl) (S : St) (k : Value → St → Prop) : Prop :=
  newW S (.cells [.pointer none, .slice none 0 0] (some 2000094) false none) fun (b1 : Nat) (S1 : St) =>
  loopW
  (fun (k1 : Int → St → Prop) (n1 : Int) (S2 : St) =>
  ifW (ltI n1 (↑l_0.len : Int))
  (idxW l_0.a l_0.len n1 fun (b2 b3 : Nat) =>
  evV (TT.one (Ty.agg G32)) (loadV E0 S2 33 (.pointer (some ⟨b2, b3 + Int.toNat n1 * 3, none⟩))) fun (x1 : Int × Int × Int) =>
  newW S2 (.cells [.int .i64 0, .int .i64 0, .int .i64 0] none false none) fun (b4 : Nat) (S3 : St) =>
  evS (storeV E0 S3 33 (.pointer (some ⟨b4, 0, none⟩)) (sv G32 x1)) fun (S4 : St) =>
  ptrW (some ⟨b4, 0, none⟩) fun (b5 b6 : Nat) =>
  evV tI (loadV E0 S4 3 (.pointer (some ⟨b5, b6 + 0, none⟩))) fun (n2 : Int) =>
  evC E0 tT 8 [.int .i64 n2] S4 fun (l1 : List UInt8) (S5 : St) =>
  ifW (!l1 == [])
  (evV tT (catD { data := List.toArray l1 } { data := #[UInt8.ofNat 32] }) fun (l2 : List UInt8) =>
  ptrW (some ⟨b4, 0, none⟩) fun (b7 b8 : Nat) =>
  evV tI (loadV E0 S5 3 (.pointer (some ⟨b7, b8 + 1, none⟩))) fun (n3 : Int) =>
  evC E0 tT 29 [.int .i64 n3] S5 fun (l3 : List UInt8) (S6 : St) =>
  evV tT (catD { data := List.toArray l2 } { data := List.toArray l3 }) fun (l4 : List UInt8) =>
  evV tT (catD { data := List.toArray l4 } { data := #[UInt8.ofNat 32] }) fun (l5 : List UInt8) =>
  ptrW (some ⟨b4, 0, none⟩) fun (b9 b10 : Nat) =>
  evV tI (loadV E0 S6 3 (.pointer (some ⟨b9, b10 + 2, none⟩))) fun (n4 : Int) =>
  evV tI (loadV E0 S5 3 (.pointer (some ⟨b9, b10 + 2, none⟩))) fun (n5 : Int) =>
  sameV (.int .i64 n5) (.int .i64 n4)
  (evC E0 tT 29 [.int .i64 n4] S6 fun (l6 : List UInt8) (S7 : St) =>
  evV tT (catD { data := List.toArray l5 } { data := List.toArray l6 }) fun (l7 : List UInt8) =>
  evV tT (catD { data := List.toArray l7 } { data := #[UInt8.ofNat 10] }) fun (l8 : List UInt8) =>
  evC E0 (TT.tup [Ty.sc (Sc.int .i64), Ty.sc Sc.any]) 39 [.pointer (some ⟨b1, 0, none⟩), .string { data := List.toArray l8 }] S7
  fun (x2 : Int × Value) (S8 : St) => k1 (wrapI .i64 (n1 + 1)) S8))
  (k1 (wrapI .i64 (n1 + 1)) S5))
  (evC E0 tT 40 [.pointer (some ⟨b1, 0, none⟩)] S2 fun (l9 : List UInt8) (S9 : St) => k (.string { data := List.toArray l9 }) S9))
  0 S1
theorem w19 (l_0 : Sl) {S : St} {k : Value → St → Prop} (h : c19 l_0 S k) : WC E0 19 [.slice l_0.a l_0.len l_0.cap] S k :=
  WC_den h19 rfl (by kernel_rfl) (by kernel_rfl : Tryd.f19.body = some (bodyOf Tryd.f19)) (by rw [show (denF E0 h19 Tryd.f19 (bodyOf Tryd.f19) [.slice l_0.a l_0.len l_0.cap] S k) = c19 l_0 S k by kernel_rfl]; exact h)

/-! 20 wagonway/watch.robot -/
noncomputable def h20 : Hn := .no
def c20 (v_0 : Sl × Sl × Sl × Sl × Sl × Sl × Sl × Sl × Int) (a1 : Int) (S : St) (k : Value → St → Prop) : Prop :=
  newW S
  (.cells
  [.slice v_0.1.a v_0.1.len v_0.1.cap, .slice v_0.2.1.a v_0.2.1.len v_0.2.1.cap, .slice v_0.2.2.1.a v_0.2.2.1.len v_0.2.2.1.cap,
  .slice v_0.2.2.2.1.a v_0.2.2.2.1.len v_0.2.2.2.1.cap, .slice v_0.2.2.2.2.1.a v_0.2.2.2.2.1.len v_0.2.2.2.2.1.cap,
  .slice v_0.2.2.2.2.2.1.a v_0.2.2.2.2.2.1.len v_0.2.2.2.2.2.1.cap,
  .slice v_0.2.2.2.2.2.2.1.a v_0.2.2.2.2.2.2.1.len v_0.2.2.2.2.2.2.1.cap,
  .slice v_0.2.2.2.2.2.2.2.1.a v_0.2.2.2.2.2.2.2.1.len v_0.2.2.2.2.2.2.2.1.cap, .int .i64 v_0.2.2.2.2.2.2.2.2]
  none false none)
  fun (b1 : Nat) (S1 : St) =>
  newW S1 (.cells [.int .i64 a1] none false none) fun (b2 : Nat) (S2 : St) =>
  k (.func (Fn.func 44) #[] #[.pointer (some ⟨b2, 0, none⟩), .pointer (some ⟨b1, 0, none⟩)]) S2
theorem w20 (v_0 : Sl × Sl × Sl × Sl × Sl × Sl × Sl × Sl × Int) (a1 : Int) {S : St} {k : Value → St → Prop} (h : c20 v_0 a1 S k) : WC E0 20 [sv G26 v_0, .int .i64 a1] S k :=
  WC_den h20 rfl (by kernel_rfl) (by kernel_rfl : Tryd.f20.body = some (bodyOf Tryd.f20)) (by rw [show (denF E0 h20 Tryd.f20 (bodyOf Tryd.f20) [sv G26 v_0, .int .i64 a1] S k) = c20 v_0 a1 S k by kernel_rfl]; exact h)

/-! 25 slices.Compact[[]wagonway/api.Finding,wagonway/api.Finding] -/
noncomputable def h25 : Hn := (.n .no (.n .no (.n (.n .no (.n (.n (.n .no (.n (.n (.n .no (.n (.n .no (.n (.n .no (.n (.n .no .no (some ⟨[0, 4], [(3, .sc (.int .i64)), (5, .sc (.int .i64))], false⟩)) .no none) none) .no none) none) .no none) none) .no none) .no none) none) .no (some ⟨[0], [(3, .sc (.int .i64))], false⟩)) .no none) none) .no none) none) none)
def c25 (s_0 : Sl) (S : St) (k : Value → St → Prop) : Prop :=
  ifW (ltI (↑s_0.len : Int) 2) (k (.slice s_0.a s_0.len s_0.cap) S)
  (loopW
  (fun (k1 : Int → St → Prop) (n1 : Int) (S1 : St) =>
  ifW (ltI n1 (↑s_0.len : Int))
  (idxW s_0.a s_0.len n1 fun (b1 b2 : Nat) =>
  evV (TT.one (Ty.agg G32)) (loadV E0 S1 33 (.pointer (some ⟨b1, b2 + Int.toNat n1 * 3, none⟩))) fun (x1 : Int × Int × Int) =>
  idxW s_0.a s_0.len (wrapI .i64 (n1 - 1)) fun (b3 b4 : Nat) =>
  evV (TT.one (Ty.agg G32)) (loadV E0 S1 33 (.pointer (some ⟨b3, b4 + Int.toNat (wrapI .i64 (n1 - 1)) * 3, none⟩))) fun (x2 : Int × Int × Int) =>
  eqW E0 S1 33 (sv G32 x1) (sv G32 x2) fun (t1 : Bool) =>
  ifW t1
  (evV tS (sliceD E0 S1 30 (.slice s_0.a s_0.len s_0.cap) (some (.int .i64 n1)) none none) fun (s1 : Sl) =>
  loopW
  (fun (k2 : Int × Int → St → Prop) (x3 : Int × Int) (S2 : St) =>
  ifW (ltI x3.2 (↑s1.len : Int))
  (idxW s1.a s1.len x3.2 fun (b5 b6 : Nat) =>
  evV (TT.one (Ty.agg G32)) (loadV E0 S2 33 (.pointer (some ⟨b5, b6 + Int.toNat x3.2 * 3, none⟩))) fun (x4 : Int × Int × Int) =>
  idxW s1.a s1.len (wrapI .i64 (x3.2 - 1)) fun (b7 b8 : Nat) =>
  evV (TT.one (Ty.agg G32)) (loadV E0 S2 33 (.pointer (some ⟨b7, b8 + Int.toNat (wrapI .i64 (x3.2 - 1)) * 3, none⟩))) fun (x5 : Int × Int × Int) =>
  eqW E0 S2 33 (sv G32 x4) (sv G32 x5) fun (t2 : Bool) =>
  ifW (!t2)
  (idxW s1.a s1.len x3.2 fun (b9 b10 : Nat) =>
  evV (TT.one (Ty.agg G32)) (loadV E0 S2 33 (.pointer (some ⟨b9, b10 + Int.toNat x3.2 * 3, none⟩))) fun (x6 : Int × Int × Int) =>
  idxW s_0.a s_0.len x3.1 fun (b11 b12 : Nat) =>
  evS (storeV E0 S2 33 (.pointer (some ⟨b11, b12 + Int.toNat x3.1 * 3, none⟩)) (sv G32 x6)) fun (S3 : St) =>
  k2 (wrapI .i64 (x3.1 + 1), wrapI .i64 (x3.2 + 1)) S3)
  (k2 (x3.1, wrapI .i64 (x3.2 + 1)) S2))
  (evV tS (sliceD E0 S2 30 (.slice s_0.a s_0.len s_0.cap) (some (.int .i64 x3.1)) none none) fun (s2 : Sl) =>
  evS (clearD E0 S2 30 (.slice s2.a s2.len s2.cap)) fun (S4 : St) =>
  evV tS (sliceD E0 S4 30 (.slice s_0.a s_0.len s_0.cap) none (some (.int .i64 x3.1)) none) fun (s3 : Sl) => k (.slice s3.a s3.len s3.cap) S4))
  (n1, 1) S1)
  (k1 (wrapI .i64 (n1 + 1)) S1))
  (k (.slice s_0.a s_0.len s_0.cap) S1))
  1 S)
theorem w25 (s_0 : Sl) {S : St} {k : Value → St → Prop} (h : c25 s_0 S k) : WC E0 25 [.slice s_0.a s_0.len s_0.cap] S k :=
  WC_den h25 rfl (by kernel_rfl) (by kernel_rfl : Tryd.f25.body = some (bodyOf Tryd.f25)) (by rw [show (denF E0 h25 Tryd.f25 (bodyOf Tryd.f25) [.slice s_0.a s_0.len s_0.cap] S k) = c25 s_0 S k by kernel_rfl]; exact h)

/-! 44 wagonway/watch.robot$1 -/
noncomputable def h44 : Hn := (.n (.n .no (.n .no (.n .no (.n .no (.n (.n .no (.n (.n .no .no (some ⟨[0, 1, 2, 4, 5, 44, 45], [(46, .sc (.int .i64))], false⟩)) .no none) none) (.n .no (.n .no (.n .no (.n .no (.n .no (.n .no (.n (.n .no .no (some ⟨[0, 101, 102], [(103, .sc (.int .i64))], false⟩)) .no none) none) none) (some ⟨[0, 4], [], false⟩)) (some ⟨[0, 1, 2, 4, 5], [], false⟩)) none) none) none) none) none) none) none) .no none)
def c44 (yield_0 : Value) (c1 : Nat) (c2 : Nat) (S : St) (k : Value → St → Prop) : Prop :=
  newW S (.cells [] none false none) fun (b1 : Nat) (S1 : St) =>
  newW S1 (.cells [.slice none 0 0] none false none) fun (b2 : Nat) (S2 : St) =>
  evS (storeV E0 S2 30 (.pointer (some ⟨b2, 0, none⟩)) (.slice (some ⟨b1, 0, none⟩) 0 0)) fun (S3 : St) =>
  ptrW (some ⟨c2, 0, none⟩) fun (b3 b4 : Nat) =>
  evV tS (loadV E0 S3 22 (.pointer (some ⟨b3, b4 + 0, none⟩))) fun (s1 : Sl) =>
  evV tI (loadV E0 S3 3 (.pointer (some ⟨c1, 0, none⟩))) fun (n1 : Int) =>
  evV tS (sliceD E0 S3 22 (.slice s1.a s1.len s1.cap) none (some (.int .i64 n1)) none) fun (s2 : Sl) =>
  ptrW (some ⟨c2, 0, none⟩) fun (b5 b6 : Nat) =>
  evV tS (loadV E0 S3 22 (.pointer (some ⟨b5, b6 + 0, none⟩))) fun (s3 : Sl) =>
  evV tI (loadV E0 S3 3 (.pointer (some ⟨c1, 0, none⟩))) fun (n2 : Int) =>
  idxW s3.a s3.len n2 fun (b7 b8 : Nat) =>
  evV tI (loadV E0 S3 3 (.pointer (some ⟨b7, b8 + Int.toNat n2 * 1, none⟩))) fun (n3 : Int) =>
  evC E0 tB 46 [.slice s2.a s2.len s2.cap, .int .i64 n3] S3 fun (t1 : Bool) (S4 : St) =>
  ptrW (some ⟨c2, 0, none⟩) fun (b9 b10 : Nat) =>
  evV tS (loadV E0 S4 22 (.pointer (some ⟨b9, b10 + 0, none⟩))) fun (s4 : Sl) =>
  evV tS (loadV E0 S3 22 (.pointer (some ⟨b9, b10 + 0, none⟩))) fun (s5 : Sl) =>
  sameV (.slice s5.a s5.len s5.cap) (.slice s4.a s4.len s4.cap)
  (evV tI (loadV E0 S4 3 (.pointer (some ⟨c1, 0, none⟩))) fun (n4 : Int) =>
  evV tI (loadV E0 S3 3 (.pointer (some ⟨c1, 0, none⟩))) fun (n5 : Int) =>
  sameV (.int .i64 n5) (.int .i64 n4)
  (idxW s4.a s4.len n4 fun (b11 b12 : Nat) =>
  evV tI (loadV E0 S4 3 (.pointer (some ⟨b11, b12 + Int.toNat n4 * 1, none⟩))) fun (n6 : Int) =>
  evV tI (loadV E0 S3 3 (.pointer (some ⟨b11, b12 + Int.toNat n4 * 1, none⟩))) fun (n7 : Int) =>
  sameV (.int .i64 n7) (.int .i64 n6)
  (evY E0 (TT.tup []) (.func (Fn.func 45) #[] #[.pointer (some ⟨b2, 0, none⟩), .pointer (some ⟨c1, 0, none⟩)])
  [.bool t1, .int .i64 1, .int .i64 n6] S4 fun (x1 : PUnit) (S5 : St) =>
  evV (TT.one (Ty.agg G26)) (loadV E0 S5 27 (.pointer (some ⟨c2, 0, none⟩))) fun (x2 : Sl × Sl × Sl × Sl × Sl × Sl × Sl × Sl × Int) =>
  evV tI (loadV E0 S5 3 (.pointer (some ⟨c1, 0, none⟩))) fun (n8 : Int) =>
  evC E0 tB 47 [sv G26 x2, .int .i64 n8] S5 fun (t2 : Bool) (S6 : St) =>
  ptrW (some ⟨c2, 0, none⟩) fun (b13 b14 : Nat) =>
  evV tS (loadV E0 S6 22 (.pointer (some ⟨b13, b14 + 0, none⟩))) fun (s6 : Sl) =>
  evV tS (loadV E0 S5 22 (.pointer (some ⟨b13, b14 + 0, none⟩))) fun (s7 : Sl) =>
  sameV (.slice s7.a s7.len s7.cap) (.slice s6.a s6.len s6.cap)
  (evV tI (loadV E0 S6 3 (.pointer (some ⟨c1, 0, none⟩))) fun (n9 : Int) =>
  evV tI (loadV E0 S5 3 (.pointer (some ⟨c1, 0, none⟩))) fun (n10 : Int) =>
  sameV (.int .i64 n10) (.int .i64 n9)
  (idxW s6.a s6.len n9 fun (b15 b16 : Nat) =>
  evV tI (loadV E0 S6 3 (.pointer (some ⟨b15, b16 + Int.toNat n9 * 1, none⟩))) fun (n11 : Int) =>
  evV tI (loadV E0 S5 3 (.pointer (some ⟨b15, b16 + Int.toNat n9 * 1, none⟩))) fun (n12 : Int) =>
  sameV (.int .i64 n12) (.int .i64 n11)
  (evY E0 (TT.tup [])
  (.func (Fn.func 45) #[] #[.pointer (some ⟨b2, 0, none⟩), .pointer (some ⟨c1, 0, none⟩)])
  [.bool !t2, .int .i64 2, .int .i64 n11] S6 fun (x3 : PUnit) (S7 : St) =>
  ptrW (some ⟨c2, 0, none⟩) fun (b17 b18 : Nat) =>
  evV tS (loadV E0 S7 23 (.pointer (some ⟨b17, b18 + 1, none⟩))) fun (s8 : Sl) =>
  evV tI (loadV E0 S7 3 (.pointer (some ⟨c1, 0, none⟩))) fun (n13 : Int) =>
  evC E0 tS 48 [.slice s8.a s8.len s8.cap, .int .i64 n13] S7 fun (s9 : Sl) (S8 : St) =>
  loopW
  (fun (k1 : Int → St → Prop) (n14 : Int) (S9 : St) =>
  ifW (ltI n14 (↑s9.len : Int))
  (idxW s9.a s9.len n14 fun (b19 b20 : Nat) =>
  evV (TT.one (Ty.agg G37)) (loadV E0 S9 38 (.pointer (some ⟨b19, b20 + Int.toNat n14 * 2, none⟩)))
  fun (x4 : Int × Int) =>
  newW S9 (.cells [.int .i64 0, .int .u32 0] none false none) fun (b21 : Nat) (S10 : St) =>
  evS (storeV E0 S10 38 (.pointer (some ⟨b21, 0, none⟩)) (sv G37 x4)) fun (S11 : St) =>
  evV (TT.one (Ty.agg G26)) (loadV E0 S11 27 (.pointer (some ⟨c2, 0, none⟩)))
  fun (x5 : Sl × Sl × Sl × Sl × Sl × Sl × Sl × Sl × Int) =>
  evV tI (loadV E0 S11 3 (.pointer (some ⟨c1, 0, none⟩))) fun (n15 : Int) =>
  evV (TT.one (Ty.agg G37)) (loadV E0 S11 38 (.pointer (some ⟨b21, 0, none⟩)))
  fun (x6 : Int × Int) =>
  evC E0 tB 49 [sv G26 x5, .int .i64 n15, sv G37 x6] S11 fun (t3 : Bool) (S12 : St) =>
  ptrW (some ⟨b21, 0, none⟩) fun (b22 b23 : Nat) =>
  evV tI (loadV E0 S12 3 (.pointer (some ⟨b22, b23 + 0, none⟩))) fun (n16 : Int) =>
  evV tI (loadV E0 S11 3 (.pointer (some ⟨b22, b23 + 0, none⟩))) fun (n17 : Int) =>
  sameV (.int .i64 n17) (.int .i64 n16)
  (evY E0 (TT.tup [])
  (.func (Fn.func 45) #[]
  #[.pointer (some ⟨b2, 0, none⟩), .pointer (some ⟨c1, 0, none⟩)])
  [.bool !t3, .int .i64 3, .int .i64 n16] S12
  fun (x7 : PUnit) (S13 : St) => k1 (wrapI .i64 (n14 + 1)) S13))
  (ptrW (some ⟨c2, 0, none⟩) fun (b24 b25 : Nat) =>
  evV tS (loadV E0 S9 23 (.pointer (some ⟨b24, b25 + 1, none⟩))) fun (s10 : Sl) =>
  evV tI (loadV E0 S9 3 (.pointer (some ⟨c1, 0, none⟩))) fun (n18 : Int) =>
  evC E0 tS 48 [.slice s10.a s10.len s10.cap, .int .i64 n18] S9 fun (s11 : Sl) (S14 : St) =>
  evC E0 tB 50 [.slice s11.a s11.len s11.cap] S14 fun (t4 : Bool) (S15 : St) =>
  evY E0 (TT.tup [])
  (.func (Fn.func 45) #[]
  #[.pointer (some ⟨b2, 0, none⟩), .pointer (some ⟨c1, 0, none⟩)])
  [.bool t4, .int .i64 4, .int .i64 0] S15 fun (x8 : PUnit) (S16 : St) =>
  ptrW (some ⟨c2, 0, none⟩) fun (b26 b27 : Nat) =>
  evV tS (loadV E0 S16 24 (.pointer (some ⟨b26, b27 + 3, none⟩))) fun (s12 : Sl) =>
  evV tI (loadV E0 S16 3 (.pointer (some ⟨c1, 0, none⟩))) fun (n19 : Int) =>
  evC E0 tS 52 [.slice s12.a s12.len s12.cap, .int .i64 n19] S16 fun (s13 : Sl) (S17 : St) =>
  evC E0 tB 51 [.slice s13.a s13.len s13.cap, .func (Fn.func 53) #[] #[]] S17
  fun (t5 : Bool) (S18 : St) =>
  joinW
  (fun (x9 : PUnit) (S19 : St) =>
  joinW
  (fun (x10 : PUnit) (S20 : St) =>
  evV tS (loadV E0 S20 30 (.pointer (some ⟨b2, 0, none⟩))) fun (s14 : Sl) =>
  loopW
  (fun (k2 : Int → St → Prop) (n20 : Int) (S21 : St) =>
  ifW (ltI n20 (↑s14.len : Int))
  (idxW s14.a s14.len n20 fun (b28 b29 : Nat) =>
  evV (TT.one (Ty.agg G32))
  (loadV E0 S21 33
  (.pointer (some ⟨b28, b29 + Int.toNat n20 * 3, none⟩)))
  fun (x11 : Int × Int × Int) =>
  newW S21
  (.cells
  [.int .i64 0, .int .i64 0, .int .i64 0] none
  false none)
  fun (b30 : Nat) (S22 : St) =>
  evS
  (storeV E0 S22 33 (.pointer (some ⟨b30, 0, none⟩))
  (sv G32 x11))
  fun (S23 : St) =>
  evV (TT.one (Ty.agg G32))
  (loadV E0 S23 33 (.pointer (some ⟨b30, 0, none⟩)))
  fun (x12 : Int × Int × Int) =>
  evY E0 tB yield_0 [sv G32 x12] S23 fun (t6 : Bool) (S24 : St) =>
  ifW (!t6) (k (.tuple #[]) S24) (k2 (wrapI .i64 (n20 + 1)) S24))
  (k (.tuple #[]) S21))
  0 S20)
  fun (k3 : PUnit → St → Prop) =>
  ptrW (some ⟨c2, 0, none⟩) fun (b31 b32 : Nat) =>
  evV tS (loadV E0 S19 22 (.pointer (some ⟨b31, b32 + 4, none⟩)))
  fun (s15 : Sl) =>
  evV tI (loadV E0 S19 3 (.pointer (some ⟨c1, 0, none⟩))) fun (n21 : Int) =>
  evC E0 tI 54 [.slice s15.a s15.len s15.cap, .int .i64 n21] S19
  fun (n22 : Int) (S25 : St) =>
  ptrW (some ⟨c2, 0, none⟩) fun (b33 b34 : Nat) =>
  evV tS (loadV E0 S25 22 (.pointer (some ⟨b33, b34 + 6, none⟩)))
  fun (s16 : Sl) =>
  evV tS (loadV E0 S19 22 (.pointer (some ⟨b33, b34 + 6, none⟩)))
  fun (s17 : Sl) =>
  sameV (.slice s17.a s17.len s17.cap) (.slice s16.a s16.len s16.cap)
  (sameV (.int .i64 (↑s16.len : Int))
  (.int .i64 (↑s16.len : Int))
  (ifW
  (ltI (wrapI .i64 (wrapI .i64 (2 * (↑s16.len : Int)) + 1)) n22)
  (evY E0 (TT.tup [])
  (.func (Fn.func 45) #[]
  #[.pointer (some ⟨b2, 0, none⟩),
  .pointer (some ⟨c1, 0, none⟩)])
  [.bool true, .int .i64 6, .int .i64 0] S25
  fun (x13 : PUnit) (S26 : St) => k3 PUnit.unit S26)
  (ptrW (some ⟨c2, 0, none⟩) fun (b35 b36 : Nat) =>
  evV tS
  (loadV E0 S25 25 (.pointer (some ⟨b35, b36 + 5, none⟩)))
  fun (s18 : Sl) =>
  evV tI (loadV E0 S25 3 (.pointer (some ⟨c1, 0, none⟩)))
  fun (n23 : Int) =>
  evC E0 tU32 55
  [.slice s18.a s18.len s18.cap, .int .i64 n23] S25
  fun (n24 : Int) (S27 : St) =>
  evY E0 (TT.tup [])
  (.func (Fn.func 45) #[]
  #[.pointer (some ⟨b2, 0, none⟩),
  .pointer (some ⟨c1, 0, none⟩)])
  [.bool (eqI n24 0), .int .i64 6,
  .int .i64 0]
  S27 fun (x14 : PUnit) (S28 : St) => k3 PUnit.unit S28))))
  fun (k4 : PUnit → St → Prop) =>
  ptrW (some ⟨c2, 0, none⟩) fun (b37 b38 : Nat) =>
  evV tS (loadV E0 S18 22 (.pointer (some ⟨b37, b38 + 2, none⟩))) fun (s19 : Sl) =>
  evV tI (loadV E0 S18 3 (.pointer (some ⟨c1, 0, none⟩))) fun (n25 : Int) =>
  evC E0 tI 54 [.slice s19.a s19.len s19.cap, .int .i64 n25] S18
  fun (n26 : Int) (S29 : St) =>
  ifW (ltI 8 n26)
  (evY E0 (TT.tup [])
  (.func (Fn.func 45) #[]
  #[.pointer (some ⟨b2, 0, none⟩),
  .pointer (some ⟨c1, 0, none⟩)])
  [.bool true, .int .i64 5, .int .i64 0] S29
  fun (x15 : PUnit) (S30 : St) => k4 PUnit.unit S30)
  (evY E0 (TT.tup [])
  (.func (Fn.func 45) #[]
  #[.pointer (some ⟨b2, 0, none⟩),
  .pointer (some ⟨c1, 0, none⟩)])
  [.bool t5, .int .i64 5, .int .i64 0] S29
  fun (x16 : PUnit) (S31 : St) => k4 PUnit.unit S31)))
  0 S8))))))
theorem w44 (yield_0 : Value) (c1 : Nat) (c2 : Nat) {S : St} {k : Value → St → Prop} (h : c44 yield_0 c1 c2 S k) : WC E0 44 [yield_0, .pointer (some ⟨c1, 0, none⟩), .pointer (some ⟨c2, 0, none⟩)] S k :=
  WC_den h44 rfl (by kernel_rfl) (by kernel_rfl : Tryd.f44.body = some (bodyOf Tryd.f44)) (by rw [show (denF E0 h44 Tryd.f44 (bodyOf Tryd.f44) [yield_0, .pointer (some ⟨c1, 0, none⟩), .pointer (some ⟨c2, 0, none⟩)] S k) = c44 yield_0 c1 c2 S k by kernel_rfl]; exact h)

/-! 45 wagonway/watch.robot$1$1 -/
noncomputable def h45 : Hn := .no
def c45 (is_0 : Bool) (code_1 : Int) (cell_2 : Int) (c3 : Nat) (c4 : Nat) (S : St) (k : Value → St → Prop) : Prop :=
  ifW is_0
  (evV tS (loadV E0 S 30 (.pointer (some ⟨c3, 0, none⟩))) fun (s1 : Sl) =>
  evV tI (loadV E0 S 3 (.pointer (some ⟨c4, 0, none⟩))) fun (n1 : Int) =>
  newW S (.cells [.int .i64 code_1, .int .i64 n1, .int .i64 cell_2] none false none) fun (b1 : Nat) (S1 : St) =>
  evP tS (appendD E0 S1 30 30 (.slice s1.a s1.len s1.cap) (.slice (some ⟨b1, 0, none⟩) 1 1)) fun (s2 : Sl) (S2 : St) =>
  evS (storeV E0 S2 30 (.pointer (some ⟨c3, 0, none⟩)) (.slice s2.a s2.len s2.cap)) fun (S3 : St) => k (.tuple #[]) S3)
  (k (.tuple #[]) S)
theorem w45 (is_0 : Bool) (code_1 : Int) (cell_2 : Int) (c3 : Nat) (c4 : Nat) {S : St} {k : Value → St → Prop} (h : c45 is_0 code_1 cell_2 c3 c4 S k) : WC E0 45 [.bool is_0, .int .i64 code_1, .int .i64 cell_2, .pointer (some ⟨c3, 0, none⟩), .pointer (some ⟨c4, 0, none⟩)] S k :=
  WC_den h45 rfl (by kernel_rfl) (by kernel_rfl : Tryd.f45.body = some (bodyOf Tryd.f45)) (by rw [show (denF E0 h45 Tryd.f45 (bodyOf Tryd.f45) [.bool is_0, .int .i64 code_1, .int .i64 cell_2, .pointer (some ⟨c3, 0, none⟩), .pointer (some ⟨c4, 0, none⟩)] S k) = c45 is_0 code_1 cell_2 c3 c4 S k by kernel_rfl]; exact h)

/-! 46 slices.Contains[[]int,int] -/
noncomputable def h46 : Hn := .no
def c46 (s_0 : Sl) (v_1 : Int) (S : St) (k : Value → St → Prop) : Prop :=
  evC E0 tI 80 [.slice s_0.a s_0.len s_0.cap, .int .i64 v_1] S fun (n1 : Int) (S1 : St) => k (.bool (leI 0 n1)) S1
theorem w46 (s_0 : Sl) (v_1 : Int) {S : St} {k : Value → St → Prop} (h : c46 s_0 v_1 S k) : WC E0 46 [.slice s_0.a s_0.len s_0.cap, .int .i64 v_1] S k :=
  WC_den h46 rfl (by kernel_rfl) (by kernel_rfl : Tryd.f46.body = some (bodyOf Tryd.f46)) (by rw [show (denF E0 h46 Tryd.f46 (bodyOf Tryd.f46) [.slice s_0.a s_0.len s_0.cap, .int .i64 v_1] S k) = c46 s_0 v_1 S k by kernel_rfl]; exact h)

/-! 47 wagonway/watch.held -/
noncomputable def h47 : Hn := .no
def c47 (v_0 : Sl × Sl × Sl × Sl × Sl × Sl × Sl × Sl × Int) (a1 : Int) (S : St) (k : Value → St → Prop) : Prop :=
  newW S
  (.cells
  [.slice v_0.1.a v_0.1.len v_0.1.cap, .slice v_0.2.1.a v_0.2.1.len v_0.2.1.cap, .slice v_0.2.2.1.a v_0.2.2.1.len v_0.2.2.1.cap,
  .slice v_0.2.2.2.1.a v_0.2.2.2.1.len v_0.2.2.2.1.cap, .slice v_0.2.2.2.2.1.a v_0.2.2.2.2.1.len v_0.2.2.2.2.1.cap,
  .slice v_0.2.2.2.2.2.1.a v_0.2.2.2.2.2.1.len v_0.2.2.2.2.2.1.cap,
  .slice v_0.2.2.2.2.2.2.1.a v_0.2.2.2.2.2.2.1.len v_0.2.2.2.2.2.2.1.cap,
  .slice v_0.2.2.2.2.2.2.2.1.a v_0.2.2.2.2.2.2.2.1.len v_0.2.2.2.2.2.2.2.1.cap, .int .i64 v_0.2.2.2.2.2.2.2.2]
  none false none)
  fun (b1 : Nat) (S1 : St) =>
  newW S1 (.cells [.int .i64 a1] none false none) fun (b2 : Nat) (S2 : St) =>
  ptrW (some ⟨b1, 0, none⟩) fun (b3 b4 : Nat) =>
  evV tS (loadV E0 S2 23 (.pointer (some ⟨b3, b4 + 1, none⟩))) fun (s1 : Sl) =>
  evV tI (loadV E0 S2 3 (.pointer (some ⟨b2, 0, none⟩))) fun (n1 : Int) =>
  evC E0 tS 48 [.slice s1.a s1.len s1.cap, .int .i64 n1] S2 fun (s2 : Sl) (S3 : St) =>
  evC E0 tB 81 [.slice s2.a s2.len s2.cap, .func (Fn.func 82) #[] #[.pointer (some ⟨b1, 0, none⟩), .pointer (some ⟨b2, 0, none⟩)]] S3 fun (t1 : Bool) (S4 : St) =>
  k (.bool t1) S4
theorem w47 (v_0 : Sl × Sl × Sl × Sl × Sl × Sl × Sl × Sl × Int) (a1 : Int) {S : St} {k : Value → St → Prop} (h : c47 v_0 a1 S k) : WC E0 47 [sv G26 v_0, .int .i64 a1] S k :=
  WC_den h47 rfl (by kernel_rfl) (by kernel_rfl : Tryd.f47.body = some (bodyOf Tryd.f47)) (by rw [show (denF E0 h47 Tryd.f47 (bodyOf Tryd.f47) [sv G26 v_0, .int .i64 a1] S k) = c47 v_0 a1 S k by kernel_rfl]; exact h)

/-! 48 wagonway/watch.at[[]wagonway/api.Claim] -/
noncomputable def h48 : Hn := (.n .no (.n .no (.n (.n .no .no (some ⟨[0, 1, 5], [(13, .sc .bool)], false⟩)) .no none) none) none)
def c48 (l_0 : Sl) (i_1 : Int) (S : St) (k : Value → St → Prop) : Prop :=
  joinW
  (fun (t1 : Bool) (S1 : St) =>
  ifW t1 (idxW l_0.a l_0.len i_1 fun (b1 b2 : Nat) => evV tS (loadV E0 S1 35 (.pointer (some ⟨b1, b2 + Int.toNat i_1 * 1, none⟩))) fun (s1 : Sl) => k (.slice s1.a s1.len s1.cap) S1)
  (k (.slice none 0 0) S1))
  fun (k1 : Bool → St → Prop) => ifW (leI 0 i_1) (k1 (ltI i_1 (↑l_0.len : Int)) S) (k1 false S)
theorem w48 (l_0 : Sl) (i_1 : Int) {S : St} {k : Value → St → Prop} (h : c48 l_0 i_1 S k) : WC E0 48 [.slice l_0.a l_0.len l_0.cap, .int .i64 i_1] S k :=
  WC_den h48 rfl (by kernel_rfl) (by kernel_rfl : Tryd.f48.body = some (bodyOf Tryd.f48)) (by rw [show (denF E0 h48 Tryd.f48 (bodyOf Tryd.f48) [.slice l_0.a l_0.len l_0.cap, .int .i64 i_1] S k) = c48 l_0 i_1 S k by kernel_rfl]; exact h)

/-! 49 wagonway/watch.says -/
noncomputable def h49 : Hn := .no
def c49 (v_0 : Sl × Sl × Sl × Sl × Sl × Sl × Sl × Sl × Int) (a1 : Int) (c_2 : Int × Int) (S : St) (k : Value → St → Prop) : Prop :=
  newW S
  (.cells
  [.slice v_0.1.a v_0.1.len v_0.1.cap, .slice v_0.2.1.a v_0.2.1.len v_0.2.1.cap, .slice v_0.2.2.1.a v_0.2.2.1.len v_0.2.2.1.cap,
  .slice v_0.2.2.2.1.a v_0.2.2.2.1.len v_0.2.2.2.1.cap, .slice v_0.2.2.2.2.1.a v_0.2.2.2.2.1.len v_0.2.2.2.2.1.cap,
  .slice v_0.2.2.2.2.2.1.a v_0.2.2.2.2.2.1.len v_0.2.2.2.2.2.1.cap,
  .slice v_0.2.2.2.2.2.2.1.a v_0.2.2.2.2.2.2.1.len v_0.2.2.2.2.2.2.1.cap,
  .slice v_0.2.2.2.2.2.2.2.1.a v_0.2.2.2.2.2.2.2.1.len v_0.2.2.2.2.2.2.2.1.cap, .int .i64 v_0.2.2.2.2.2.2.2.2]
  none false none)
  fun (b1 : Nat) (S1 : St) =>
  newW S1 (.cells [.int .i64 c_2.1, .int .u32 c_2.2] none false none) fun (b2 : Nat) (S2 : St) =>
  ptrW (some ⟨b2, 0, none⟩) fun (b3 b4 : Nat) =>
  evV tI (loadV E0 S2 3 (.pointer (some ⟨b3, b4 + 0, none⟩))) fun (n1 : Int) =>
  ifW (leI 0 n1)
  (ptrW (some ⟨b2, 0, none⟩) fun (b5 b6 : Nat) =>
  evV tI (loadV E0 S2 3 (.pointer (some ⟨b5, b6 + 0, none⟩))) fun (n2 : Int) =>
  ptrW (some ⟨b1, 0, none⟩) fun (b7 b8 : Nat) =>
  evV tS (loadV E0 S2 22 (.pointer (some ⟨b7, b8 + 6, none⟩))) fun (s1 : Sl) =>
  ifW (ltI n2 (↑s1.len : Int))
  (ptrW (some ⟨b1, 0, none⟩) fun (b9 b10 : Nat) =>
  evV tS (loadV E0 S2 22 (.pointer (some ⟨b9, b10 + 6, none⟩))) fun (s2 : Sl) =>
  ptrW (some ⟨b2, 0, none⟩) fun (b11 b12 : Nat) =>
  evV tI (loadV E0 S2 3 (.pointer (some ⟨b11, b12 + 0, none⟩))) fun (n3 : Int) =>
  idxW s2.a s2.len n3 fun (b13 b14 : Nat) =>
  evV tI (loadV E0 S2 3 (.pointer (some ⟨b13, b14 + Int.toNat n3 * 1, none⟩))) fun (n4 : Int) =>
  ifW (eqI n4 a1)
  (ptrW (some ⟨b1, 0, none⟩) fun (b15 b16 : Nat) =>
  evV tS (loadV E0 S2 25 (.pointer (some ⟨b15, b16 + 7, none⟩))) fun (s3 : Sl) =>
  ptrW (some ⟨b2, 0, none⟩) fun (b17 b18 : Nat) =>
  evV tI (loadV E0 S2 3 (.pointer (some ⟨b17, b18 + 0, none⟩))) fun (n5 : Int) =>
  evC E0 tU32 55 [.slice s3.a s3.len s3.cap, .int .i64 n5] S2 fun (n6 : Int) (S3 : St) =>
  ptrW (some ⟨b2, 0, none⟩) fun (b19 b20 : Nat) =>
  evV tU32 (loadV E0 S3 36 (.pointer (some ⟨b19, b20 + 1, none⟩))) fun (n7 : Int) =>
  evV tU32 (loadV E0 S2 36 (.pointer (some ⟨b19, b20 + 1, none⟩))) fun (n8 : Int) =>
  sameV (.int .u32 n8) (.int .u32 n7) (k (.bool (eqI n6 n7)) S3))
  (k (.bool false) S2))
  (k (.bool false) S2))
  (k (.bool false) S2)
theorem w49 (v_0 : Sl × Sl × Sl × Sl × Sl × Sl × Sl × Sl × Int) (a1 : Int) (c_2 : Int × Int) {S : St} {k : Value → St → Prop} (h : c49 v_0 a1 c_2 S k) : WC E0 49 [sv G26 v_0, .int .i64 a1, sv G37 c_2] S k :=
  WC_den h49 rfl (by kernel_rfl) (by kernel_rfl : Tryd.f49.body = some (bodyOf Tryd.f49)) (by rw [show (denF E0 h49 Tryd.f49 (bodyOf Tryd.f49) [sv G26 v_0, .int .i64 a1, sv G37 c_2] S k) = c49 v_0 a1 c_2 S k by kernel_rfl]; exact h)

/-! 50 wagonway/watch.twice -/
noncomputable def h50 : Hn := (.n .no (.n .no (.n (.n .no (.n (.n .no .no (some ⟨[0, 6, 7], [(3, .sc .sl), (8, .sc (.int .i64))], false⟩)) .no none) none) .no none) none) none)
def c50 (l_0 : Sl) (S : St) (k : Value → St → Prop) : Prop :=
  loopW
  (fun (k1 : Sl × Int → St → Prop) (x1 : Sl × Int) (S1 : St) =>
  ifW (ltI x1.2 (↑l_0.len : Int))
  (idxW l_0.a l_0.len x1.2 fun (b1 b2 : Nat) =>
  evV (TT.one (Ty.agg G37)) (loadV E0 S1 38 (.pointer (some ⟨b1, b2 + Int.toNat x1.2 * 2, none⟩))) fun (x2 : Int × Int) =>
  newW S1 (.cells [.int .i64 0, .int .u32 0] none false none) fun (b3 : Nat) (S2 : St) =>
  evS (storeV E0 S2 38 (.pointer (some ⟨b3, 0, none⟩)) (sv G37 x2)) fun (S3 : St) =>
  ptrW (some ⟨b3, 0, none⟩) fun (b4 b5 : Nat) =>
  evV tI (loadV E0 S3 3 (.pointer (some ⟨b4, b5 + 0, none⟩))) fun (n1 : Int) =>
  newW S3 (.cells [.int .i64 n1] none false none) fun (b6 : Nat) (S4 : St) =>
  evP tS (appendD E0 S4 22 22 (.slice x1.1.a x1.1.len x1.1.cap) (.slice (some ⟨b6, 0, none⟩) 1 1)) fun (s1 : Sl) (S5 : St) =>
  k1 ({ a := s1.a, len := s1.len, cap := s1.cap }, wrapI .i64 (x1.2 + 1)) S5)
  (evC E0 (TT.tup []) 83 [.slice x1.1.a x1.1.len x1.1.cap] S1 fun (x3 : PUnit) (S6 : St) =>
  ifW (ltI 16 (↑l_0.len : Int)) (k (.bool true) S6) (evC E0 tS 84 [.slice x1.1.a x1.1.len x1.1.cap] S6 fun (s2 : Sl) (S7 : St) => k (.bool !eqI (↑s2.len : Int) (↑l_0.len : Int)) S7)))
  ({ a := none, len := 0, cap := 0 }, 0) S
theorem w50 (l_0 : Sl) {S : St} {k : Value → St → Prop} (h : c50 l_0 S k) : WC E0 50 [.slice l_0.a l_0.len l_0.cap] S k :=
  WC_den h50 rfl (by kernel_rfl) (by kernel_rfl : Tryd.f50.body = some (bodyOf Tryd.f50)) (by rw [show (denF E0 h50 Tryd.f50 (bodyOf Tryd.f50) [.slice l_0.a l_0.len l_0.cap] S k) = c50 l_0 S k by kernel_rfl]; exact h)

/-! 51 slices.ContainsFunc[[]int,int] -/
noncomputable def h51 : Hn := .no
def c51 (s_0 : Sl) (f_1 : Value) (S : St) (k : Value → St → Prop) : Prop :=
  evC E0 tI 85 [.slice s_0.a s_0.len s_0.cap, f_1] S fun (n1 : Int) (S1 : St) => k (.bool (leI 0 n1)) S1
theorem w51 (s_0 : Sl) (f_1 : Value) {S : St} {k : Value → St → Prop} (h : c51 s_0 f_1 S k) : WC E0 51 [.slice s_0.a s_0.len s_0.cap, f_1] S k :=
  WC_den h51 rfl (by kernel_rfl) (by kernel_rfl : Tryd.f51.body = some (bodyOf Tryd.f51)) (by rw [show (denF E0 h51 Tryd.f51 (bodyOf Tryd.f51) [.slice s_0.a s_0.len s_0.cap, f_1] S k) = c51 s_0 f_1 S k by kernel_rfl]; exact h)

/-! 52 wagonway/watch.at[[]int] -/
noncomputable def h52 : Hn := (.n .no (.n .no (.n (.n .no .no (some ⟨[0, 1, 5], [(13, .sc .bool)], false⟩)) .no none) none) none)
def c52 (l_0 : Sl) (i_1 : Int) (S : St) (k : Value → St → Prop) : Prop :=
  joinW
  (fun (t1 : Bool) (S1 : St) =>
  ifW t1 (idxW l_0.a l_0.len i_1 fun (b1 b2 : Nat) => evV tS (loadV E0 S1 22 (.pointer (some ⟨b1, b2 + Int.toNat i_1 * 1, none⟩))) fun (s1 : Sl) => k (.slice s1.a s1.len s1.cap) S1)
  (k (.slice none 0 0) S1))
  fun (k1 : Bool → St → Prop) => ifW (leI 0 i_1) (k1 (ltI i_1 (↑l_0.len : Int)) S) (k1 false S)
theorem w52 (l_0 : Sl) (i_1 : Int) {S : St} {k : Value → St → Prop} (h : c52 l_0 i_1 S k) : WC E0 52 [.slice l_0.a l_0.len l_0.cap, .int .i64 i_1] S k :=
  WC_den h52 rfl (by kernel_rfl) (by kernel_rfl : Tryd.f52.body = some (bodyOf Tryd.f52)) (by rw [show (denF E0 h52 Tryd.f52 (bodyOf Tryd.f52) [.slice l_0.a l_0.len l_0.cap, .int .i64 i_1] S k) = c52 l_0 i_1 S k by kernel_rfl]; exact h)

/-! 53 wagonway/watch.robot$1$2 -/
noncomputable def h53 : Hn := .no
def c53 (n_0 : Int) (S : St) (k : Value → St → Prop) : Prop :=
  k (.bool (ltI 16 n_0)) S
theorem w53 (n_0 : Int) {S : St} {k : Value → St → Prop} (h : c53 n_0 S k) : WC E0 53 [.int .i64 n_0] S k :=
  WC_den h53 rfl (by kernel_rfl) (by kernel_rfl : Tryd.f53.body = some (bodyOf Tryd.f53)) (by rw [show (denF E0 h53 Tryd.f53 (bodyOf Tryd.f53) [.int .i64 n_0] S k) = c53 n_0 S k by kernel_rfl]; exact h)

/-! 54 wagonway/watch.at[int] -/
noncomputable def h54 : Hn := (.n .no (.n .no (.n (.n .no .no (some ⟨[0, 1, 5], [(13, .sc .bool)], false⟩)) .no none) none) none)
def c54 (l_0 : Sl) (i_1 : Int) (S : St) (k : Value → St → Prop) : Prop :=
  joinW
  (fun (t1 : Bool) (S1 : St) =>
  ifW t1 (idxW l_0.a l_0.len i_1 fun (b1 b2 : Nat) => evV tI (loadV E0 S1 3 (.pointer (some ⟨b1, b2 + Int.toNat i_1 * 1, none⟩))) fun (n1 : Int) => k (.int .i64 n1) S1)
  (k (.int .i64 0) S1))
  fun (k1 : Bool → St → Prop) => ifW (leI 0 i_1) (k1 (ltI i_1 (↑l_0.len : Int)) S) (k1 false S)
theorem w54 (l_0 : Sl) (i_1 : Int) {S : St} {k : Value → St → Prop} (h : c54 l_0 i_1 S k) : WC E0 54 [.slice l_0.a l_0.len l_0.cap, .int .i64 i_1] S k :=
  WC_den h54 rfl (by kernel_rfl) (by kernel_rfl : Tryd.f54.body = some (bodyOf Tryd.f54)) (by rw [show (denF E0 h54 Tryd.f54 (bodyOf Tryd.f54) [.slice l_0.a l_0.len l_0.cap, .int .i64 i_1] S k) = c54 l_0 i_1 S k by kernel_rfl]; exact h)

/-! 55 wagonway/watch.at[uint32] -/
noncomputable def h55 : Hn := (.n .no (.n .no (.n (.n .no .no (some ⟨[0, 1, 5], [(13, .sc .bool)], false⟩)) .no none) none) none)
def c55 (l_0 : Sl) (i_1 : Int) (S : St) (k : Value → St → Prop) : Prop :=
  joinW
  (fun (t1 : Bool) (S1 : St) =>
  ifW t1 (idxW l_0.a l_0.len i_1 fun (b1 b2 : Nat) => evV tU32 (loadV E0 S1 36 (.pointer (some ⟨b1, b2 + Int.toNat i_1 * 1, none⟩))) fun (n1 : Int) => k (.int .u32 n1) S1)
  (k (.int .u32 0) S1))
  fun (k1 : Bool → St → Prop) => ifW (leI 0 i_1) (k1 (ltI i_1 (↑l_0.len : Int)) S) (k1 false S)
theorem w55 (l_0 : Sl) (i_1 : Int) {S : St} {k : Value → St → Prop} (h : c55 l_0 i_1 S k) : WC E0 55 [.slice l_0.a l_0.len l_0.cap, .int .i64 i_1] S k :=
  WC_den h55 rfl (by kernel_rfl) (by kernel_rfl : Tryd.f55.body = some (bodyOf Tryd.f55)) (by rw [show (denF E0 h55 Tryd.f55 (bodyOf Tryd.f55) [.slice l_0.a l_0.len l_0.cap, .int .i64 i_1] S k) = c55 l_0 i_1 S k by kernel_rfl]; exact h)

/-! 80 slices.Index[[]int,int] -/
noncomputable def h80 : Hn := (.n .no (.n (.n .no (.n (.n .no .no (some ⟨[0, 1, 7], [(8, .sc (.int .i64))], false⟩)) .no none) none) .no none) none)
def c80 (s_0 : Sl) (v_1 : Int) (S : St) (k : Value → St → Prop) : Prop :=
  loopW
  (fun (k1 : Int → St → Prop) (n1 : Int) (S1 : St) =>
  ifW (ltI n1 (↑s_0.len : Int))
  (idxW s_0.a s_0.len n1 fun (b1 b2 : Nat) =>
  evV tI (loadV E0 S1 3 (.pointer (some ⟨b1, b2 + Int.toNat n1 * 1, none⟩))) fun (n2 : Int) => ifW (eqI v_1 n2) (k (.int .i64 n1) S1) (k1 (wrapI .i64 (n1 + 1)) S1))
  (k (.int .i64 (-1)) S1))
  0 S
theorem w80 (s_0 : Sl) (v_1 : Int) {S : St} {k : Value → St → Prop} (h : c80 s_0 v_1 S k) : WC E0 80 [.slice s_0.a s_0.len s_0.cap, .int .i64 v_1] S k :=
  WC_den h80 rfl (by kernel_rfl) (by kernel_rfl : Tryd.f80.body = some (bodyOf Tryd.f80)) (by rw [show (denF E0 h80 Tryd.f80 (bodyOf Tryd.f80) [.slice s_0.a s_0.len s_0.cap, .int .i64 v_1] S k) = c80 s_0 v_1 S k by kernel_rfl]; exact h)

/-! 81 slices.ContainsFunc[[]wagonway/api.Claim,wagonway/api.Claim] -/
noncomputable def h81 : Hn := .no
def c81 (s_0 : Sl) (f_1 : Value) (S : St) (k : Value → St → Prop) : Prop :=
  evC E0 tI 111 [.slice s_0.a s_0.len s_0.cap, f_1] S fun (n1 : Int) (S1 : St) => k (.bool (leI 0 n1)) S1
theorem w81 (s_0 : Sl) (f_1 : Value) {S : St} {k : Value → St → Prop} (h : c81 s_0 f_1 S k) : WC E0 81 [.slice s_0.a s_0.len s_0.cap, f_1] S k :=
  WC_den h81 rfl (by kernel_rfl) (by kernel_rfl : Tryd.f81.body = some (bodyOf Tryd.f81)) (by rw [show (denF E0 h81 Tryd.f81 (bodyOf Tryd.f81) [.slice s_0.a s_0.len s_0.cap, f_1] S k) = c81 s_0 f_1 S k by kernel_rfl]; exact h)

/-! 82 wagonway/watch.held$1 -/
noncomputable def h82 : Hn := .no
def c82 (c_0 : Int × Int) (c1 : Nat) (c2 : Nat) (S : St) (k : Value → St → Prop) : Prop :=
  newW S (.cells [.int .i64 c_0.1, .int .u32 c_0.2] none false none) fun (b1 : Nat) (S1 : St) =>
  ptrW (some ⟨b1, 0, none⟩) fun (b2 b3 : Nat) =>
  evV tI (loadV E0 S1 3 (.pointer (some ⟨b2, b3 + 0, none⟩))) fun (n1 : Int) =>
  ptrW (some ⟨c1, 0, none⟩) fun (b4 b5 : Nat) =>
  evV tS (loadV E0 S1 22 (.pointer (some ⟨b4, b5 + 0, none⟩))) fun (s1 : Sl) =>
  evV tI (loadV E0 S1 3 (.pointer (some ⟨c2, 0, none⟩))) fun (n2 : Int) =>
  idxW s1.a s1.len n2 fun (b6 b7 : Nat) =>
  evV tI (loadV E0 S1 3 (.pointer (some ⟨b6, b7 + Int.toNat n2 * 1, none⟩))) fun (n3 : Int) =>
  ifW (eqI n1 n3)
  (evV (TT.one (Ty.agg G26)) (loadV E0 S1 27 (.pointer (some ⟨c1, 0, none⟩))) fun (x1 : Sl × Sl × Sl × Sl × Sl × Sl × Sl × Sl × Int) =>
  evV tI (loadV E0 S1 3 (.pointer (some ⟨c2, 0, none⟩))) fun (n4 : Int) =>
  evV (TT.one (Ty.agg G37)) (loadV E0 S1 38 (.pointer (some ⟨b1, 0, none⟩))) fun (x2 : Int × Int) =>
  evC E0 tB 49 [sv G26 x1, .int .i64 n4, sv G37 x2] S1 fun (t1 : Bool) (S2 : St) => k (.bool t1) S2)
  (k (.bool false) S1)
theorem w82 (c_0 : Int × Int) (c1 : Nat) (c2 : Nat) {S : St} {k : Value → St → Prop} (h : c82 c_0 c1 c2 S k) : WC E0 82 [sv G37 c_0, .pointer (some ⟨c1, 0, none⟩), .pointer (some ⟨c2, 0, none⟩)] S k :=
  WC_den h82 rfl (by kernel_rfl) (by kernel_rfl : Tryd.f82.body = some (bodyOf Tryd.f82)) (by rw [show (denF E0 h82 Tryd.f82 (bodyOf Tryd.f82) [sv G37 c_0, .pointer (some ⟨c1, 0, none⟩), .pointer (some ⟨c2, 0, none⟩)] S k) = c82 c_0 c1 c2 S k by kernel_rfl]; exact h)

/-! 84 slices.Compact[[]int,int] -/
noncomputable def h84 : Hn := (.n .no (.n .no (.n (.n .no (.n (.n (.n .no (.n (.n (.n .no (.n (.n .no (.n (.n .no (.n (.n .no .no (some ⟨[0, 4], [(3, .sc (.int .i64)), (5, .sc (.int .i64))], false⟩)) .no none) none) .no none) none) .no none) none) .no none) .no none) none) .no (some ⟨[0], [(3, .sc (.int .i64))], false⟩)) .no none) none) .no none) none) none)
def c84 (s_0 : Sl) (S : St) (k : Value → St → Prop) : Prop :=
  ifW (ltI (↑s_0.len : Int) 2) (k (.slice s_0.a s_0.len s_0.cap) S)
  (loopW
  (fun (k1 : Int → St → Prop) (n1 : Int) (S1 : St) =>
  ifW (ltI n1 (↑s_0.len : Int))
  (idxW s_0.a s_0.len n1 fun (b1 b2 : Nat) =>
  evV tI (loadV E0 S1 3 (.pointer (some ⟨b1, b2 + Int.toNat n1 * 1, none⟩))) fun (n2 : Int) =>
  idxW s_0.a s_0.len (wrapI .i64 (n1 - 1)) fun (b3 b4 : Nat) =>
  evV tI (loadV E0 S1 3 (.pointer (some ⟨b3, b4 + Int.toNat (wrapI .i64 (n1 - 1)) * 1, none⟩))) fun (n3 : Int) =>
  ifW (eqI n2 n3)
  (evV tS (sliceD E0 S1 22 (.slice s_0.a s_0.len s_0.cap) (some (.int .i64 n1)) none none) fun (s1 : Sl) =>
  loopW
  (fun (k2 : Int × Int → St → Prop) (x1 : Int × Int) (S2 : St) =>
  ifW (ltI x1.2 (↑s1.len : Int))
  (idxW s1.a s1.len x1.2 fun (b5 b6 : Nat) =>
  evV tI (loadV E0 S2 3 (.pointer (some ⟨b5, b6 + Int.toNat x1.2 * 1, none⟩))) fun (n4 : Int) =>
  idxW s1.a s1.len (wrapI .i64 (x1.2 - 1)) fun (b7 b8 : Nat) =>
  evV tI (loadV E0 S2 3 (.pointer (some ⟨b7, b8 + Int.toNat (wrapI .i64 (x1.2 - 1)) * 1, none⟩))) fun (n5 : Int) =>
  ifW (!eqI n4 n5)
  (idxW s1.a s1.len x1.2 fun (b9 b10 : Nat) =>
  evV tI (loadV E0 S2 3 (.pointer (some ⟨b9, b10 + Int.toNat x1.2 * 1, none⟩))) fun (n6 : Int) =>
  idxW s_0.a s_0.len x1.1 fun (b11 b12 : Nat) =>
  evS (storeV E0 S2 3 (.pointer (some ⟨b11, b12 + Int.toNat x1.1 * 1, none⟩)) (.int .i64 n6)) fun (S3 : St) =>
  k2 (wrapI .i64 (x1.1 + 1), wrapI .i64 (x1.2 + 1)) S3)
  (k2 (x1.1, wrapI .i64 (x1.2 + 1)) S2))
  (evV tS (sliceD E0 S2 22 (.slice s_0.a s_0.len s_0.cap) (some (.int .i64 x1.1)) none none) fun (s2 : Sl) =>
  evS (clearD E0 S2 22 (.slice s2.a s2.len s2.cap)) fun (S4 : St) =>
  evV tS (sliceD E0 S4 22 (.slice s_0.a s_0.len s_0.cap) none (some (.int .i64 x1.1)) none) fun (s3 : Sl) => k (.slice s3.a s3.len s3.cap) S4))
  (n1, 1) S1)
  (k1 (wrapI .i64 (n1 + 1)) S1))
  (k (.slice s_0.a s_0.len s_0.cap) S1))
  1 S)
theorem w84 (s_0 : Sl) {S : St} {k : Value → St → Prop} (h : c84 s_0 S k) : WC E0 84 [.slice s_0.a s_0.len s_0.cap] S k :=
  WC_den h84 rfl (by kernel_rfl) (by kernel_rfl : Tryd.f84.body = some (bodyOf Tryd.f84)) (by rw [show (denF E0 h84 Tryd.f84 (bodyOf Tryd.f84) [.slice s_0.a s_0.len s_0.cap] S k) = c84 s_0 S k by kernel_rfl]; exact h)

/-! 85 slices.IndexFunc[[]int,int] -/
noncomputable def h85 : Hn := (.n .no (.n (.n .no (.n (.n .no .no (some ⟨[0, 1, 7], [(8, .sc (.int .i64))], false⟩)) .no none) none) .no none) none)
def c85 (s_0 : Sl) (f_1 : Value) (S : St) (k : Value → St → Prop) : Prop :=
  loopW
  (fun (k1 : Int → St → Prop) (n1 : Int) (S1 : St) =>
  ifW (ltI n1 (↑s_0.len : Int))
  (idxW s_0.a s_0.len n1 fun (b1 b2 : Nat) =>
  evV tI (loadV E0 S1 3 (.pointer (some ⟨b1, b2 + Int.toNat n1 * 1, none⟩))) fun (n2 : Int) =>
  evY E0 tB f_1 [.int .i64 n2] S1 fun (t1 : Bool) (S2 : St) => ifW t1 (k (.int .i64 n1) S2) (k1 (wrapI .i64 (n1 + 1)) S2))
  (k (.int .i64 (-1)) S1))
  0 S
theorem w85 (s_0 : Sl) (f_1 : Value) {S : St} {k : Value → St → Prop} (h : c85 s_0 f_1 S k) : WC E0 85 [.slice s_0.a s_0.len s_0.cap, f_1] S k :=
  WC_den h85 rfl (by kernel_rfl) (by kernel_rfl : Tryd.f85.body = some (bodyOf Tryd.f85)) (by rw [show (denF E0 h85 Tryd.f85 (bodyOf Tryd.f85) [.slice s_0.a s_0.len s_0.cap, f_1] S k) = c85 s_0 f_1 S k by kernel_rfl]; exact h)

/-! 111 slices.IndexFunc[[]wagonway/api.Claim,wagonway/api.Claim] -/
noncomputable def h111 : Hn := (.n .no (.n (.n .no (.n (.n .no .no (some ⟨[0, 1, 7], [(8, .sc (.int .i64))], false⟩)) .no none) none) .no none) none)
def c111 (s_0 : Sl) (f_1 : Value) (S : St) (k : Value → St → Prop) : Prop :=
  loopW
  (fun (k1 : Int → St → Prop) (n1 : Int) (S1 : St) =>
  ifW (ltI n1 (↑s_0.len : Int))
  (idxW s_0.a s_0.len n1 fun (b1 b2 : Nat) =>
  evV (TT.one (Ty.agg G37)) (loadV E0 S1 38 (.pointer (some ⟨b1, b2 + Int.toNat n1 * 2, none⟩))) fun (x1 : Int × Int) =>
  evY E0 tB f_1 [sv G37 x1] S1 fun (t1 : Bool) (S2 : St) => ifW t1 (k (.int .i64 n1) S2) (k1 (wrapI .i64 (n1 + 1)) S2))
  (k (.int .i64 (-1)) S1))
  0 S
theorem w111 (s_0 : Sl) (f_1 : Value) {S : St} {k : Value → St → Prop} (h : c111 s_0 f_1 S k) : WC E0 111 [.slice s_0.a s_0.len s_0.cap, f_1] S k :=
  WC_den h111 rfl (by kernel_rfl) (by kernel_rfl : Tryd.f111.body = some (bodyOf Tryd.f111)) (by rw [show (denF E0 h111 Tryd.f111 (bodyOf Tryd.f111) [.slice s_0.a s_0.len s_0.cap, f_1] S k) = c111 s_0 f_1 S k by kernel_rfl]; exact h)

end
end Go.Proofs.YtfopfocedlbihaaDoor
