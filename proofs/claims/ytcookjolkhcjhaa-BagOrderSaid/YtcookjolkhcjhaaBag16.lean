/- Bags: the calls that a statement goes through; the first examples. -/
import Derived.Test.YtcookjolkhcjhaaBag15
import Derived.Test.YtcookjolkhcjhaaD33
namespace Go.Proofs.Ytcookjolkhcjhaa
open Go Go.Proofs.Ytcookjolkhcjhaa.D
set_option linter.unusedVariables false
set_option linter.unusedSimpArgs false
noncomputable section

/-- A call: kind, n, at, bytes, with, many. -/
abbrev OpR := Int × Int × Int × Sl × Int × Int
abbrev cellsO (x : OpR) : List Value := [.int .i64 x.1, .int .i64 x.2.1, .int .i64 x.2.2.1, .slice x.2.2.2.1.a x.2.2.2.1.len x.2.2.2.1.cap, .int .u8 x.2.2.2.2.1, .int .i64 x.2.2.2.2.2]
/-- Its bytes. -/
def OpD (S : St) (x : OpR) (d : List Int) : Prop := SlOf cellB 1 S x.2.2.2.1 d ∧ (∀ a, x.2.2.2.1.a = some a → a.spot = none) ∧ (∀ y ∈ d, 0 ≤ y ∧ y < 256) ∧ 0 ≤ x.2.2.2.2.1 ∧ x.2.2.2.2.1 < 256
theorem b25 {S : St} {s : Sl} {xs : List OpR} {k : Value → St → Prop} (h : SlOf cellsO 6 S s xs) (h1 : k (.int .i64 1) S) (h0 : xs.length ≤ 120 → (∀ x ∈ xs, x.2.2.2.1.len ≤ 60 ∧ x.2.2.2.2.2 ≤ 300) → k (.int .i64 0) S) : WC E0 25 [.slice s.a s.len s.cap] S k := by
  refine w25 s ?_
  unfold c25
  have hl := h.len
  rw [hl]
  refine ifW_dec (fun hlt => h1) fun hge => ?_
  refine loopW_ind (fun q (x : Int × Int) S' => ∃ n : Nat, x.2 = n ∧ 0 ≤ x.1 ∧ x.1 ≤ n ∧ n ≤ xs.length ∧ q = xs.length - n ∧ S' = S ∧ ∀ i (hi : i < xs.length), i < n → xs[i].2.2.2.1.len ≤ 60 ∧ xs[i].2.2.2.2.2 ≤ 300) (m := xs.length) ⟨0, rfl, by simp, by simp, by omega, rfl, rfl, fun i _ h => by omega⟩ ?_
  rintro P q ⟨many, x⟩ S1 ⟨n, rfl, hm0, hm1, hn, rfl, rfl, hall⟩ hP
  simp only at hm0 hm1 hP ⊢
  refine ifW_dec (fun hlt => ?_) fun hlt => ?_
  · have hlt3 : n < xs.length := by omega
    refine h.idxL (f := cellsO) (sz := 6) (fun _ => rfl) rfl hlt3 fun b1 o1 cs1 m1 r1 f1 at1 _ hv1 => ?_
    refine ptrW_of ?_
    refine evV_of xs[n].2.2.2.1 ((load_one at1 (by kernel_rfl)).trans (at_take hv1 (j := 3) (by omega))) ?_
    refine ifW_dec (fun hd => h1) fun hd => ?_
    refine h.idxL (f := cellsO) (sz := 6) (fun _ => rfl) rfl hlt3 fun b2 o2 cs2 m2 r2 f2 at2 _ hv2 => ?_
    refine ptrW_of ?_
    refine evV_of xs[n].2.2.2.2.2 ((load_one at2 (by kernel_rfl)).trans (at_take hv2 (j := 5) (by omega))) ?_
    refine ifW_dec (fun hd => h1) fun hmny => ?_
    refine h.idxL (f := cellsO) (sz := 6) (fun _ => rfl) rfl hlt3 fun b3 o3 cs3 m3 r3 f3 at3 _ hv3 => ?_
    refine ptrW_of ?_
    refine evV_of xs[n].2.2.2.2.2 ((load_one at3 (by kernel_rfl)).trans (at_take hv3 (j := 5) (by omega))) ?_
    have hnext : ∀ i (hi : i < xs.length), i < n + 1 → xs[i].2.2.2.1.len ≤ 60 ∧ xs[i].2.2.2.2.2 ≤ 300 := fun i hi hlt => by
      rcases Nat.lt_or_ge i n with h | h
      · exact hall i hi h
      · have : i = n := by omega
        subst this
        exact ⟨by omega, by omega⟩
    rw [wrap_succ (n := n) (by omega), wrap_i64 (n := many + 1) (by omega) (by omega)]
    refine ifW_dec (fun _ => ?_) fun _ => ?_
    · exact hP _ _ _ (by omega) ⟨n + 1, rfl, by simp only; omega, by simp only; omega, by omega, rfl, rfl, hnext⟩
    · exact hP _ _ _ (by omega) ⟨n + 1, rfl, by simp only; omega, by simp only; omega, by omega, rfl, rfl, hnext⟩
  · refine ifW_dec (fun _ => h1) fun _ => h0 (by omega) fun x hx => ?_
    obtain ⟨i, hi, rfl⟩ := List.getElem_of_mem hx
    exact hall i hi (by omega)

abbrev bag0 : BagS := ⟨[], 0, (0, 0, 0, 0, 0, 0)⟩
theorem bag0_is {S : St} {b : Nat} (h : At S b (.cells [.slice none 0 0, .int .i64 0, .int .i64 0, .int .i64 0, .int .i64 0, .int .i64 0, .int .i64 0, .int .i64 0] none false none)) : BagIs S b bag0 [b] :=
  ⟨⟨none, 0, 0⟩, [], [], h, .inl ⟨rfl, rfl⟩, .nil, by simp, rfl⟩
theorem bag0_ok : BagOk 0 bag0 := ⟨by simp, by simp, by simp, by simp, by simp, by simp, by simp, by simp, by simp⟩
theorem b24 {S : St} {k : Value → St → Prop} (hk : ∀ S', Ext S S' → k (.bool true) S') : WC E0 24 [] S k := by
  refine w24 ?_
  unfold c24
  refine newW_of fun b1 S1 hb1 ha1 e1 hn1 => ?_
  refine newW_of fun b2 S2 hb2 ha2 e2 hn2 => ?_
  have m3 : Mod (fun c => c = b2) S2 (S2.upd b2 (.cells [.int .u8 97, .int .u8 98] none false (some (0, 0)))) := upd_mod
  have a3 := upd_at (o' := .cells [.int .u8 97, .int .u8 98] none false (some (0, 0))) ha2
  have hn3 : (S2.upd b2 (.cells [.int .u8 97, .int .u8 98] none false (some (0, 0)))).next = S2.next := rfl
  refine ⟨⟨some ⟨b2, 0, none⟩, 2, 2⟩, S2.upd b2 (.cells [.int .u8 97, .int .u8 98] none false (some (0, 0))), ?_, ?_⟩
  · simp only [convertD, und42b, und5b, ha2.get]
    rfl
  generalize S2.upd b2 (.cells [.int .u8 97, .int .u8 98] none false (some (0, 0))) = S3 at m3 a3 hn3 ⊢
  have q1 := bag0_is (m3.at (e2.at ha1) (by omega))
  have d3 : SlOf cellB 1 S3 ⟨some ⟨b2, 0, none⟩, 2, 2⟩ [97, 98] := ⟨rfl, fun _ => ⟨b2, 0, _, _, _, _, rfl, a3, rfl⟩⟩
  refine evC_of (b26 (m := 0) q1 bag0_ok (by omega) d3 (fun a h => by cases h; rfl) (fun _ b o h => by cases h; omega) (by simp) fun own4 S4 q4 o4 m4 => ⟨(1 : Int), rfl, ?_⟩)
  have k4 := sendS_ok bag0_ok 1 2 [97, 98] (by simp)
  have r4 : sendS bag0 1 2 [97, 98] = (1, ⟨[(1, 1, 2, [97, 98], false)], 1, (1, 0, 0, 0, 0, 0)⟩) := rfl
  rw [r4] at q4 k4
  refine evC_of (b30 q4 k4 (by omega) fun own5 S5 q5 o5 m5 => ⟨((2 : Int), (0 : Int)), rfl, ?_⟩)
  have k5 := doubleS_ok k4 1
  have r5 : doubleS ⟨[(1, 1, 2, [97, 98], false)], 1, (1, 0, 0, 0, 0, 0)⟩ 1 = ((2, 0), ⟨[(1, 1, 2, [97, 98], false), (2, 1, 2, [97, 98], false)], 2, (1, 0, 0, 1, 0, 0)⟩) := rfl
  rw [r5] at q5 k5
  refine evC_of (b31 q5 k5 (by omega) fun own6 S6 q6 o6 m6 => ⟨(0 : Int), rfl, ?_⟩)
  have k6 := spoilS_ok k5 1 0 2
  have r6 : spoilS ⟨[(1, 1, 2, [97, 98], false), (2, 1, 2, [97, 98], false)], 2, (1, 0, 0, 1, 0, 0)⟩ 1 0 2 = (0, ⟨[(1, 1, 2, [byteX 97 2, 98], true), (2, 1, 2, [97, 98], false)], 2, (1, 0, 0, 1, 1, 0)⟩) := rfl
  rw [r6] at q6 k6
  refine evC_of (b31 q6 k6 (by omega) fun own7 S7 q7 o7 m7 => ⟨(80 : Int), rfl, ?_⟩)
  have r7 : spoilS ⟨[(1, 1, 2, [byteX 97 2, 98], true), (2, 1, 2, [97, 98], false)], 2, (1, 0, 0, 1, 1, 0)⟩ 1 0 2 = (80, ⟨[(1, 1, 2, [byteX 97 2, 98], true), (2, 1, 2, [97, 98], false)], 2, (1, 0, 0, 1, 1, 0)⟩) := rfl
  rw [r7] at q7
  have n4 := m4.next; have n5 := m5.next; have n6 := m6.next; have n7 := m7.next
  have f4 : ∀ c ∈ own4, S.next ≤ c := fun c hc => by
    rcases o4 c hc with h | h
    · simp only [List.mem_cons, List.not_mem_nil, or_false] at h; omega
    · omega
  have f5 : ∀ c ∈ own5, S.next ≤ c := fun c hc => (o5 c hc).elim (f4 c) fun h => by omega
  have f6 : ∀ c ∈ own6, S.next ≤ c := fun c hc => (o6 c hc).elim (f5 c) fun h => by omega
  have e7 : Ext S S7 := ((((((e1.tr e2).ext m3 fun b h => by omega).ext m4 fun b h => by simp only [List.mem_cons, List.not_mem_nil, or_false] at h; omega).ext m5 f4).ext m6 f5).ext m7 f6)
  refine ifW_pos rfl (ifW_pos rfl (ifW_pos rfl (ifW_pos rfl (ifW_pos rfl ?_))))
  refine evC_of (b33 q7 ⟨_, rfl, ?_⟩)
  have : eqI ((2 : Nat) : Int) 2 = true := by rw [eqI_eq]; rfl
  show k (.bool (eqI ((2 : Nat) : Int) 2)) S7
  rw [this]
  exact hk _ e7
end
end Go.Proofs.Ytcookjolkhcjhaa
