/- Bags: all packets, and where one stands. -/
import Derived.Test.YtcookjolkhcjhaaBag2
namespace Go.Proofs.Ytcookjolkhcjhaa
open Go Go.Proofs.Ytcookjolkhcjhaa.D
set_option linter.unusedVariables false
set_option linter.unusedSimpArgs false
noncomputable section

theorem eqPtr (S : St) (a : Addr) : eqD E0 S 6 83 (.pointer (some a)) (.pointer none) = some false := by kernel_rfl
abbrev Cnt := Int × Int × Int × Int × Int × Int
abbrev bagO (s : Sl) (last : Int) (c : Cnt) : DObj := .cells [.slice s.a s.len s.cap, .int .i64 last, .int .i64 c.1, .int .i64 c.2.1, .int .i64 c.2.2.1, .int .i64 c.2.2.2.1, .int .i64 c.2.2.2.2.1, .int .i64 c.2.2.2.2.2] none false none

theorem s69 {y : Value} {c1 bb : Nat} {S : St} {s : Sl} {fl : List Flt} {last : Int} {c : Cnt} (hlen : fl.length ≤ 256) (I : Nat → St → Prop) {Q : St → Prop}
    (hm : ∀ i S', I i S' → At S' c1 (.cells [.pointer (some ⟨bb, 0, none⟩)] none false none) ∧ At S' bb (bagO s last c) ∧ SlOf cellsF 5 S' s fl) (hext : ∀ i S' S'', I i S' → Ext S' S'' → I i S'') (h0 : I 0 S)
    (hstep : ∀ i (hi : i < fl.length) S', I i S' → evY E0 tB y [.int .i64 (i : Int), sv G66 fl[i]] S' fun t S'' => (t = true → I (i + 1) S'') ∧ (t = false → Q S''))
    (hend : ∀ S', I fl.length S' → Q S') : WC E0 69 [y, .pointer (some ⟨c1, 0, none⟩)] S fun _ S' => Q S' := by
  refine w69 y c1 ?_
  unfold c69
  obtain ⟨a1, a2, a3⟩ := hm 0 S h0
  refine evV_of (some ⟨bb, 0, none⟩) (load_one a1 (by kernel_rfl)) ?_
  refine ⟨false, eqPtr _ _, ?_⟩
  refine ifW_of (fun h => by cases h) fun _ => ?_
  refine evV_of (some ⟨bb, 0, none⟩) (load_one a1 (by kernel_rfl)) ?_
  refine ptrW_of (ptrW_of ?_)
  refine evV_of s (load_one a2 (by kernel_rfl)) ?_
  refine loopW_ind (fun q (x : Int) S' => ∃ n : Nat, x = n ∧ n ≤ fl.length ∧ q = fl.length - n ∧ I n S') (m := fl.length) ⟨0, rfl, by omega, rfl, h0⟩ ?_
  rintro P q x S1 ⟨n, rfl, hn, rfl, hi⟩ hP
  obtain ⟨a1, a2, a3⟩ := hm n S1 hi
  have hal := a3.len
  refine ifW_dec (fun hlt => ?_) fun hlt => ?_
  · have hlt2 : (n : Int) < (fl.length : Int) := by omega
    have hlt3 : n < fl.length := by omega
    have h00 : (0 : Int) ≤ (n : Int) := by omega
    refine a3.idx (f := cellsF) (sz := 5) (fun _ => rfl) h00 hlt2 fun b1 o1 cs1 m1 r1 f1 at1 _ h1 => ?_
    refine ⟨fl[n]'hlt3, load_agg at1 (n := 5) (by kernel_rfl) h1 rfl, ?_⟩
    have hL := Hld.start noB S1
    refine hL.new fun b7 S2 hL hb7 hn2 => ?_
    (first | refine hL.st 0 _ rfl (by kernel_rfl) rfl (Nat.le_of_ble_eq_true rfl) rfl rfl fun S' hL hn' => ?_ | refine hL.st 1 _ rfl (by kernel_rfl) rfl (Nat.le_of_ble_eq_true rfl) rfl rfl fun S' hL hn' => ?_ | refine hL.st 2 _ rfl (by kernel_rfl) rfl (Nat.le_of_ble_eq_true rfl) rfl rfl fun S' hL hn' => ?_ | refine hL.st 3 _ rfl (by kernel_rfl) rfl (Nat.le_of_ble_eq_true rfl) rfl rfl fun S' hL hn' => ?_ | refine hL.st 4 _ rfl (by kernel_rfl) rfl (Nat.le_of_ble_eq_true rfl) rfl rfl fun S' hL hn' => ?_ | refine hL.st 5 _ rfl (by kernel_rfl) rfl (Nat.le_of_ble_eq_true rfl) rfl rfl fun S' hL hn' => ?_ | refine hL.st 6 _ rfl (by kernel_rfl) rfl (Nat.le_of_ble_eq_true rfl) rfl rfl fun S' hL hn' => ?_ | refine hL.st 7 _ rfl (by kernel_rfl) rfl (Nat.le_of_ble_eq_true rfl) rfl rfl fun S' hL hn' => ?_)
    (first | refine hL.ld 0 rfl (by kernel_rfl) _ rfl ?_ | refine hL.ld 1 rfl (by kernel_rfl) _ rfl ?_ | refine hL.ld 2 rfl (by kernel_rfl) _ rfl ?_ | refine hL.ld 3 rfl (by kernel_rfl) _ rfl ?_ | refine hL.ld 4 rfl (by kernel_rfl) _ rfl ?_ | refine hL.ld 5 rfl (by kernel_rfl) _ rfl ?_ | refine hL.ld 6 rfl (by kernel_rfl) _ rfl ?_ | refine hL.ld 7 rfl (by kernel_rfl) _ rfl ?_ | refine hL.lda 0 rfl (by kernel_rfl) _ rfl ?_ | refine hL.lda 1 rfl (by kernel_rfl) _ rfl ?_ | refine hL.lda 2 rfl (by kernel_rfl) _ rfl ?_ | refine hL.lda 3 rfl (by kernel_rfl) _ rfl ?_ | refine hL.lda 4 rfl (by kernel_rfl) _ rfl ?_ | refine hL.lda 5 rfl (by kernel_rfl) _ rfl ?_ | refine hL.lda 6 rfl (by kernel_rfl) _ rfl ?_ | refine hL.lda 7 rfl (by kernel_rfl) _ rfl ?_)
    refine WV.mono (hstep n hlt3 S' (hext _ _ _ hi hL.mod)) ?_
    rintro v S4 ⟨t, rfl, ht1, ht2⟩
    refine ⟨t, rfl, ifW_of (fun h => ht2 (by simpa using h)) fun h => ?_⟩
    rw [wrap_succ (by omega)]
    exact hP _ _ _ (by omega) ⟨n + 1, rfl, by omega, rfl, ht1 (by simpa using h)⟩
  · have : n = fl.length := by omega
    subst this
    exact hend S1 hi
end
end Go.Proofs.Ytcookjolkhcjhaa
