/- Bags: how many, the counts, one packet found. -/
import Derived.Test.YtcookjolkhcjhaaBag4
namespace Go.Proofs.Ytcookjolkhcjhaa
open Go Go.Proofs.Ytcookjolkhcjhaa.D
set_option linter.unusedVariables false
set_option linter.unusedSimpArgs false
noncomputable section

theorem s33 {bb : Nat} {S : St} {s : Sl} {last : Int} {c : Cnt} {k : Value → St → Prop} (hb : At S bb (bagO s last c)) (hk : k (.int .i64 (s.len : Int)) S) : WC E0 33 [.pointer (some ⟨bb, 0, none⟩)] S k := by
  refine w33 _ ?_
  unfold c33
  refine ⟨false, eqPtr _ _, ?_⟩
  refine ifW_of (fun h => by cases h) fun _ => ?_
  refine ptrW_of (ptrW_of ?_)
  exact evV_of s (load_one hb (by kernel_rfl)) hk
theorem s32 {bb : Nat} {S : St} {s : Sl} {last : Int} {c : Cnt} {k : Value → St → Prop} (hb : At S bb (bagO s last c)) (hk : ∀ S', Ext S S' → k (sv G56 c) S') : WC E0 32 [.pointer (some ⟨bb, 0, none⟩)] S k := by
  refine w32 _ ?_
  unfold c32
  have hL := Hld.start noB S
  refine hL.new fun b1 S1 hL hb1 hn1 => ?_
  refine ⟨false, eqPtr _ _, ?_⟩
  refine ifW_of (fun h => by cases h) fun _ => ?_
  refine ptrW_of (ptrW_of ?_)
  have hb' := hL.mod.at hb (fun h => h)
  refine ⟨c, load_agg hb' (n := 6) (by kernel_rfl) rfl rfl, ?_⟩
  (first | refine hL.st 0 _ rfl (by kernel_rfl) rfl (Nat.le_of_ble_eq_true rfl) rfl rfl fun S' hL hn' => ?_ | refine hL.st 1 _ rfl (by kernel_rfl) rfl (Nat.le_of_ble_eq_true rfl) rfl rfl fun S' hL hn' => ?_ | refine hL.st 2 _ rfl (by kernel_rfl) rfl (Nat.le_of_ble_eq_true rfl) rfl rfl fun S' hL hn' => ?_ | refine hL.st 3 _ rfl (by kernel_rfl) rfl (Nat.le_of_ble_eq_true rfl) rfl rfl fun S' hL hn' => ?_ | refine hL.st 4 _ rfl (by kernel_rfl) rfl (Nat.le_of_ble_eq_true rfl) rfl rfl fun S' hL hn' => ?_ | refine hL.st 5 _ rfl (by kernel_rfl) rfl (Nat.le_of_ble_eq_true rfl) rfl rfl fun S' hL hn' => ?_ | refine hL.st 6 _ rfl (by kernel_rfl) rfl (Nat.le_of_ble_eq_true rfl) rfl rfl fun S' hL hn' => ?_ | refine hL.st 7 _ rfl (by kernel_rfl) rfl (Nat.le_of_ble_eq_true rfl) rfl rfl fun S' hL hn' => ?_)
  (first | refine hL.ld 0 rfl (by kernel_rfl) _ rfl ?_ | refine hL.ld 1 rfl (by kernel_rfl) _ rfl ?_ | refine hL.ld 2 rfl (by kernel_rfl) _ rfl ?_ | refine hL.ld 3 rfl (by kernel_rfl) _ rfl ?_ | refine hL.ld 4 rfl (by kernel_rfl) _ rfl ?_ | refine hL.ld 5 rfl (by kernel_rfl) _ rfl ?_ | refine hL.ld 6 rfl (by kernel_rfl) _ rfl ?_ | refine hL.ld 7 rfl (by kernel_rfl) _ rfl ?_ | refine hL.lda 0 rfl (by kernel_rfl) _ rfl ?_ | refine hL.lda 1 rfl (by kernel_rfl) _ rfl ?_ | refine hL.lda 2 rfl (by kernel_rfl) _ rfl ?_ | refine hL.lda 3 rfl (by kernel_rfl) _ rfl ?_ | refine hL.lda 4 rfl (by kernel_rfl) _ rfl ?_ | refine hL.lda 5 rfl (by kernel_rfl) _ rfl ?_ | refine hL.lda 6 rfl (by kernel_rfl) _ rfl ?_ | refine hL.lda 7 rfl (by kernel_rfl) _ rfl ?_)
  exact hk _ hL.mod
/-- One packet, if it is there, and whether. -/
theorem s36 {bb : Nat} {S : St} {s : Sl} {fl : List Flt} {last : Int} {c : Cnt} {n : Int} {ds : Nat → List Int} {k : Value → St → Prop} (hb : At S bb (bagO s last c)) (hs : SlOf cellsF 5 S s fl) (hlen : fl.length ≤ 256)
    (hd : ∀ i (hi : i < fl.length), SlOf cellB 1 S fl[i].2.2.2.1 (ds i) ∧ (∀ a, fl[i].2.2.2.1.a = some a → a.spot = none) ∧ (ds i).length ≤ 1000000)
    (hno : (∀ x ∈ fl, x.1 ≠ n) → ∀ S', Ext S S' → k (.tuple #[zeroF, .bool false]) S')
    (hyes : ∀ i (hi : i < fl.length), (∀ j (hj : j < i), fl[j].1 ≠ n) → fl[i].1 = n → ∀ d N S', S.next ≤ N → Dat N S' d (ds i) → Ext S S' → k (.tuple #[sv G66 (fl[i].1, fl[i].2.1, fl[i].2.2.1, d, fl[i].2.2.2.2), .bool true]) S') :
    WC E0 36 [.pointer (some ⟨bb, 0, none⟩), .int .i64 n] S k := by
  refine w36 _ n ?_
  unfold c36
  have hL := Hld.start noB S
  refine hL.new fun b1 S1 hL hb1 hn1 => ?_
  refine evC_of (s56 (hL.mod.at hb (fun h => h)) (hL.mod.slOf hs fun _ _ _ _ h => h) hlen fun S2 e2 => ⟨placeF fl n, rfl, ?_⟩)
  have hL := hL.ext e2
  by_cases hex : ∃ x ∈ fl, x.1 = n
  · have hfi : ∃ i, ∃ hi : i < fl.length, (∀ j (hj : j < i), fl[j].1 ≠ n) ∧ fl[i].1 = n := by
      cases hf : fl.findIdx? (fun x => decide (x.1 = n)) with
      | none =>
        rw [List.findIdx?_eq_none_iff] at hf
        obtain ⟨x, hx, e⟩ := hex
        have := hf x hx
        simp [e] at this
      | some i =>
        rw [List.findIdx?_eq_some_iff_getElem] at hf
        obtain ⟨hi, h1, h2⟩ := hf
        exact ⟨i, hi, fun j hj => by simpa using h2 j hj, by simpa using h1⟩
    obtain ⟨i, hi, h1, h2⟩ := hfi
    rw [place_at hi h1 h2]
    refine ifW_ndec (fun h => (h rfl).elim) fun _ => ?_
    refine ptrW_of (ptrW_of ?_)
    have hb2 := hL.mod.at hb (fun h => h)
    have hs2 := hL.mod.slOf hs fun _ _ _ _ h => h
    refine evV_of s (load_one hb2 (by kernel_rfl)) ?_
    have hlt2 : (i : Int) < (fl.length : Int) := by omega
    have h00 : (0 : Int) ≤ (i : Int) := by omega
    refine hs2.idx (f := cellsF) (sz := 5) (fun _ => rfl) h00 hlt2 fun b4 o4 cs4 m4 r4 f4 at4 _ hv4 => ?_
    refine ⟨fl[i], load_agg at4 (n := 5) (by kernel_rfl) hv4 rfl, ?_⟩
    obtain ⟨d1, d2, d3⟩ := hd i hi
    refine evC_of (s58 (hL.mod.slOf d1 fun _ _ _ _ h => h) d2 d3 fun d N S4 hN hdat e4 => ⟨_, rfl, ?_⟩)
    have hL4 := hL.ext e4
    have hSN : S.next ≤ N := Nat.le_trans hL.mod.next hN
    have hbn : b1 < N := Nat.lt_of_lt_of_le (hL.at 0 rfl).lt hN
    have hL := hL4.re
    (first | refine hL.st 0 _ rfl (by kernel_rfl) rfl (Nat.le_of_ble_eq_true rfl) rfl rfl fun S' hL hn' => ?_ | refine hL.st 1 _ rfl (by kernel_rfl) rfl (Nat.le_of_ble_eq_true rfl) rfl rfl fun S' hL hn' => ?_ | refine hL.st 2 _ rfl (by kernel_rfl) rfl (Nat.le_of_ble_eq_true rfl) rfl rfl fun S' hL hn' => ?_ | refine hL.st 3 _ rfl (by kernel_rfl) rfl (Nat.le_of_ble_eq_true rfl) rfl rfl fun S' hL hn' => ?_ | refine hL.st 4 _ rfl (by kernel_rfl) rfl (Nat.le_of_ble_eq_true rfl) rfl rfl fun S' hL hn' => ?_ | refine hL.st 5 _ rfl (by kernel_rfl) rfl (Nat.le_of_ble_eq_true rfl) rfl rfl fun S' hL hn' => ?_ | refine hL.st 6 _ rfl (by kernel_rfl) rfl (Nat.le_of_ble_eq_true rfl) rfl rfl fun S' hL hn' => ?_ | refine hL.st 7 _ rfl (by kernel_rfl) rfl (Nat.le_of_ble_eq_true rfl) rfl rfl fun S' hL hn' => ?_)
    (first | refine hL.ld 0 rfl (by kernel_rfl) _ rfl ?_ | refine hL.ld 1 rfl (by kernel_rfl) _ rfl ?_ | refine hL.ld 2 rfl (by kernel_rfl) _ rfl ?_ | refine hL.ld 3 rfl (by kernel_rfl) _ rfl ?_ | refine hL.ld 4 rfl (by kernel_rfl) _ rfl ?_ | refine hL.ld 5 rfl (by kernel_rfl) _ rfl ?_ | refine hL.ld 6 rfl (by kernel_rfl) _ rfl ?_ | refine hL.ld 7 rfl (by kernel_rfl) _ rfl ?_ | refine hL.lda 0 rfl (by kernel_rfl) _ rfl ?_ | refine hL.lda 1 rfl (by kernel_rfl) _ rfl ?_ | refine hL.lda 2 rfl (by kernel_rfl) _ rfl ?_ | refine hL.lda 3 rfl (by kernel_rfl) _ rfl ?_ | refine hL.lda 4 rfl (by kernel_rfl) _ rfl ?_ | refine hL.lda 5 rfl (by kernel_rfl) _ rfl ?_ | refine hL.lda 6 rfl (by kernel_rfl) _ rfl ?_ | refine hL.lda 7 rfl (by kernel_rfl) _ rfl ?_)
    refine hyes i hi h1 h2 d N _ hSN (mod_dat hL.mod hdat fun b hb _ hm => ?_) (hL4.back hL.mod)
    simp only [List.map_cons, List.map_nil, List.mem_cons, List.not_mem_nil, or_false] at hm
    omega
  · rw [place_no (fun j hj e => hex ⟨_, List.getElem_mem hj, e⟩)]
    refine ifW_ndec (fun _ => ?_) fun h => by cases h
    (first | refine hL.st 0 _ rfl (by kernel_rfl) rfl (Nat.le_of_ble_eq_true rfl) rfl rfl fun S' hL hn' => ?_ | refine hL.st 1 _ rfl (by kernel_rfl) rfl (Nat.le_of_ble_eq_true rfl) rfl rfl fun S' hL hn' => ?_ | refine hL.st 2 _ rfl (by kernel_rfl) rfl (Nat.le_of_ble_eq_true rfl) rfl rfl fun S' hL hn' => ?_ | refine hL.st 3 _ rfl (by kernel_rfl) rfl (Nat.le_of_ble_eq_true rfl) rfl rfl fun S' hL hn' => ?_ | refine hL.st 4 _ rfl (by kernel_rfl) rfl (Nat.le_of_ble_eq_true rfl) rfl rfl fun S' hL hn' => ?_ | refine hL.st 5 _ rfl (by kernel_rfl) rfl (Nat.le_of_ble_eq_true rfl) rfl rfl fun S' hL hn' => ?_ | refine hL.st 6 _ rfl (by kernel_rfl) rfl (Nat.le_of_ble_eq_true rfl) rfl rfl fun S' hL hn' => ?_ | refine hL.st 7 _ rfl (by kernel_rfl) rfl (Nat.le_of_ble_eq_true rfl) rfl rfl fun S' hL hn' => ?_)
    (first | refine hL.ld 0 rfl (by kernel_rfl) _ rfl ?_ | refine hL.ld 1 rfl (by kernel_rfl) _ rfl ?_ | refine hL.ld 2 rfl (by kernel_rfl) _ rfl ?_ | refine hL.ld 3 rfl (by kernel_rfl) _ rfl ?_ | refine hL.ld 4 rfl (by kernel_rfl) _ rfl ?_ | refine hL.ld 5 rfl (by kernel_rfl) _ rfl ?_ | refine hL.ld 6 rfl (by kernel_rfl) _ rfl ?_ | refine hL.ld 7 rfl (by kernel_rfl) _ rfl ?_ | refine hL.lda 0 rfl (by kernel_rfl) _ rfl ?_ | refine hL.lda 1 rfl (by kernel_rfl) _ rfl ?_ | refine hL.lda 2 rfl (by kernel_rfl) _ rfl ?_ | refine hL.lda 3 rfl (by kernel_rfl) _ rfl ?_ | refine hL.lda 4 rfl (by kernel_rfl) _ rfl ?_ | refine hL.lda 5 rfl (by kernel_rfl) _ rfl ?_ | refine hL.lda 6 rfl (by kernel_rfl) _ rfl ?_ | refine hL.lda 7 rfl (by kernel_rfl) _ rfl ?_)
    exact hno (fun x hx e => hex ⟨x, hx, e⟩) _ hL.mod
end
end Go.Proofs.Ytcookjolkhcjhaa
