/- A circle is the same from each of its robots: the plain law, and the law's walk. -/
import Derived.Test.YtcookjolkhcjhaaChase5
namespace Go.Proofs.Ytcookjolkhcjhaa
open Go Go.Proofs.Ytcookjolkhcjhaa.D
set_option linter.unusedVariables false
noncomputable section

structure IsC (l : List Int) (f : Int) (n : Nat) : Prop where
  pos : 1 ≤ n
  le : n ≤ l.length
  range : ∀ i, i < n → 0 ≤ atW l f i ∧ atW l f i < (l.length : Int)
  back : atW l f n = f
  first : ∀ i, 0 < i → i < n → atW l f i ≠ f
theorem circ_spec {l : List Int} {f : Int} : ∀ (m i : Nat) (out : List Int), m + i = l.length → out = (List.range i).map (atW l f) → (∀ j, j < i → 0 ≤ atW l f j ∧ atW l f j < (l.length : Int)) → (∀ j, 0 < j → j ≤ i → atW l f j ≠ f) →
    (∃ n, IsC l f n ∧ circ l f m (atW l f i) out = (List.range n).map (atW l f)) ∨ (circ l f m (atW l f i) out = [] ∧ ∀ n, ¬ IsC l f n) := by
  intro m
  induction m with
  | zero =>
    intro i out hm ho hr hf
    refine .inr ⟨rfl, fun n h => ?_⟩
    have := h.le
    exact hf n (by have := h.pos; omega) (by omega) h.back
  | succ m ih =>
    intro i out hm ho hr hf
    unfold circ
    split
    · rename_i hx
      refine .inr ⟨rfl, fun n h => ?_⟩
      by_cases hn : n ≤ i
      · exact hf n (by have := h.pos; omega) hn h.back
      · have := h.range i (by omega)
        omega
    · rename_i hx
      have hin : 0 ≤ atW l f i ∧ atW l f i < (l.length : Int) := by omega
      have ho' : out ++ [atW l f i] = (List.range (i + 1)).map (atW l f) := by rw [List.range_succ, List.map_append, ho]; rfl
      have hr' : ∀ j, j < i + 1 → 0 ≤ atW l f j ∧ atW l f j < (l.length : Int) := by
        intro j hj
        by_cases e : j = i
        · subst e; exact hin
        · exact hr j (by omega)
      split
      · rename_i hb
        exact .inl ⟨i + 1, ⟨by omega, by omega, hr', hb, fun j h1 h2 => hf j h1 (by omega)⟩, ho'⟩
      · rename_i hb
        refine ih (i + 1) _ (by omega) ho' hr' fun j h1 h2 => ?_
        by_cases e : j = i + 1
        · subst e; exact hb
        · exact hf j h1 (by omega)
theorem circle_spec (l : List Int) (f : Int) : (∃ n, IsC l f n ∧ circle l f = (List.range n).map (atW l f)) ∨ (circle l f = [] ∧ ∀ n, ¬ IsC l f n) :=
  circ_spec l.length 0 [] (by omega) rfl (fun j h => by omega) (fun j h1 h2 => by omega)
theorem atW_add (l : List Int) (f : Int) (i k : Nat) : atW l (atW l f i) k = atW l f (i + k) := by
  induction k with
  | zero => rfl
  | succ k ih => show nxt l (atW l (atW l f i) k) = nxt l (atW l f (i + k)); rw [ih]
theorem IsC.period {l : List Int} {f : Int} {n : Nat} (h : IsC l f n) (k : Nat) : atW l f (n + k) = atW l f k := by rw [← atW_add, h.back]
theorem IsC.mod {l : List Int} {f : Int} {n : Nat} (h : IsC l f n) (k : Nat) : atW l f k = atW l f (k % n) := by
  have hp := h.pos
  induction k using Nat.strongRecOn with
  | ind k ih =>
    by_cases hk : k < n
    · rw [Nat.mod_eq_of_lt hk]
    · have e : k = n + (k - n) := by omega
      rw [e, h.period, ih (k - n) (by omega), Nat.add_mod_left]
theorem IsC.turn {l : List Int} {f : Int} {n : Nat} (h : IsC l f n) {i : Nat} (hi : i < n) : IsC l (atW l f i) n where
  pos := h.pos
  le := h.le
  range := fun k hk => by
    rw [atW_add, h.mod]
    exact h.range _ (Nat.mod_lt _ h.pos)
  back := by rw [atW_add, Nat.add_comm, h.period]
  first := fun k h1 h2 e => by
    rw [atW_add] at e
    refine h.first k h1 h2 ?_
    have e2 : atW l (atW l f (i + k)) (n - i) = atW l (atW l f i) (n - i) := by rw [e]
    rw [atW_add, atW_add, show i + k + (n - i) = n + k by omega, show i + (n - i) = n by omega, h.period, h.back] at e2
    exact e2
theorem IsC.unique {l : List Int} {f : Int} {n m : Nat} (h : IsC l f n) (k : IsC l f m) : n = m := by
  rcases Nat.lt_trichotomy n m with hlt | he | hlt
  · exact (k.first n h.pos hlt h.back).elim
  · exact he
  · exact (h.first m k.pos hlt k.back).elim
theorem IsC.circle {l : List Int} {f : Int} {n : Nat} (h : IsC l f n) : circle l f = (List.range n).map (atW l f) := by
  rcases circle_spec l f with ⟨m, h1, h2⟩ | ⟨_, h2⟩
  · rw [h.unique h1]; exact h2
  · exact (h2 n h).elim

theorem tmod_nat (a b : Nat) : Int.tmod (a : Int) (b : Int) = ((a % b : Nat) : Int) := (Int.ofNat_tmod a b).symm

theorem s5 {ws : Sl} {f : Int} {S : St} {l : List Int} (hw : Ints S ws l) : WC E0 5 [.slice ws.a ws.len ws.cap, intV f] S fun v _ => v = .bool true := by
  refine w5 ws f ?_
  unfold c5
  refine evC_of (s13 fun S1 e1 => ⟨_, rfl, ?_⟩)
  have hw1 := e1.slOf hw
  have hlen := hw.len
  refine ifW_dec (fun _ => rfl) fun h1 => ?_
  refine ifW_of (fun h => nomatch h) fun _ => ?_
  have hb : l.length ≤ 1000000 := by omega
  refine evC_of (s16 hw1 hb fun s1 S2 hg1 e2 => ⟨s1, rfl, ?_⟩)
  have hw2 := e2.slOf hw1
  have hs : Ints S2 s1 (circle l f) := hg1.of fun _ => rfl
  have hslen := hs.len
  rcases circle_spec l f with ⟨n, hc, hcl⟩ | ⟨hcl, _⟩
  · rw [hcl] at hs hslen
    have hslen : s1.len = n := by simpa using hslen
    have hnl := hc.le
    have hpos := hc.pos
    refine loopW_ind (fun q (x : Int) S' => ∃ i : Nat, x = i ∧ i ≤ n ∧ q = n - i ∧ Ext S2 S') (m := n) ⟨0, rfl, by omega, rfl, Mod.refl _ _⟩ ?_
    rintro P q x S3 ⟨i, rfl, hi, rfl, e3⟩ hP
    refine ifW_dec (fun hlt => ?_) fun _ => rfl
    have hin : i < n := by omega
    have hs3 := e3.slOf hs
    have hw3 := e3.slOf hw2
    have hl : ((List.range n).map (atW l f)).length = n := by simp
    refine hs3.get1n (g := intV) inf3 agg3 (by omega) fun b o hld _ => evV_of _ (hld S3 rfl) ?_
    rw [List.getElem_map, List.getElem_range]
    have hr := hc.range i hin
    refine hw3.get1 (g := intV) inf3 agg3 hr.1 hr.2 fun b o hld _ => evV_of _ (hld S3 rfl) ?_
    refine ⟨by simp; omega, ?_⟩
    rw [wrap_succ (by omega), hslen, tmod_nat, ← hslen]
    have hm : (i + 1) % s1.len < n := by rw [hslen]; exact Nat.mod_lt _ hpos
    refine hs3.get1n (g := intV) inf3 agg3 (by omega) fun b o hld _ => evV_of _ (hld S3 rfl) ?_
    rw [List.getElem_map, List.getElem_range]
    have e1 : l[(atW l f i).toNat]'(by omega) = atW l f ((i + 1) % s1.len) := by
      rw [hslen, ← hc.mod]
      exact (nxt_in hr.1 hr.2).symm
    refine ifW_ndec (fun h => (h e1).elim) fun _ => ?_
    refine hs3.get1n (n := 0) (g := intV) inf3 agg3 (by omega) fun b o hld _ => evV_of _ (hld S3 rfl) ?_
    rw [List.getElem_map, List.getElem_range]
    refine ifW_ndec (fun h => (h rfl).elim) fun _ => ?_
    refine hs3.get1n (g := intV) inf3 agg3 (by omega) fun b o hld _ => evV_of _ (hld S3 rfl) ?_
    rw [List.getElem_map, List.getElem_range]
    refine evC_of (s16 hw3 hb fun s2 S4 hg2 e4 => ⟨s2, rfl, ?_⟩)
    have ht := hc.turn hin
    have hs2 : Ints S4 s2 (circle l (atW l f i)) := hg2.of fun _ => rfl
    rw [ht.circle] at hs2
    have hl2 : ((List.range n).map (atW l (atW l f i))).length = n := by simp
    have hs2len : s2.len = n := by have := hs2.len; omega
    refine ifW_ndec (fun h => (h (by omega)).elim) fun _ => ?_
    have e34 := e3.tr e4
    refine loopW_ind (fun q (x : Int) S' => ∃ k : Nat, x = k ∧ k ≤ n ∧ q = n - k ∧ S' = S4) (m := n) ⟨0, rfl, by omega, rfl, rfl⟩ ?_
    rintro P2 q x S5 ⟨k, rfl, hk, rfl, rfl⟩ hP2
    refine ifW_dec (fun hlt2 => ?_) fun hlt2 => ?_
    · have hkn : k < n := by omega
      refine hs2.get1n (g := intV) inf3 agg3 (by omega) fun b o hld _ => evV_of _ (hld S5 rfl) ?_
      rw [List.getElem_map, List.getElem_range]
      refine ⟨by simp; omega, ?_⟩
      rw [wrap_i64 (by omega) (by omega), show ((i : Int) + (k : Int)) = ((i + k : Nat) : Int) by omega, hslen, tmod_nat, ← hslen]
      have hm2 : (i + k) % s1.len < n := by rw [hslen]; exact Nat.mod_lt _ hpos
      refine (e4.slOf hs3).get1n (g := intV) inf3 agg3 (by omega) fun b o hld _ => evV_of _ (hld S5 rfl) ?_
      rw [List.getElem_map, List.getElem_range]
      have e5 : atW l (atW l f i) k = atW l f ((i + k) % s1.len) := by rw [hslen, ← hc.mod, atW_add]
      refine ifW_ndec (fun h => (h e5).elim) fun _ => ?_
      rw [wrap_succ (by omega)]
      exact hP2 _ _ _ (by omega) ⟨k + 1, rfl, by omega, rfl, rfl⟩
    · exact hP _ _ _ (by omega) ⟨i + 1, rfl, by omega, rfl, e34⟩
  · rw [hcl] at hslen
    refine loopW_ind (fun q (x : Int) S' => x = 0) (m := 0) rfl ?_
    rintro P q x S3 rfl hP
    exact ifW_dec (fun hlt => by simp at hslen; omega) fun _ => rfl
end
end Go.Proofs.Ytcookjolkhcjhaa
