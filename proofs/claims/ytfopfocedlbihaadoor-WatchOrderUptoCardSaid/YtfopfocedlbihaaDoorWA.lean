/- Parts of the proof, put together. -/
import Derived.Test.YtfopfocedlbihaaDoorDE
/- What is found in a view: the plain law. -/
namespace Go.Proofs.YtfopfocedlbihaaDoor
open Go Go.Proofs.YtfopfocedlbihaaDoor.D
set_option linter.unusedVariables false
set_option linter.unusedSimpArgs false

/-- A claim: cell, generation. -/
abbrev Clm := Int × Int
/-- A view. -/
structure PV where
  at_ : List Int
  claims : List (List Clm)
  goals : List Int
  opn : List (List Int)
  records : List Int
  epochs : List Int
  holders : List Int
  gens : List Int
  flights : Int

/-- By code, robot, cell. -/
def ltT (x y : Tri) : Bool := decide (x.1 < y.1 ∨ (x.1 = y.1 ∧ (x.2.1 < y.2.1 ∨ (x.2.1 = y.2.1 ∧ x.2.2 < y.2.2))))
abbrev leT (x y : Tri) : Bool := !ltT y x
theorem leT_trans (a b c : Tri) (h1 : leT a b = true) (h2 : leT b c = true) : leT a c = true := by
  simp only [leT, ltT, Bool.not_eq_true', decide_eq_false_iff_not] at *
  omega
theorem leT_total (a b : Tri) : (leT a b || leT b a) = true := by
  simp only [leT, ltT, Bool.or_eq_true, Bool.not_eq_true', decide_eq_false_iff_not]
  omega
theorem leT_antisymm {a b : Tri} (h1 : leT a b = true) (h2 : leT b a = true) : a = b := by
  simp only [leT, ltT, Bool.not_eq_true', decide_eq_false_iff_not] at *
  obtain ⟨a1, a2, a3⟩ := a
  obtain ⟨b1, b2, b3⟩ := b
  simp only at h1 h2
  have e1 : a1 = b1 := by omega
  have e2 : a2 = b2 := by omega
  have e3 : a3 = b3 := by omega
  rw [e1, e2, e3]
theorem ltT_of_le {a b : Tri} (h1 : leT a b = true) (h2 : a ≠ b) : ltT a b = true := by
  rcases hb : ltT a b with _ | _
  · exact (h2 (leT_antisymm h1 (by simp [leT, hb]))).elim
  · rfl
def sortT (l : List Tri) : List Tri := l.mergeSort leT
theorem sortT_perm {a b : List Tri} (h : a.Perm b) : sortT a = sortT b :=
  List.Perm.eq_of_pairwise (le := fun x y => leT x y = true) (fun _ _ _ _ h1 h2 => leT_antisymm h1 h2) (List.pairwise_mergeSort leT_trans leT_total a) (List.pairwise_mergeSort leT_trans leT_total b)
    ((List.mergeSort_perm a leT).trans (h.trans (List.mergeSort_perm b leT).symm))
theorem sortT_of {a b : List Tri} (h : a.Perm b) (hb : b.Pairwise fun x y => leT x y = true) : sortT a = b := by
  rw [sortT_perm h]; exact List.mergeSort_of_pairwise hb
def sortI (l : List Int) : List Int := l.mergeSort fun x y => decide (x ≤ y)
theorem sortI_perm {a b : List Int} (h : a.Perm b) : sortI a = sortI b :=
  List.Perm.eq_of_pairwise (le := fun x y => decide (x ≤ y) = true) (fun _ _ _ _ h1 h2 => by simp at h1 h2; omega)
    (List.pairwise_mergeSort (fun _ _ _ h1 h2 => by simp at *; omega) (fun _ _ => by simp; omega) a) (List.pairwise_mergeSort (fun _ _ _ h1 h2 => by simp at *; omega) (fun _ _ => by simp; omega) b)
    ((List.mergeSort_perm a _).trans (h.trans (List.mergeSort_perm b _).symm))
/-- Each once. -/
def cmpct {α : Type} [DecidableEq α] : List α → List α
  | [] => []
  | [a] => [a]
  | a :: b :: r => if a = b then cmpct (b :: r) else a :: cmpct (b :: r)
theorem cmpct_mem {α : Type} [DecidableEq α] {x : α} : ∀ {l : List α}, x ∈ cmpct l → x ∈ l
  | [], h => h
  | [a], h => h
  | a :: b :: r, h => by
    unfold cmpct at h
    split at h
    · exact List.mem_cons_of_mem _ (cmpct_mem h)
    · rcases List.mem_cons.1 h with rfl | h
      · exact List.mem_cons_self
      · exact List.mem_cons_of_mem _ (cmpct_mem h)
theorem cmpct_lt : ∀ {l : List Tri}, (l.Pairwise fun x y => leT x y = true) → (cmpct l).Pairwise fun x y => ltT x y = true
  | [], _ => .nil
  | [a], _ => List.pairwise_singleton _ _
  | a :: b :: r, h => by
    unfold cmpct
    have h2 := List.pairwise_cons.1 h
    have ih := cmpct_lt h2.2
    split
    · exact ih
    · rename_i hne
      refine List.pairwise_cons.2 ⟨fun x hx => ?_, ih⟩
      have hab := ltT_of_le (h2.1 b List.mem_cons_self) hne
      rcases List.mem_cons.1 (cmpct_mem hx) with rfl | hr
      · exact hab
      · have hbx := (List.pairwise_cons.1 h2.2).1 x hr
        simp only [leT, ltT, Bool.not_eq_true', decide_eq_false_iff_not, decide_eq_true_eq] at *
        omega

def saysV (v : PV) (k : Nat) (c : Clm) : Bool := decide (0 ≤ c.1) && decide (c.1 < (v.holders.length : Int)) && decide (v.holders.getD c.1.toNat 0 = (k : Int)) && decide (v.gens.getD c.1.toNat 0 = c.2)
def heldV (v : PV) (k : Nat) : Bool := (v.claims.getD k []).any fun c => decide (c.1 = v.at_.getD k 0) && saysV v k c
def twiceV (l : List Clm) : Bool := decide (16 < l.length) || decide ((cmpct (sortI (l.map (·.1)))).length ≠ l.length)
def unkV (v : PV) (k : Nat) (l : List Clm) : List Tri := (l.filter fun c => !saysV v k c).map fun c => (3, (k : Int), c.1)
def onV (b : Bool) (x : Tri) : List Tri := if b then [x] else []
def overV (v : PV) (k : Nat) : Bool := decide (8 < v.goals.getD k 0) || (v.opn.getD k []).any fun n => decide (16 < n)
def shelfV (v : PV) (k : Nat) : Bool := decide (2 * (v.holders.length : Int) + 1 < v.records.getD k 0) || decide (v.epochs.getD k 0 = 0)
/-- What is found of a robot. -/
def robV (v : PV) (k : Nat) : List Tri :=
  onV ((v.at_.take k).contains (v.at_.getD k 0)) (1, k, v.at_.getD k 0) ++ onV (!heldV v k) (2, k, v.at_.getD k 0) ++ unkV v k (v.claims.getD k []) ++
    onV (twiceV (v.claims.getD k [])) (4, k, 0) ++ onV (overV v k) (5, k, 0) ++ onV (shelfV v k) (6, k, 0)
def outV (v : PV) : List Tri := (List.range v.at_.length).flatMap (robV v) ++ onV (decide (256 < v.flights)) (7, 0, 0)
/-- What is found. -/
def lookV (v : PV) : List Tri := cmpct (sortT (outV v))

theorem onV_code {b : Bool} {x y : Tri} (h : y ∈ onV b x) : y = x := by
  unfold onV at h
  split at h
  · exact List.mem_singleton.1 h
  · simp at h
theorem lookV_code {v : PV} {x : Tri} (h : x ∈ lookV v) : 1 ≤ x.1 ∧ x.1 ≤ 7 := by
  have h1 := (List.mergeSort_perm (outV v) leT).mem_iff.1 (cmpct_mem h)
  unfold outV at h1
  rcases List.mem_append.1 h1 with h1 | h1
  · obtain ⟨k, _, h1⟩ := List.mem_flatMap.1 h1
    unfold robV at h1
    simp only [List.mem_append] at h1
    rcases h1 with ((((h1 | h1) | h1) | h1) | h1) | h1
    · rw [onV_code h1]; exact ⟨by simp, by simp⟩
    · rw [onV_code h1]; exact ⟨by simp, by simp⟩
    · unfold unkV at h1
      obtain ⟨c, _, rfl⟩ := List.mem_map.1 h1
      exact ⟨by simp, by simp⟩
    · rw [onV_code h1]; exact ⟨by simp, by simp⟩
    · rw [onV_code h1]; exact ⟨by simp, by simp⟩
    · rw [onV_code h1]; exact ⟨by simp, by simp⟩
  · rw [onV_code h1]; exact ⟨by simp, by simp⟩
theorem lookV_lt (v : PV) : (lookV v).Pairwise fun x y => ltT x y = true :=
  cmpct_lt (List.pairwise_mergeSort leT_trans leT_total _)
def turnV (v : PV) : PV := { v with claims := v.claims.map List.reverse }
theorem turnV_claims (v : PV) (k : Nat) : (turnV v).claims.getD k [] = (v.claims.getD k []).reverse := by
  unfold turnV
  simp only [List.getD_eq_getElem?_getD, List.getElem?_map]
  cases v.claims[k]? <;> rfl
theorem robV_turn (v : PV) (k : Nat) : (robV (turnV v) k).Perm (robV v k) := by
  have hs : ∀ c, saysV (turnV v) k c = saysV v k c := fun _ => rfl
  have hr := turnV_claims v k
  have hp := List.reverse_perm (v.claims.getD k [])
  have hh : heldV (turnV v) k = heldV v k := by
    unfold heldV
    rw [hr, List.any_reverse]
    rfl
  have ht : twiceV ((turnV v).claims.getD k []) = twiceV (v.claims.getD k []) := by
    unfold twiceV
    rw [hr, List.length_reverse, sortI_perm (hp.map (·.1))]
  have hu : (unkV (turnV v) k ((turnV v).claims.getD k [])).Perm (unkV v k (v.claims.getD k [])) := by
    rw [hr]
    exact (hp.filter _).map _
  unfold robV
  rw [hh, ht]
  refine List.Perm.append (List.Perm.append (List.Perm.append (List.Perm.append (.refl _) hu) (.refl _)) (.refl _)) (.refl _)
theorem lookV_turn (v : PV) : lookV (turnV v) = lookV v := by
  unfold lookV
  rw [sortT_perm]
  unfold outV
  refine List.Perm.append ?_ (.refl _)
  show ((List.range v.at_.length).flatMap (robV (turnV v))).Perm _
  induction List.range v.at_.length with
  | nil => exact .refl _
  | cons a l ih => rw [List.flatMap_cons, List.flatMap_cons]; exact (robV_turn v a).append ih
end Go.Proofs.YtfopfocedlbihaaDoor
