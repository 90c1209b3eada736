/- Parts of the proof, put together. -/
import Derived.Test.YtcookjolkhcjhaaBC
/- Bags: bytes as they were sent. -/
namespace Go.Proofs.Ytcookjolkhcjhaa
open Go Go.Proofs.Ytcookjolkhcjhaa.D
set_option linter.unusedVariables false
set_option linter.unusedSimpArgs false
noncomputable section

/-- How many of the first i bytes are other ones. -/
def neB (d : List Int) (w : List UInt8) (j : Nat) : Bool := decide (d.getD j 0 ≠ ((w.getD j 0).toNat : Int))
def nCnt (d : List Int) (w : List UInt8) (i : Nat) : Nat := (List.range i).countP (neB d w)
theorem nCnt_succ (d : List Int) (w : List UInt8) (i : Nat) : nCnt d w (i + 1) = nCnt d w i + if neB d w i = true then 1 else 0 := by
  unfold nCnt
  rw [List.range_succ, List.countP_append, List.countP_singleton]
theorem nCnt_le (d : List Int) (w : List UInt8) (i : Nat) : nCnt d w i ≤ i := by
  unfold nCnt
  have := List.countP_le_length (p := neB d w) (l := List.range i)
  simpa using this
def KeptP (p : Pk) (w : List UInt8) : Prop := p.2.2.2.1.length = w.length ∧ nCnt p.2.2.2.1 w w.length = if p.2.2.2.2 = true then 1 else 0
theorem und9b : E0.und 9 = some .string := und9
theorem b28 {S : St} {p : Pk} {d : Sl} {w : List UInt8} {k : Value → St → Prop} (h : SlOf cellB 1 S d p.2.2.2.1) (hk' : KeptP p w) (hl : p.2.2.2.1.length ≤ 1000000) (hk : ∀ S', Ext S S' → k (.bool true) S') :
    WC E0 28 [sv G66 (fltOf p d), .string ⟨w.toArray⟩] S k := by
  obtain ⟨p1, p2, p3, p4, p5⟩ := p
  obtain ⟨h1, h2⟩ := hk'
  dsimp only at h h1 h2 hl
  refine w28 _ _ ?_
  unfold c28
  have hL := Hld.start noB S
  refine hL.new fun b1 S1 hL hb1 hn1 => ?_
  have e1 := hL.mod
  have hd1 : SlOf cellB 1 S1 d p4 := e1.slOf h fun _ _ _ _ h => h
  have hdl := hd1.len
  refine ptrW_of ?_
  (first | refine hL.ld 0 rfl (by kernel_rfl) _ rfl ?_ | refine hL.ld 1 rfl (by kernel_rfl) _ rfl ?_ | refine hL.ld 2 rfl (by kernel_rfl) _ rfl ?_ | refine hL.ld 3 rfl (by kernel_rfl) _ rfl ?_ | refine hL.ld 4 rfl (by kernel_rfl) _ rfl ?_ | refine hL.ld 5 rfl (by kernel_rfl) _ rfl ?_ | refine hL.ld 6 rfl (by kernel_rfl) _ rfl ?_ | refine hL.ld 7 rfl (by kernel_rfl) _ rfl ?_ | refine hL.lda 0 rfl (by kernel_rfl) _ rfl ?_ | refine hL.lda 1 rfl (by kernel_rfl) _ rfl ?_ | refine hL.lda 2 rfl (by kernel_rfl) _ rfl ?_ | refine hL.lda 3 rfl (by kernel_rfl) _ rfl ?_ | refine hL.lda 4 rfl (by kernel_rfl) _ rfl ?_ | refine hL.lda 5 rfl (by kernel_rfl) _ rfl ?_ | refine hL.lda 6 rfl (by kernel_rfl) _ rfl ?_ | refine hL.lda 7 rfl (by kernel_rfl) _ rfl ?_)
  dsimp only
  refine ifW_ndec (fun hh => (hh (by omega)).elim) fun _ => ?_
  refine ptrW_of ?_
  (first | refine hL.ld 0 rfl (by kernel_rfl) _ rfl ?_ | refine hL.ld 1 rfl (by kernel_rfl) _ rfl ?_ | refine hL.ld 2 rfl (by kernel_rfl) _ rfl ?_ | refine hL.ld 3 rfl (by kernel_rfl) _ rfl ?_ | refine hL.ld 4 rfl (by kernel_rfl) _ rfl ?_ | refine hL.ld 5 rfl (by kernel_rfl) _ rfl ?_ | refine hL.ld 6 rfl (by kernel_rfl) _ rfl ?_ | refine hL.ld 7 rfl (by kernel_rfl) _ rfl ?_ | refine hL.lda 0 rfl (by kernel_rfl) _ rfl ?_ | refine hL.lda 1 rfl (by kernel_rfl) _ rfl ?_ | refine hL.lda 2 rfl (by kernel_rfl) _ rfl ?_ | refine hL.lda 3 rfl (by kernel_rfl) _ rfl ?_ | refine hL.lda 4 rfl (by kernel_rfl) _ rfl ?_ | refine hL.lda 5 rfl (by kernel_rfl) _ rfl ?_ | refine hL.lda 6 rfl (by kernel_rfl) _ rfl ?_ | refine hL.lda 7 rfl (by kernel_rfl) _ rfl ?_)
  dsimp only
  refine loopW_ind (fun q (x : Int × Int) S' => ∃ n : Nat, x.2 = n ∧ x.1 = nCnt p4 w n ∧ n ≤ p4.length ∧ q = p4.length - n ∧ S' = S1) (m := p4.length) ⟨0, rfl, rfl, by omega, rfl, rfl⟩ ?_
  rintro P q ⟨ot, x⟩ S2 ⟨n, rfl, rfl, hn, rfl, rfl⟩ hP
  have hc := nCnt_le p4 w n
  dsimp only
  refine ifW_dec (fun hlt => ?_) fun hlt => ?_
  · have hn3 : n < p4.length := by omega
    refine ptrW_of ?_
    (first | refine hL.ld 0 rfl (by kernel_rfl) _ rfl ?_ | refine hL.ld 1 rfl (by kernel_rfl) _ rfl ?_ | refine hL.ld 2 rfl (by kernel_rfl) _ rfl ?_ | refine hL.ld 3 rfl (by kernel_rfl) _ rfl ?_ | refine hL.ld 4 rfl (by kernel_rfl) _ rfl ?_ | refine hL.ld 5 rfl (by kernel_rfl) _ rfl ?_ | refine hL.ld 6 rfl (by kernel_rfl) _ rfl ?_ | refine hL.ld 7 rfl (by kernel_rfl) _ rfl ?_ | refine hL.lda 0 rfl (by kernel_rfl) _ rfl ?_ | refine hL.lda 1 rfl (by kernel_rfl) _ rfl ?_ | refine hL.lda 2 rfl (by kernel_rfl) _ rfl ?_ | refine hL.lda 3 rfl (by kernel_rfl) _ rfl ?_ | refine hL.lda 4 rfl (by kernel_rfl) _ rfl ?_ | refine hL.lda 5 rfl (by kernel_rfl) _ rfl ?_ | refine hL.lda 6 rfl (by kernel_rfl) _ rfl ?_ | refine hL.lda 7 rfl (by kernel_rfl) _ rfl ?_)
    dsimp only
    refine hd1.idxL (f := cellB) (sz := 1) (l := p4) (n := n) (fun _ => rfl) hdl hn3 fun b0 o0 cs0 m0 r0 f0 at0 _ hv0 => ?_
    refine evV_of p4[n] ((load_one at0 (by kernel_rfl)).trans (at_take hv0 (j := 0) (by omega))) ?_
    refine evV_of (w[n]'(by omega)).toNat (indexD_str und9 (by omega)) ?_
    have hne : neB p4 w n = decide (p4[n] ≠ ((w[n]'(by omega)).toNat : Int)) := by
      unfold neB
      have hw3 : n < w.length := by omega
      simp [hn3, hw3]
    have hs := nCnt_succ p4 w n
    refine ifW_ndec (fun hx => ?_) fun hx => ?_
    · rw [wrap_succ (n := n) (by omega), wrap_succ (n := nCnt p4 w n) (by omega)]
      refine hP _ _ _ (by omega) ⟨n + 1, rfl, ?_, by omega, rfl, rfl⟩
      rw [hs, if_pos (by rw [hne]; simpa using hx)]
    · rw [wrap_succ (n := n) (by omega)]
      refine hP _ _ _ (by omega) ⟨n + 1, rfl, ?_, by omega, rfl, rfl⟩
      rw [hs, if_neg (by rw [hne]; simpa using hx)]; rfl
  · have hnl : n = w.length := by omega
    subst hnl
    rw [h2]
    refine ptrW_of ?_
    (first | refine hL.ld 0 rfl (by kernel_rfl) _ rfl ?_ | refine hL.ld 1 rfl (by kernel_rfl) _ rfl ?_ | refine hL.ld 2 rfl (by kernel_rfl) _ rfl ?_ | refine hL.ld 3 rfl (by kernel_rfl) _ rfl ?_ | refine hL.ld 4 rfl (by kernel_rfl) _ rfl ?_ | refine hL.ld 5 rfl (by kernel_rfl) _ rfl ?_ | refine hL.ld 6 rfl (by kernel_rfl) _ rfl ?_ | refine hL.ld 7 rfl (by kernel_rfl) _ rfl ?_ | refine hL.lda 0 rfl (by kernel_rfl) _ rfl ?_ | refine hL.lda 1 rfl (by kernel_rfl) _ rfl ?_ | refine hL.lda 2 rfl (by kernel_rfl) _ rfl ?_ | refine hL.lda 3 rfl (by kernel_rfl) _ rfl ?_ | refine hL.lda 4 rfl (by kernel_rfl) _ rfl ?_ | refine hL.lda 5 rfl (by kernel_rfl) _ rfl ?_ | refine hL.lda 6 rfl (by kernel_rfl) _ rfl ?_ | refine hL.lda 7 rfl (by kernel_rfl) _ rfl ?_)
    cases p5 with
    | true =>
      refine ifW_of (fun _ => ?_) fun h => by cases h
      refine ifW_pos rfl ?_
      exact hk _ e1
    | false =>
      refine ifW_of (fun h => by cases h) fun _ => ?_
      refine ptrW_of ?_
      (first | refine hL.ld 0 rfl (by kernel_rfl) _ rfl ?_ | refine hL.ld 1 rfl (by kernel_rfl) _ rfl ?_ | refine hL.ld 2 rfl (by kernel_rfl) _ rfl ?_ | refine hL.ld 3 rfl (by kernel_rfl) _ rfl ?_ | refine hL.ld 4 rfl (by kernel_rfl) _ rfl ?_ | refine hL.ld 5 rfl (by kernel_rfl) _ rfl ?_ | refine hL.ld 6 rfl (by kernel_rfl) _ rfl ?_ | refine hL.ld 7 rfl (by kernel_rfl) _ rfl ?_ | refine hL.lda 0 rfl (by kernel_rfl) _ rfl ?_ | refine hL.lda 1 rfl (by kernel_rfl) _ rfl ?_ | refine hL.lda 2 rfl (by kernel_rfl) _ rfl ?_ | refine hL.lda 3 rfl (by kernel_rfl) _ rfl ?_ | refine hL.lda 4 rfl (by kernel_rfl) _ rfl ?_ | refine hL.lda 5 rfl (by kernel_rfl) _ rfl ?_ | refine hL.lda 6 rfl (by kernel_rfl) _ rfl ?_ | refine hL.lda 7 rfl (by kernel_rfl) _ rfl ?_)
      refine ifW_of (fun _ => ?_) fun h => by cases h
      have : eqI (((if (false = true) then 1 else 0 : Nat)) : Int) 0 = true := by rw [eqI_eq]; rfl
      rw [this]
      exact hk _ e1
/-! ### Texts by numbers -/
def entOf (p : Int × List UInt8 × Nat) : MapEntry := { key := .int .i64 p.1, val := .agg #[.string ⟨p.2.1.toArray⟩], born := p.2.2 }
/-- A map of texts in block b: g; nothing stands for the empty text. -/
def MapIs (S : St) (b : Nat) (g : Int → List UInt8) : Prop := ∃ (l : List (Int × List UInt8 × Nat)) (clock : Nat), At S b (.map (l.map entOf) clock) ∧ ∀ n, g n = match l.find? (fun p => decide (n = p.1)) with | some p => p.2.1 | none => []
theorem map_find (S : St) (n : Int) : ∀ (l : List (Int × List UInt8 × Nat)) (i : Nat), findD E0 S 3 (.int .i64 n) (l.map entOf) i = some ((l.findIdx? (fun p => decide (n = p.1))).map fun j => (i + j, entOf (l.getD j (0, [], 0)))) := by
  intro l
  induction l with
  | nil => intro i; rfl
  | cons p l ih =>
    intro i
    have hk : keyEq E0 S 3 (.int .i64 n) (entOf p).key = some (decide (n = p.1)) := rfl
    rw [List.map_cons, findD, hk, Option.bind_some, List.findIdx?_cons, ih]
    cases hd : decide (n = p.1) with
    | true => simp
    | false =>
      simp only [cond_false, Bool.false_eq_true, if_false, Option.map_map]
      congr 1
      cases l.findIdx? (fun p => decide (n = p.1)) with
      | none => rfl
      | some j => simp; omega
theorem find_idx {α : Type} (f : α → Bool) (z : α) : ∀ l : List α, l.find? f = (l.findIdx? f).map fun j => l.getD j z := by
  intro l
  induction l with
  | nil => rfl
  | cons p l ih =>
    rw [List.find?_cons, List.findIdx?_cons]
    cases f p with
    | true => simp
    | false => simp only [Bool.false_eq_true, if_false, ih, Option.map_map]; congr 1
theorem und60 : E0.und 60 = some (.map 3 (match E0.und 60 with | some (.map _ e) => e | _ => 0)) := by kernel_rfl
theorem keyT (n : Int) : keyType E0 3 (.int .i64 n) = true := by kernel_rfl
theorem map_get {S : St} {b : Nat} {g : Int → List UInt8} (h : MapIs S b g) (n : Int) : lookupD E0 S 60 (.map (some b)) (.int .i64 n) false = some (.agg #[.string ⟨(g n).toArray⟩]) := by
  obtain ⟨l, clock, h1, h2⟩ := h
  have hz : E0.zero (match E0.und 60 with | some (.map _ e) => e | _ => 0) = some (.agg #[.string ⟨#[]⟩]) := by kernel_rfl
  unfold lookupD
  rw [und60]
  simp only [keyT, cond_true, h1.get, map_find, Option.bind_some, Nat.zero_add]
  rw [h2, find_idx _ (0, [], 0)]
  cases l.findIdx? (fun p => decide (n = p.1)) with
  | none => simp only [Option.map_none, hz, Option.map_some, cond_false]
  | some j => simp only [Option.map_some, cond_false, entOf]
theorem find_modify {n m : Int} {v : List UInt8} : ∀ {l : List (Int × List UInt8 × Nat)} {j : Nat}, l.findIdx? (fun p => decide (n = p.1)) = some j →
    (match (l.modify j fun p => (n, v, p.2.2)).find? (fun p => decide (m = p.1)) with | some p => p.2.1 | none => []) = if m = n then v else match l.find? (fun p => decide (m = p.1)) with | some p => p.2.1 | none => [] := by
  intro l
  induction l with
  | nil => intro j h; simp at h
  | cons p l ih =>
    intro j h
    rw [List.findIdx?_cons] at h
    by_cases hp : n = p.1
    · rw [if_pos (by simpa using hp)] at h
      cases h
      rw [show (p :: l).modify 0 (fun p => (n, v, p.2.2)) = (n, v, p.2.2) :: l from rfl, List.find?_cons, List.find?_cons]
      by_cases hm : m = n
      · subst hm; simp
      · have h1 : decide (m = p.1) = false := by rw [← hp]; simpa using hm
        rw [if_neg hm]
        simp only [h1]
        have h2 : decide (m = n) = false := by simpa using hm
        simp only [h2]
    · rw [if_neg (by simpa using hp)] at h
      rw [Option.map_eq_some_iff] at h
      obtain ⟨i, h1, rfl⟩ := h
      rw [List.modify_succ_cons, List.find?_cons, List.find?_cons]
      by_cases hm : m = p.1
      · have h2 : decide (m = p.1) = true := by simpa using hm
        simp only [h2]
        rw [if_neg (by omega)]
      · have h2 : decide (m = p.1) = false := by simpa using hm
        simp only [h2]
        exact ih h1
theorem find_push {n m : Int} {v : List UInt8} {c : Nat} {l : List (Int × List UInt8 × Nat)} (h : l.findIdx? (fun p => decide (n = p.1)) = none) :
    (match (l ++ [(n, v, c)]).find? (fun p => decide (m = p.1)) with | some p => p.2.1 | none => []) = if m = n then v else match l.find? (fun p => decide (m = p.1)) with | some p => p.2.1 | none => [] := by
  rw [List.find?_append]
  by_cases hm : m = n
  · subst hm
    rw [find_idx _ (0, [], 0), h]
    simp
  · rw [if_neg hm]
    have h2 : decide (m = n) = false := by simpa using hm
    cases l.find? (fun p => decide (m = p.1)) with
    | none => simp [h2]
    | some q => simp
theorem map_set {S : St} {b : Nat} {g : Int → List UInt8} (h : MapIs S b g) (n : Int) (v : List UInt8) {k : St → Prop}
    (hk : ∀ S', MapIs S' b (fun m => if m = n then v else g m) → Mod (fun c => c = b) S S' → S'.next = S.next → k S') : evS (mapUpdateD E0 S 60 (.map (some b)) (.int .i64 n) (.agg #[.string ⟨v.toArray⟩])) k := by
  obtain ⟨l, clock, h1, h2⟩ := h
  unfold mapUpdateD mapPut
  rw [und60]
  simp only [keyT, cond_true, h1.get, map_find, Option.bind_some, Nat.zero_add]
  cases hi : l.findIdx? (fun p => decide (n = p.1)) with
  | none =>
    simp only [Option.map_none]
    refine ⟨_, rfl, hk _ ⟨l ++ [(n, v, clock)], clock + 1, ?_, fun m => ?_⟩ upd_mod rfl⟩
    · rw [List.map_append]; exact upd_at h1
    · rw [find_push hi, ← h2 m]
  | some j =>
    have hj : ∃ hj : j < l.length, n = l[j].1 := by
      rw [List.findIdx?_eq_some_iff_getElem] at hi
      obtain ⟨hj, h3, _⟩ := hi
      exact ⟨hj, by simpa using h3⟩
    obtain ⟨hj, hn⟩ := hj
    have hsb : Instr.sameBits 10000 (entOf (l.getD j (0, [], 0))).key (.int .i64 n) = true := by
      have : (entOf (l.getD j (0, [], 0))).key = .int .i64 n := by simp [entOf, hj, ← hn]
      rw [this]
      simp [Instr.sameBits]
    simp only [Option.map_some, hsb, cond_true]
    have he : ((l.map entOf).modify j fun e => { e with key := .int .i64 n, val := .agg #[.string ⟨v.toArray⟩] }) = (l.modify j fun p => (n, v, p.2.2)).map entOf := by
      apply List.ext_getElem?
      intro i
      rw [List.getElem?_modify, List.getElem?_map, List.getElem?_map, List.getElem?_modify]
      split
      · cases l[i]? <;> rfl
      · cases l[i]? <;> rfl
    rw [he]
    refine ⟨_, rfl, hk _ ⟨_, clock, upd_at h1, fun m => ?_⟩ upd_mod rfl⟩
    rw [find_modify hi, ← h2 m]
theorem MapIs.frm {b : Nat} {g : Int → List UInt8} : Frm (fun c => c = b) (fun S => MapIs S b g) := fun F S S' m hF h => by
  obtain ⟨l, clock, h1, h2⟩ := h
  exact ⟨l, clock, m.at h1 (hF b rfl), h2⟩
/-! ### Bytes that are spoilt -/
theorem byte_ofInt {a : Int} (h : 0 ≤ a ∧ a < 256) : (BitVec.ofInt 8 a).toNat = a.toNat := by
  obtain ⟨n, rfl⟩ : ∃ n : Nat, a = n := ⟨a.toNat, by omega⟩
  simp
  omega
theorem byteX_eq (a w : Int) : byteX a w = ((BitVec.ofInt 8 a ^^^ BitVec.ofInt 8 w).toNat : Int) := by
  unfold byteX xorI
  have : ∀ n : Nat, n < 256 → IntKind.u8.wrap (n : Int) = n := by
    intro n hn
    simp [IntKind.wrap, IntKind.bits, IntKind.signed]
    omega
  exact this _ (BitVec.isLt _)
theorem byteX_range (a w : Int) : 0 ≤ byteX a w ∧ byteX a w < 256 := by
  rw [byteX_eq]
  have := (BitVec.ofInt 8 a ^^^ BitVec.ofInt 8 w).isLt
  omega
theorem byteX_ne {a w : Int} (ha : 0 ≤ a ∧ a < 256) (hw : 0 ≤ w ∧ w < 256) (h0 : w ≠ 0) : byteX a w ≠ a := by
  rw [byteX_eq]
  intro h
  have h1 : (BitVec.ofInt 8 a ^^^ BitVec.ofInt 8 w).toNat = (BitVec.ofInt 8 a).toNat := by rw [byte_ofInt ha]; omega
  have h2 : BitVec.ofInt 8 a ^^^ BitVec.ofInt 8 w = BitVec.ofInt 8 a := BitVec.eq_of_toNat_eq h1
  have h3 : BitVec.ofInt 8 w = 0#8 := by
    have : BitVec.ofInt 8 a ^^^ (BitVec.ofInt 8 a ^^^ BitVec.ofInt 8 w) = BitVec.ofInt 8 a ^^^ BitVec.ofInt 8 a := by rw [h2]
    rw [← BitVec.xor_assoc, BitVec.xor_self, BitVec.zero_xor] at this
    exact this
  have h4 := byte_ofInt hw
  rw [h3] at h4
  simp at h4
  omega
end
end Go.Proofs.Ytcookjolkhcjhaa

/- Bags: what was sent is kept. -/
namespace Go.Proofs.Ytcookjolkhcjhaa
open Go Go.Proofs.Ytcookjolkhcjhaa.D
set_option linter.unusedVariables false
set_option linter.unusedSimpArgs false
noncomputable section

/-- What holds of a bag and of what was sent. -/
structure Keeps (st : BagS) (g : Int → List UInt8) : Prop where
  pos : ∀ p ∈ st.l, 1 ≤ p.1
  kept : ∀ p ∈ st.l, KeptP p (g p.1)
  rng : ∀ p ∈ st.l, ∀ y ∈ p.2.2.2.1, 0 ≤ y ∧ y < 256
  cnt : st.c.1 + st.c.2.2.2.1 - st.c.2.1 - st.c.2.2.1 - st.c.2.2.2.2.2 = st.l.length
theorem nCnt_self {d : List Int} (h : ∀ y ∈ d, 0 ≤ y ∧ y < 256) : nCnt d (byU d) d.length = 0 := by
  unfold nCnt
  rw [List.countP_eq_zero]
  intro j hj
  have hj := List.mem_range.1 hj
  have := h d[j] (List.getElem_mem _)
  simp [neB, byU, hj]
  omega
theorem keptP_self {a b c : Int} {d : List Int} (h : ∀ y ∈ d, 0 ≤ y ∧ y < 256) : KeptP (a, b, c, d, false) (byU d) := by
  refine ⟨by simp [byU], ?_⟩
  have : (byU d).length = d.length := by simp [byU]
  rw [this]
  exact nCnt_self h
theorem one_cnt {f : Nat → Bool} {a : Nat} : ∀ n, (∀ j, j < n → f j = decide (j = a)) → (List.range n).countP f = if a < n then 1 else 0 := by
  intro n
  induction n with
  | zero => intro _; rfl
  | succ n ih =>
    intro h
    rw [List.range_succ, List.countP_append, ih fun j hj => h j (by omega), List.countP_singleton, h n (by omega)]
    by_cases hn : n = a
    · subst hn; simp
    · by_cases h1 : a < n
      · simp [hn, h1, show a < n + 1 by omega]
      · simp [hn, h1, show ¬ a < n + 1 by omega]
theorem keptP_spoil {p : Pk} {g : List UInt8} (h : KeptP p g) (hs : p.2.2.2.2 = false) {a : Nat} (ha : a < p.2.2.2.1.length) {v : Int} (hv : v ≠ p.2.2.2.1.getD a 0) : KeptP (p.1, p.2.1, p.2.2.1, p.2.2.2.1.set a v, true) g := by
  obtain ⟨p1, p2, p3, p4, p5⟩ := p
  dsimp only at h hs ha hv ⊢
  subst hs
  obtain ⟨h1, h2⟩ := h
  dsimp only at h1 h2
  refine ⟨by simpa using h1, ?_⟩
  have h3 : ∀ j, j < g.length → neB p4 g j = false := by
    unfold nCnt at h2
    rw [show (if (false = true) then 1 else 0 : Nat) = 0 from rfl, List.countP_eq_zero] at h2
    intro j hj
    simpa using h2 j (List.mem_range.2 hj)
  show nCnt (p4.set a v) g g.length = 1
  unfold nCnt
  rw [one_cnt (a := a) g.length, if_pos (by omega)]
  intro j hj
  have e := h3 j hj
  have hj4 : j < p4.length := by omega
  unfold neB at e ⊢
  by_cases hja : j = a
  · subst hja
    simp [hj4, hj] at e ⊢
    simp [hj4] at hv
    omega
  · have hja' : a ≠ j := fun e => hja e.symm
    simp [hj4, hj, List.getElem_set, hja, hja'] at e ⊢
    exact e
theorem Keeps.send {st : BagS} {g : Int → List UInt8} (h : Keeps st g) (srt : Srt st) (h0 : 0 ≤ st.last) (fr to : Int) {d : List Int} (hd : ∀ y ∈ d, 0 ≤ y ∧ y < 256) :
    Keeps (sendS st fr to d).2 (fun m => if m = (sendS st fr to d).1 then byU d else g m) := by
  have hc := h.cnt
  unfold sendS putS
  split
  · refine ⟨fun p hp => ?_, fun p hp => ?_, fun p hp => ?_, by simp only [List.length_append, List.length_singleton]; omega⟩
    · rcases List.mem_append.1 hp with hp | hp
      · exact h.pos p hp
      · simp only [List.mem_cons, List.not_mem_nil, or_false] at hp; subst hp; simp only; omega
    · rcases List.mem_append.1 hp with hp | hp
      · have := srt.le p.1 (List.mem_map_of_mem hp)
        simp only
        rw [if_neg (by omega)]
        exact h.kept p hp
      · simp only [List.mem_cons, List.not_mem_nil, or_false] at hp; subst hp
        simp only [if_true]
        exact keptP_self hd
    · rcases List.mem_append.1 hp with hp | hp
      · exact h.rng p hp
      · simp only [List.mem_cons, List.not_mem_nil, or_false] at hp; subst hp; exact hd
  · refine ⟨h.pos, fun p hp => ?_, h.rng, by simp only; omega⟩
    have := h.pos p hp
    simp only
    rw [if_neg (by omega)]
    exact h.kept p hp
theorem Keeps.take {st : BagS} {g : Int → List UInt8} (h : Keeps st g) (n : Int) {f : Cnt → Cnt} (hf : f = cDel ∨ f = cDrop) : Keeps (takeS st n f).2 g := by
  have hc := h.cnt
  unfold takeS
  cases hi : idxS st.l n with
  | none => exact h
  | some i =>
    obtain ⟨hil, _⟩ := idxS_lt hi
    have hl := List.length_eraseIdx_of_lt hil
    refine ⟨fun p hp => h.pos p (List.mem_of_mem_eraseIdx hp), fun p hp => h.kept p (List.mem_of_mem_eraseIdx hp), fun p hp => h.rng p (List.mem_of_mem_eraseIdx hp), ?_⟩
    rcases hf with rfl | rfl <;> simp only [cDel, cDrop, hl] <;> omega
theorem Keeps.taken {st : BagS} {g : Int → List UInt8} (h : Keeps st g) (n : Int) (f : Cnt → Cnt) (he : (takeS st n f).1.2 = 0) : KeptP (takeS st n f).1.1 (g (takeS st n f).1.1.1) := by
  unfold takeS at he ⊢
  cases hi : idxS st.l n with
  | none => rw [hi] at he; cases he
  | some i =>
    obtain ⟨hil, _⟩ := idxS_lt hi
    have e : st.l.getD i noPk = st.l[i] := by simp [hil]
    simp only [e]
    exact h.kept _ (List.getElem_mem _)
theorem Keeps.spoil {st : BagS} {g : Int → List UInt8} (h : Keeps st g) (n a : Int) {w : Int} (hw : 0 ≤ w ∧ w < 256) : Keeps (spoilS st n a w).2 g := by
  have hc := h.cnt
  unfold spoilS
  cases hi : idxS st.l n with
  | none => exact h
  | some i =>
    obtain ⟨hil, _⟩ := idxS_lt hi
    simp only [List.getElem?_eq_getElem hil]
    split
    · exact h
    · rename_i hno
      simp only [not_or] at hno
      obtain ⟨g1, g2, g3, g4⟩ := hno
      have hm := List.getElem_mem hil
      have hat : a.toNat < st.l[i].2.2.2.1.length := by omega
      have hb := h.rng _ hm _ (List.getElem_mem hat)
      have e : st.l[i].2.2.2.1.getD a.toNat 0 = st.l[i].2.2.2.1[a.toNat] := by simp [hat]
      refine ⟨fun p hp => ?_, fun p hp => ?_, fun p hp => ?_, by simp only [List.length_set]; omega⟩
      · rcases List.mem_or_eq_of_mem_set hp with hp | rfl
        · exact h.pos p hp
        · exact h.pos st.l[i] hm
      · rcases List.mem_or_eq_of_mem_set hp with hp | rfl
        · exact h.kept p hp
        · exact keptP_spoil (h.kept _ hm) (by simpa using g1) hat (by rw [e]; exact byteX_ne hb hw g4)
      · rcases List.mem_or_eq_of_mem_set hp with hp | rfl
        · exact h.rng p hp
        · intro y hy
          rcases List.mem_or_eq_of_mem_set hy with hy | rfl
          · exact h.rng _ hm y hy
          · exact byteX_range _ _
theorem Keeps.double {st : BagS} {g : Int → List UInt8} (h : Keeps st g) (srt : Srt st) (h0 : 0 ≤ st.last) (n : Int) :
    Keeps (doubleS st n).2 (if (doubleS st n).1.2 = 0 ∧ (doubleS st n).1.1 ≠ 0 then (fun m => if m = (doubleS st n).1.1 then g n else g m) else g) ∧ ((doubleS st n).1.2 = 0 → (doubleS st n).1.1 ≠ 0 → (doubleS st n).1.1 = st.last + 1 ∧ (doubleS st n).2.last = st.last + 1) ∧ (((doubleS st n).1.2 ≠ 0 ∨ (doubleS st n).1.1 = 0) → (doubleS st n).2.last = st.last) := by
  have hc := h.cnt
  unfold doubleS
  cases hi : idxS st.l n with
  | none => exact ⟨by simpa using h, fun h => by simp at h, fun _ => rfl⟩
  | some i =>
    obtain ⟨hil, hin, _⟩ := idxS_lt hi
    simp only [List.getElem?_eq_getElem hil]
    unfold putS
    split
    · simp only
      refine ⟨?_, fun _ _ => by simp, fun h => by simp at h; omega⟩
      rw [if_pos ⟨trivial, by omega⟩]
      refine ⟨fun p hp => ?_, fun p hp => ?_, fun p hp => ?_, by simp only [List.length_append, List.length_singleton]; omega⟩
      · rcases List.mem_append.1 hp with hp | hp
        · exact h.pos p hp
        · simp only [List.mem_cons, List.not_mem_nil, or_false] at hp; subst hp; simp only; omega
      · rcases List.mem_append.1 hp with hp | hp
        · have := srt.le p.1 (List.mem_map_of_mem hp)
          rw [if_neg (by omega)]
          exact h.kept p hp
        · simp only [List.mem_cons, List.not_mem_nil, or_false] at hp; subst hp
          simp only [if_true]
          rw [← hin]
          exact h.kept _ (List.getElem_mem hil)
      · rcases List.mem_append.1 hp with hp | hp
        · exact h.rng p hp
        · simp only [List.mem_cons, List.not_mem_nil, or_false] at hp; subst hp; exact h.rng st.l[i] (List.getElem_mem hil)
    · simp only
      refine ⟨?_, fun _ h => by simp at h, fun _ => by simp⟩
      rw [if_neg (by simp)]
      exact ⟨h.pos, h.kept, h.rng, by simp only; omega⟩
theorem sendS_last {st : BagS} (h0 : 0 ≤ st.last) (fr to : Int) (d : List Int) : ((sendS st fr to d).1 ≠ 0 → st.last < (sendS st fr to d).1) ∧ (sendS st fr to d).2.last = max st.last (sendS st fr to d).1 := by
  unfold sendS putS
  split
  · exact ⟨fun _ => by simp only; omega, by simp only; omega⟩
  · exact ⟨fun h => by simp at h, by simp only; omega⟩
theorem takeS_last (st : BagS) (n : Int) (f : Cnt → Cnt) : (takeS st n f).2.last = st.last := by
  unfold takeS
  cases idxS st.l n <;> rfl
theorem spoilS_last (st : BagS) (n a w : Int) : (spoilS st n a w).2.last = st.last := by
  unfold spoilS
  cases idxS st.l n with
  | none => rfl
  | some i => simp only; split
              · rfl
              · split <;> rfl
theorem bag0_keeps : Keeps bag0 (fun _ => []) := ⟨by simp, by simp, by simp, by simp⟩
end
end Go.Proofs.Ytcookjolkhcjhaa

/- Bags: what was sent is kept: the run. -/
namespace Go.Proofs.Ytcookjolkhcjhaa
open Go Go.Proofs.Ytcookjolkhcjhaa.D
set_option linter.unusedVariables false
set_option linter.unusedSimpArgs false
noncomputable section

theorem conv_sl {S : St} {s : Sl} {l : List Int} (h : SlOf cellB 1 S s l) (hsp : ∀ a, s.a = some a → a.spot = none) : convertD E0 S 42 9 (.slice s.a s.len s.cap) = some (.string ⟨(byU l).toArray⟩, S) := by
  by_cases h0 : l = []
  · subst h0
    have hl : s.len = 0 := h.len
    rw [hl]
    cases ha : s.a with
    | none => simp only [convertD, und42b, und9, und5b]; rfl
    | some a =>
      obtain ⟨b, o, sp⟩ := a
      have := hsp _ ha
      cases sp with
      | none => simp only [convertD, und42b, und9, und5b]; rfl
      | some _ => cases this
  · obtain ⟨b, o, cs, more, ro, fz, h2, h3, h4⟩ := h.mem h0
    refine conv_tx ⟨h.len, .inr ⟨b, o, cs, more, ro, fz, h2, h3, ?_⟩⟩
    rw [Nat.mul_one] at h4
    exact h4
/-- A bag and a map of texts. -/
abbrev KpP (b1 b2 : Nat) (st : BagS) (own : List Nat) (g : Int → List UInt8) (S : St) : Prop := BagIs S b1 st own ∧ MapIs S b2 g
theorem KpP.frm {b1 b2 : Nat} {st : BagS} {own : List Nat} {g : Int → List UInt8} : Frm (fun c => c ∈ own ∨ c = b2) (KpP b1 b2 st own g) := Frm.and BagIs.frm MapIs.frm
theorem minmax_max' (a b : Int) : (cond true (cond (decide (a < b)) b a) (cond (decide (b < a)) b a)) = max a b := minmax_max a b
theorem s8 {S : St} {s : Sl} {xs : List OpR} (h : SlOf cellsO 6 S s xs) (hd : ∀ x ∈ xs, ∃ d, OpD S x d) : WC E0 8 [.slice s.a s.len s.cap] S fun v _ => v = .bool true := by
  refine w8 s ?_
  unfold c8
  refine evC_of (b24 fun S1 e1 => ⟨_, rfl, ?_⟩)
  refine evC_of (b25 (e1.slOf h) ⟨_, rfl, ?_⟩ fun hlen hsm => ⟨_, rfl, ?_⟩)
  · exact ifW_pos (by omega) rfl
  refine ifW_neg (by omega) ?_
  refine ifW_of (fun h => by cases h) fun _ => ?_
  refine newW_of fun b1 S3 hb1 ha3 e3 hn3 => ?_
  refine newW_of fun b2 S4 hb2 ha4 e4 hn4 => ?_
  have e14 := (e1.tr e3).tr e4
  have hl := h.len
  have hS1 := e1.next
  have m0 : MapIs S4 b2 (fun _ => []) := ⟨[], 0, ha4, fun n => rfl⟩
  refine loopW_ind (fun q (x : Int × Int) S' => ∃ n : Nat, x.2 = n ∧ n ≤ xs.length ∧ q = xs.length - n ∧ Ext S S' ∧ ∃ st own g, KpP b1 b2 st own g S' ∧ (∀ c ∈ own, S.next ≤ c ∧ c ≠ b2) ∧ BagOk (2 * n) st ∧ Srt st ∧ Keeps st g ∧ x.1 = st.last) (m := xs.length)
    ⟨0, rfl, by omega, rfl, e14, bag0, [b1], fun _ => [], ⟨bag0_is (e4.at ha3), m0⟩, fun c hc => by simp only [List.mem_cons, List.not_mem_nil, or_false] at hc; omega, bag0_ok, bag0_srt, bag0_keeps, rfl⟩ ?_
  rintro P q ⟨la, x⟩ S5 ⟨n, rfl, hn, rfl, e5, st, own, g, ⟨q5, m5⟩, f5, k5, r5, p5, rfl⟩ hP
  dsimp only
  rw [hl]
  refine ifW_dec (fun hlt => ?_) fun hlt => ?_
  · have hlt3 : n < xs.length := by omega
    refine (Ext.slOf e5 h).idxL (f := cellsO) (sz := 6) (fun _ => rfl) rfl hlt3 fun b0 o0 cs0 m0 r0 f0 at0 _ hv0 => ?_
    refine ⟨xs[n], load_agg at0 (n := 6) (by kernel_rfl) hv0 rfl, ?_⟩
    obtain ⟨d, hdx⟩ := hd xs[n] (List.getElem_mem _)
    have hsz := (hsm xs[n] (List.getElem_mem _)).1
    generalize xs[n] = x at hdx hsz ⊢
    obtain ⟨x1, x2, x3, x4, x5, x6⟩ := x
    have hn5 := e5.next
    have hb2' : b2 < S5.next := by obtain ⟨l, cl, h, _⟩ := m5; exact h.lt
    have hL := Cx.start (fun c => c ∈ own ∨ c = b2) (O := fun c => c ∈ own ∨ c = b2) (P := KpP b1 b2 st own g) ⟨q5, m5⟩ KpP.frm (fun c hc => hc.elim (fun hc => q5.lt hc) fun hc => by omega)
    refine hL.new fun b5 S6 hL hb5 hn6 => ?_
    (first | refine hL.st 0 _ rfl (by kernel_rfl) rfl (Nat.le_of_ble_eq_true rfl) rfl rfl fun S7 hL hn7 => ?_ | refine hL.st 1 _ rfl (by kernel_rfl) rfl (Nat.le_of_ble_eq_true rfl) rfl rfl fun S7 hL hn7 => ?_ | refine hL.st 2 _ rfl (by kernel_rfl) rfl (Nat.le_of_ble_eq_true rfl) rfl rfl fun S7 hL hn7 => ?_ | refine hL.st 3 _ rfl (by kernel_rfl) rfl (Nat.le_of_ble_eq_true rfl) rfl rfl fun S7 hL hn7 => ?_ | refine hL.st 4 _ rfl (by kernel_rfl) rfl (Nat.le_of_ble_eq_true rfl) rfl rfl fun S7 hL hn7 => ?_ | refine hL.st 5 _ rfl (by kernel_rfl) rfl (Nat.le_of_ble_eq_true rfl) rfl rfl fun S7 hL hn7 => ?_ | refine hL.st 6 _ rfl (by kernel_rfl) rfl (Nat.le_of_ble_eq_true rfl) rfl rfl fun S7 hL hn7 => ?_ | refine hL.st 7 _ rfl (by kernel_rfl) rfl (Nat.le_of_ble_eq_true rfl) rfl rfl fun S7 hL hn7 => ?_)
    have hF : ∀ c, (c ∈ own ∨ c = b2) → S.next ≤ c := fun c hc => hc.elim (fun hc => (f5 c hc).1) fun hc => by omega
    have e7 : Ext S S7 := e5.ext hL.mod hF
    intro k2 hk2
    have hJ : ∀ S8 st' own' g', Ext S S8 → KpP b1 b2 st' own' g' S8 → (∀ c ∈ own', S.next ≤ c ∧ c ≠ b2) → BagOk (2 * n + 2) st' → Srt st' → Keeps st' g' → k2 st'.last S8 := by
      intro S8 st' own' g' e8 q8 f8 k8 r8 p8
      refine hk2 _ _ ?_
      refine evC_of (b32 q8.1 fun S9 e9 => ⟨st'.c, rfl, ?_⟩)
      have hL := Hld.start noB S9
      refine hL.new fun b6 S10 hL hb6 hn10 => ?_
      (first | refine hL.st 0 _ rfl (by kernel_rfl) rfl (Nat.le_of_ble_eq_true rfl) rfl rfl fun S11 hL hn11 => ?_ | refine hL.st 1 _ rfl (by kernel_rfl) rfl (Nat.le_of_ble_eq_true rfl) rfl rfl fun S11 hL hn11 => ?_ | refine hL.st 2 _ rfl (by kernel_rfl) rfl (Nat.le_of_ble_eq_true rfl) rfl rfl fun S11 hL hn11 => ?_ | refine hL.st 3 _ rfl (by kernel_rfl) rfl (Nat.le_of_ble_eq_true rfl) rfl rfl fun S11 hL hn11 => ?_ | refine hL.st 4 _ rfl (by kernel_rfl) rfl (Nat.le_of_ble_eq_true rfl) rfl rfl fun S11 hL hn11 => ?_ | refine hL.st 5 _ rfl (by kernel_rfl) rfl (Nat.le_of_ble_eq_true rfl) rfl rfl fun S11 hL hn11 => ?_ | refine hL.st 6 _ rfl (by kernel_rfl) rfl (Nat.le_of_ble_eq_true rfl) rfl rfl fun S11 hL hn11 => ?_ | refine hL.st 7 _ rfl (by kernel_rfl) rfl (Nat.le_of_ble_eq_true rfl) rfl rfl fun S11 hL hn11 => ?_)
      repeat (first | refine ptrW_of ?_ | refine sameV_of ?_ | (first | refine hL.ld 0 rfl (by kernel_rfl) _ rfl ?_ | refine hL.ld 1 rfl (by kernel_rfl) _ rfl ?_ | refine hL.ld 2 rfl (by kernel_rfl) _ rfl ?_ | refine hL.ld 3 rfl (by kernel_rfl) _ rfl ?_ | refine hL.ld 4 rfl (by kernel_rfl) _ rfl ?_ | refine hL.ld 5 rfl (by kernel_rfl) _ rfl ?_ | refine hL.ld 6 rfl (by kernel_rfl) _ rfl ?_ | refine hL.ld 7 rfl (by kernel_rfl) _ rfl ?_ | refine hL.lda 0 rfl (by kernel_rfl) _ rfl ?_ | refine hL.lda 1 rfl (by kernel_rfl) _ rfl ?_ | refine hL.lda 2 rfl (by kernel_rfl) _ rfl ?_ | refine hL.lda 3 rfl (by kernel_rfl) _ rfl ?_ | refine hL.lda 4 rfl (by kernel_rfl) _ rfl ?_ | refine hL.lda 5 rfl (by kernel_rfl) _ rfl ?_ | refine hL.lda 6 rfl (by kernel_rfl) _ rfl ?_ | refine hL.lda 7 rfl (by kernel_rfl) _ rfl ?_) | (first | refine hLo.ld 0 rfl (by kernel_rfl) _ rfl ?_ | refine hLo.ld 1 rfl (by kernel_rfl) _ rfl ?_ | refine hLo.ld 2 rfl (by kernel_rfl) _ rfl ?_ | refine hLo.ld 3 rfl (by kernel_rfl) _ rfl ?_ | refine hLo.ld 4 rfl (by kernel_rfl) _ rfl ?_ | refine hLo.ld 5 rfl (by kernel_rfl) _ rfl ?_ | refine hLo.ld 6 rfl (by kernel_rfl) _ rfl ?_ | refine hLo.ld 7 rfl (by kernel_rfl) _ rfl ?_ | refine hLo.lda 0 rfl (by kernel_rfl) _ rfl ?_ | refine hLo.lda 1 rfl (by kernel_rfl) _ rfl ?_ | refine hLo.lda 2 rfl (by kernel_rfl) _ rfl ?_ | refine hLo.lda 3 rfl (by kernel_rfl) _ rfl ?_ | refine hLo.lda 4 rfl (by kernel_rfl) _ rfl ?_ | refine hLo.lda 5 rfl (by kernel_rfl) _ rfl ?_ | refine hLo.lda 6 rfl (by kernel_rfl) _ rfl ?_ | refine hLo.lda 7 rfl (by kernel_rfl) _ rfl ?_))
      have q11 := (q8.1.ext e9).ext hL.mod
      have hLo := hL
      refine evC_of (b33 q11 ⟨_, rfl, ?_⟩)
      repeat (first | refine ptrW_of ?_ | refine sameV_of ?_ | (first | refine hL.ld 0 rfl (by kernel_rfl) _ rfl ?_ | refine hL.ld 1 rfl (by kernel_rfl) _ rfl ?_ | refine hL.ld 2 rfl (by kernel_rfl) _ rfl ?_ | refine hL.ld 3 rfl (by kernel_rfl) _ rfl ?_ | refine hL.ld 4 rfl (by kernel_rfl) _ rfl ?_ | refine hL.ld 5 rfl (by kernel_rfl) _ rfl ?_ | refine hL.ld 6 rfl (by kernel_rfl) _ rfl ?_ | refine hL.ld 7 rfl (by kernel_rfl) _ rfl ?_ | refine hL.lda 0 rfl (by kernel_rfl) _ rfl ?_ | refine hL.lda 1 rfl (by kernel_rfl) _ rfl ?_ | refine hL.lda 2 rfl (by kernel_rfl) _ rfl ?_ | refine hL.lda 3 rfl (by kernel_rfl) _ rfl ?_ | refine hL.lda 4 rfl (by kernel_rfl) _ rfl ?_ | refine hL.lda 5 rfl (by kernel_rfl) _ rfl ?_ | refine hL.lda 6 rfl (by kernel_rfl) _ rfl ?_ | refine hL.lda 7 rfl (by kernel_rfl) _ rfl ?_) | (first | refine hLo.ld 0 rfl (by kernel_rfl) _ rfl ?_ | refine hLo.ld 1 rfl (by kernel_rfl) _ rfl ?_ | refine hLo.ld 2 rfl (by kernel_rfl) _ rfl ?_ | refine hLo.ld 3 rfl (by kernel_rfl) _ rfl ?_ | refine hLo.ld 4 rfl (by kernel_rfl) _ rfl ?_ | refine hLo.ld 5 rfl (by kernel_rfl) _ rfl ?_ | refine hLo.ld 6 rfl (by kernel_rfl) _ rfl ?_ | refine hLo.ld 7 rfl (by kernel_rfl) _ rfl ?_ | refine hLo.lda 0 rfl (by kernel_rfl) _ rfl ?_ | refine hLo.lda 1 rfl (by kernel_rfl) _ rfl ?_ | refine hLo.lda 2 rfl (by kernel_rfl) _ rfl ?_ | refine hLo.lda 3 rfl (by kernel_rfl) _ rfl ?_ | refine hLo.lda 4 rfl (by kernel_rfl) _ rfl ?_ | refine hLo.lda 5 rfl (by kernel_rfl) _ rfl ?_ | refine hLo.lda 6 rfl (by kernel_rfl) _ rfl ?_ | refine hLo.lda 7 rfl (by kernel_rfl) _ rfl ?_))
      have hcnt := p8.cnt
      have o1 := k8.c1; have o2 := k8.c2; have o3 := k8.c3; have o4 := k8.c4; have o6 := k8.c6; have olen := k8.len
      rw [wrap_i64 (n := st'.c.1 + _) (by omega) (by omega), wrap_i64 (n := st'.c.1 + _ - _) (by omega) (by omega), wrap_i64 (n := st'.c.1 + _ - _ - _) (by omega) (by omega), wrap_i64 (n := st'.c.1 + _ - _ - _ - _) (by omega) (by omega)]
      refine ifW_ndec (fun h => (h hcnt).elim) fun _ => ?_
      rw [wrap_succ (by omega)]
      have e11 := (e8.tr e9).tr hL.mod
      exact hP _ _ _ (by omega) ⟨n + 1, rfl, by omega, rfl, e11, st', own', g', ⟨q11, MapIs.frm _ _ _ (e9.tr hL.mod).kp (fun _ _ h => h) q8.2⟩, f8, by rw [show 2 * (n + 1) = 2 * n + 2 by omega]; exact k8, r8, p8, rfl⟩
    have hdl : d.length ≤ 60 := by have := hdx.1.len; simp only at this hsz; omega
    have hn7 := e7.next
    have hx4 : ∀ S', Ext S S' → SlOf cellB 1 S' x4 d := fun S' e => e.slOf hdx.1
    have hop : ∀ {S' : St} {st' : BagS} {own' : List Nat}, BagIs S' b1 st' own' → (∀ c ∈ own', c ∈ own ∨ S7.next ≤ c) → Mod (fun c => c ∈ own) S7 S' →
        Cx (fun c => c ∈ own ∨ c = b2) S5 S' [(b5, .cells [.int .i64 x1, .int .i64 x2, .int .i64 x3, .slice x4.a x4.len x4.cap, .int .u8 x5, .int .i64 x6] none false none)] (fun c => c ∈ own' ∨ c = b2) (KpP b1 b2 st' own' g) ∧ (∀ c ∈ own', S.next ≤ c ∧ c ≠ b2) ∧ Ext S S' := by
      intro S' st' own' a1 a2 a3
      have hmap := MapIs.frm (b := b2) (g := g) _ _ _ a3.kp (fun c hc h => by subst hc; exact (f5 _ h).2 rfl) hL.p.2
      have h5 := hL.mod.next
      have hS := a3.next
      refine ⟨hL.op a3 (fun c hc => .inl hc) (fun c hc _ => .inl hc) ⟨a1, hmap⟩ KpP.frm (fun c hc => ?_) (fun c hc => ?_), fun c hc => ?_, e7.ext a3 fun c hc => (f5 c hc).1⟩
      · rcases hc with hc | hc
        · exact (a2 c hc).imp .inl id
        · exact .inl (.inr hc)
      · rcases hc with hc | hc
        · exact a1.lt hc
        · omega
      · rcases a2 c hc with h | h
        · exact f5 c h
        · omega
    have last0 := k5.last
    have put : ∀ {S' : St} {st' : BagS} {own' : List Nat} {v : List UInt8} {m : Int}, Cx (fun c => c ∈ own ∨ c = b2) S5 S' [(b5, .cells [.int .i64 x1, .int .i64 x2, .int .i64 x3, .slice x4.a x4.len x4.cap, .int .u8 x5, .int .i64 x6] none false none)] (fun c => c ∈ own' ∨ c = b2) (KpP b1 b2 st' own' g) → (∀ c ∈ own', S.next ≤ c ∧ c ≠ b2) → Ext S S' → BagOk (2 * n + 2) st' → Srt st' → Keeps st' (fun q => if q = m then v else g q) →
        evS (mapUpdateD E0 S' 60 (.map (some b2)) (.int .i64 m) (.agg #[.string ⟨v.toArray⟩])) fun S'' => k2 st'.last S'' := by
      intro S' st' own' v m hL f eS k r p
      refine map_set hL.p.2 m v fun S'' a1 a2 a3 => ?_
      exact hJ S'' st' own' _ (eS.ext a2 fun c hc => by omega) ⟨hL.p.1.mod a2.kp fun c hc e => (f c hc).2 e, a1⟩ f k r p
    refine ptrW_of ?_
    (first | refine hL.ld 0 rfl (by kernel_rfl) _ rfl ?_ | refine hL.ld 1 rfl (by kernel_rfl) _ rfl ?_ | refine hL.ld 2 rfl (by kernel_rfl) _ rfl ?_ | refine hL.ld 3 rfl (by kernel_rfl) _ rfl ?_ | refine hL.ld 4 rfl (by kernel_rfl) _ rfl ?_ | refine hL.ld 5 rfl (by kernel_rfl) _ rfl ?_ | refine hL.ld 6 rfl (by kernel_rfl) _ rfl ?_ | refine hL.ld 7 rfl (by kernel_rfl) _ rfl ?_ | refine hL.lda 0 rfl (by kernel_rfl) _ rfl ?_ | refine hL.lda 1 rfl (by kernel_rfl) _ rfl ?_ | refine hL.lda 2 rfl (by kernel_rfl) _ rfl ?_ | refine hL.lda 3 rfl (by kernel_rfl) _ rfl ?_ | refine hL.lda 4 rfl (by kernel_rfl) _ rfl ?_ | refine hL.lda 5 rfl (by kernel_rfl) _ rfl ?_ | refine hL.lda 6 rfl (by kernel_rfl) _ rfl ?_ | refine hL.lda 7 rfl (by kernel_rfl) _ rfl ?_)
    refine ifW_dec (fun h0 => ?_) fun h0 => ?_
    · repeat (first | refine ptrW_of ?_ | refine sameV_of ?_ | (first | refine hL.ld 0 rfl (by kernel_rfl) _ rfl ?_ | refine hL.ld 1 rfl (by kernel_rfl) _ rfl ?_ | refine hL.ld 2 rfl (by kernel_rfl) _ rfl ?_ | refine hL.ld 3 rfl (by kernel_rfl) _ rfl ?_ | refine hL.ld 4 rfl (by kernel_rfl) _ rfl ?_ | refine hL.ld 5 rfl (by kernel_rfl) _ rfl ?_ | refine hL.ld 6 rfl (by kernel_rfl) _ rfl ?_ | refine hL.ld 7 rfl (by kernel_rfl) _ rfl ?_ | refine hL.lda 0 rfl (by kernel_rfl) _ rfl ?_ | refine hL.lda 1 rfl (by kernel_rfl) _ rfl ?_ | refine hL.lda 2 rfl (by kernel_rfl) _ rfl ?_ | refine hL.lda 3 rfl (by kernel_rfl) _ rfl ?_ | refine hL.lda 4 rfl (by kernel_rfl) _ rfl ?_ | refine hL.lda 5 rfl (by kernel_rfl) _ rfl ?_ | refine hL.lda 6 rfl (by kernel_rfl) _ rfl ?_ | refine hL.lda 7 rfl (by kernel_rfl) _ rfl ?_) | (first | refine hLo.ld 0 rfl (by kernel_rfl) _ rfl ?_ | refine hLo.ld 1 rfl (by kernel_rfl) _ rfl ?_ | refine hLo.ld 2 rfl (by kernel_rfl) _ rfl ?_ | refine hLo.ld 3 rfl (by kernel_rfl) _ rfl ?_ | refine hLo.ld 4 rfl (by kernel_rfl) _ rfl ?_ | refine hLo.ld 5 rfl (by kernel_rfl) _ rfl ?_ | refine hLo.ld 6 rfl (by kernel_rfl) _ rfl ?_ | refine hLo.ld 7 rfl (by kernel_rfl) _ rfl ?_ | refine hLo.lda 0 rfl (by kernel_rfl) _ rfl ?_ | refine hLo.lda 1 rfl (by kernel_rfl) _ rfl ?_ | refine hLo.lda 2 rfl (by kernel_rfl) _ rfl ?_ | refine hLo.lda 3 rfl (by kernel_rfl) _ rfl ?_ | refine hLo.lda 4 rfl (by kernel_rfl) _ rfl ?_ | refine hLo.lda 5 rfl (by kernel_rfl) _ rfl ?_ | refine hLo.lda 6 rfl (by kernel_rfl) _ rfl ?_ | refine hLo.lda 7 rfl (by kernel_rfl) _ rfl ?_))
      refine evC_of (b26 hL.p.1 k5 (by omega) (hx4 _ e7) hdx.2.1 (hdx.ne (by omega)) hdl fun own' S' a1 a2 a3 => ⟨_, rfl, ?_⟩)
      obtain ⟨hL, f', eS⟩ := hop a1 a2 a3
      obtain ⟨l1, l2⟩ := sendS_last last0.1 x2 x3 d
      have ks := sendS_ok k5 x2 x3 d hdl
      have rs := sendS_srt r5 x2 x3 d
      have ps := p5.send r5 last0.1 x2 x3 hdx.2.2.1
      refine ifW_ndec (fun hne => ?_) fun he => ?_
      · refine ifW_neg (Int.not_le.2 (l1 hne)) ?_
        refine ptrW_of ?_
        (first | refine hL.ld 0 rfl (by kernel_rfl) _ rfl ?_ | refine hL.ld 1 rfl (by kernel_rfl) _ rfl ?_ | refine hL.ld 2 rfl (by kernel_rfl) _ rfl ?_ | refine hL.ld 3 rfl (by kernel_rfl) _ rfl ?_ | refine hL.ld 4 rfl (by kernel_rfl) _ rfl ?_ | refine hL.ld 5 rfl (by kernel_rfl) _ rfl ?_ | refine hL.ld 6 rfl (by kernel_rfl) _ rfl ?_ | refine hL.ld 7 rfl (by kernel_rfl) _ rfl ?_ | refine hL.lda 0 rfl (by kernel_rfl) _ rfl ?_ | refine hL.lda 1 rfl (by kernel_rfl) _ rfl ?_ | refine hL.lda 2 rfl (by kernel_rfl) _ rfl ?_ | refine hL.lda 3 rfl (by kernel_rfl) _ rfl ?_ | refine hL.lda 4 rfl (by kernel_rfl) _ rfl ?_ | refine hL.lda 5 rfl (by kernel_rfl) _ rfl ?_ | refine hL.lda 6 rfl (by kernel_rfl) _ rfl ?_ | refine hL.lda 7 rfl (by kernel_rfl) _ rfl ?_)
        refine ⟨byU d, S', conv_sl (hx4 _ eS) hdx.2.1, ?_⟩
        rw [minmax_max', ← l2]
        exact put hL f' eS ks rs ps
      · refine ptrW_of ?_
        (first | refine hL.ld 0 rfl (by kernel_rfl) _ rfl ?_ | refine hL.ld 1 rfl (by kernel_rfl) _ rfl ?_ | refine hL.ld 2 rfl (by kernel_rfl) _ rfl ?_ | refine hL.ld 3 rfl (by kernel_rfl) _ rfl ?_ | refine hL.ld 4 rfl (by kernel_rfl) _ rfl ?_ | refine hL.ld 5 rfl (by kernel_rfl) _ rfl ?_ | refine hL.ld 6 rfl (by kernel_rfl) _ rfl ?_ | refine hL.ld 7 rfl (by kernel_rfl) _ rfl ?_ | refine hL.lda 0 rfl (by kernel_rfl) _ rfl ?_ | refine hL.lda 1 rfl (by kernel_rfl) _ rfl ?_ | refine hL.lda 2 rfl (by kernel_rfl) _ rfl ?_ | refine hL.lda 3 rfl (by kernel_rfl) _ rfl ?_ | refine hL.lda 4 rfl (by kernel_rfl) _ rfl ?_ | refine hL.lda 5 rfl (by kernel_rfl) _ rfl ?_ | refine hL.lda 6 rfl (by kernel_rfl) _ rfl ?_ | refine hL.lda 7 rfl (by kernel_rfl) _ rfl ?_)
        refine ⟨byU d, S', conv_sl (hx4 _ eS) hdx.2.1, ?_⟩
        rw [minmax_max', ← l2]
        exact put hL f' eS ks rs ps
    refine ifW_dec (fun h0 => ?_) fun h0 => ?_
    · repeat (first | refine ptrW_of ?_ | refine sameV_of ?_ | (first | refine hL.ld 0 rfl (by kernel_rfl) _ rfl ?_ | refine hL.ld 1 rfl (by kernel_rfl) _ rfl ?_ | refine hL.ld 2 rfl (by kernel_rfl) _ rfl ?_ | refine hL.ld 3 rfl (by kernel_rfl) _ rfl ?_ | refine hL.ld 4 rfl (by kernel_rfl) _ rfl ?_ | refine hL.ld 5 rfl (by kernel_rfl) _ rfl ?_ | refine hL.ld 6 rfl (by kernel_rfl) _ rfl ?_ | refine hL.ld 7 rfl (by kernel_rfl) _ rfl ?_ | refine hL.lda 0 rfl (by kernel_rfl) _ rfl ?_ | refine hL.lda 1 rfl (by kernel_rfl) _ rfl ?_ | refine hL.lda 2 rfl (by kernel_rfl) _ rfl ?_ | refine hL.lda 3 rfl (by kernel_rfl) _ rfl ?_ | refine hL.lda 4 rfl (by kernel_rfl) _ rfl ?_ | refine hL.lda 5 rfl (by kernel_rfl) _ rfl ?_ | refine hL.lda 6 rfl (by kernel_rfl) _ rfl ?_ | refine hL.lda 7 rfl (by kernel_rfl) _ rfl ?_) | (first | refine hLo.ld 0 rfl (by kernel_rfl) _ rfl ?_ | refine hLo.ld 1 rfl (by kernel_rfl) _ rfl ?_ | refine hLo.ld 2 rfl (by kernel_rfl) _ rfl ?_ | refine hLo.ld 3 rfl (by kernel_rfl) _ rfl ?_ | refine hLo.ld 4 rfl (by kernel_rfl) _ rfl ?_ | refine hLo.ld 5 rfl (by kernel_rfl) _ rfl ?_ | refine hLo.ld 6 rfl (by kernel_rfl) _ rfl ?_ | refine hLo.ld 7 rfl (by kernel_rfl) _ rfl ?_ | refine hLo.lda 0 rfl (by kernel_rfl) _ rfl ?_ | refine hLo.lda 1 rfl (by kernel_rfl) _ rfl ?_ | refine hLo.lda 2 rfl (by kernel_rfl) _ rfl ?_ | refine hLo.lda 3 rfl (by kernel_rfl) _ rfl ?_ | refine hLo.lda 4 rfl (by kernel_rfl) _ rfl ?_ | refine hLo.lda 5 rfl (by kernel_rfl) _ rfl ?_ | refine hLo.lda 6 rfl (by kernel_rfl) _ rfl ?_ | refine hLo.lda 7 rfl (by kernel_rfl) _ rfl ?_))
      refine evC_of (b27 hL.p.1 k5 (by omega) fun own' d1 o1 S' a1 ad a2 ao a3 => ⟨(_, _), rfl, ?_⟩)
      have ks := (takeS_ok k5 x2 (f := cDel) (.inl rfl)).mono (show 2 * n + 1 ≤ 2 * n + 2 by omega)
      have rs := takeS_srt r5 x2 cDel
      have ps := p5.take x2 (f := cDel) (.inl rfl)
      have pk := p5.taken x2 cDel
      have pl : (takeS st x2 cDel).1.1.2.2.2.1.length ≤ 60 := by
        unfold takeS
        cases hi : idxS st.l x2 with
        | none => simp [noPk]
        | some i =>
          obtain ⟨hil, _⟩ := idxS_lt hi
          have e : st.l.getD i noPk = st.l[i] := by simp [hil]
          simp only [e]
          exact k5.dat _ (List.getElem_mem _)
      have hla := takeS_last st x2 cDel
      obtain ⟨_, f', eS⟩ := hop a1 a2 a3
      have hmap := MapIs.frm (b := b2) (g := g) _ _ _ a3.kp (fun c hc h => by subst hc; exact (f5 _ h).2 rfl) hL.p.2
      have hSn := a3.next
      have h5 := hL.mod.next
      generalize takeS st x2 cDel = T at *
      obtain ⟨⟨p, e⟩, stT⟩ := T
      dsimp only at *
      have hL := hL.op (P' := fun S => KpP b1 b2 stT own' g S ∧ DatB S d1 p.2.2.2.1 o1) (O' := fun c => (c ∈ own' ∨ c = b2) ∨ c ∈ o1) a3 (fun c hc => .inl hc) (fun c hc _ => .inl hc) ⟨⟨a1, hmap⟩, ad⟩ (Frm.and KpP.frm (Frm.dat fun c hc => hc)) (fun c hc => by
        rcases hc with (hc | hc) | hc
        · exact (a2 c hc).imp .inl id
        · exact .inl (.inr hc)
        · exact .inl (.inl (ao c hc).1)) (fun c hc => by
        rcases hc with (hc | hc) | hc
        · exact a1.lt hc
        · omega
        · exact ad.lt hc)
      have hend : ∀ {S'' : St} {L : List (Nat × DObj)}, Cx (fun c => c ∈ own ∨ c = b2) S5 S'' L (fun c => (c ∈ own' ∨ c = b2) ∨ c ∈ o1) (fun S => KpP b1 b2 stT own' g S ∧ DatB S d1 p.2.2.2.1 o1) → k2 st.last S'' := fun hL => by
        have := hJ _ stT own' g (e5.ext hL.mod hF) hL.p.1 f' ks rs ps
        rwa [hla] at this
      obtain ⟨y1, y2, y3, y4, y5⟩ := p
      refine hL.new fun b31 S16 hL hb31 hn16 => ?_
      (first | refine hL.st 0 _ rfl (by kernel_rfl) rfl (Nat.le_of_ble_eq_true rfl) rfl rfl fun S17 hL hn17 => ?_ | refine hL.st 1 _ rfl (by kernel_rfl) rfl (Nat.le_of_ble_eq_true rfl) rfl rfl fun S17 hL hn17 => ?_ | refine hL.st 2 _ rfl (by kernel_rfl) rfl (Nat.le_of_ble_eq_true rfl) rfl rfl fun S17 hL hn17 => ?_ | refine hL.st 3 _ rfl (by kernel_rfl) rfl (Nat.le_of_ble_eq_true rfl) rfl rfl fun S17 hL hn17 => ?_ | refine hL.st 4 _ rfl (by kernel_rfl) rfl (Nat.le_of_ble_eq_true rfl) rfl rfl fun S17 hL hn17 => ?_ | refine hL.st 5 _ rfl (by kernel_rfl) rfl (Nat.le_of_ble_eq_true rfl) rfl rfl fun S17 hL hn17 => ?_ | refine hL.st 6 _ rfl (by kernel_rfl) rfl (Nat.le_of_ble_eq_true rfl) rfl rfl fun S17 hL hn17 => ?_ | refine hL.st 7 _ rfl (by kernel_rfl) rfl (Nat.le_of_ble_eq_true rfl) rfl rfl fun S17 hL hn17 => ?_)
      refine ifW_dec (fun he => ?_) fun he => hend hL
      (first | refine hL.ld 0 rfl (by kernel_rfl) _ rfl ?_ | refine hL.ld 1 rfl (by kernel_rfl) _ rfl ?_ | refine hL.ld 2 rfl (by kernel_rfl) _ rfl ?_ | refine hL.ld 3 rfl (by kernel_rfl) _ rfl ?_ | refine hL.ld 4 rfl (by kernel_rfl) _ rfl ?_ | refine hL.ld 5 rfl (by kernel_rfl) _ rfl ?_ | refine hL.ld 6 rfl (by kernel_rfl) _ rfl ?_ | refine hL.ld 7 rfl (by kernel_rfl) _ rfl ?_ | refine hL.lda 0 rfl (by kernel_rfl) _ rfl ?_ | refine hL.lda 1 rfl (by kernel_rfl) _ rfl ?_ | refine hL.lda 2 rfl (by kernel_rfl) _ rfl ?_ | refine hL.lda 3 rfl (by kernel_rfl) _ rfl ?_ | refine hL.lda 4 rfl (by kernel_rfl) _ rfl ?_ | refine hL.lda 5 rfl (by kernel_rfl) _ rfl ?_ | refine hL.lda 6 rfl (by kernel_rfl) _ rfl ?_ | refine hL.lda 7 rfl (by kernel_rfl) _ rfl ?_)
      refine ptrW_of ?_
      (first | refine hL.ld 0 rfl (by kernel_rfl) _ rfl ?_ | refine hL.ld 1 rfl (by kernel_rfl) _ rfl ?_ | refine hL.ld 2 rfl (by kernel_rfl) _ rfl ?_ | refine hL.ld 3 rfl (by kernel_rfl) _ rfl ?_ | refine hL.ld 4 rfl (by kernel_rfl) _ rfl ?_ | refine hL.ld 5 rfl (by kernel_rfl) _ rfl ?_ | refine hL.ld 6 rfl (by kernel_rfl) _ rfl ?_ | refine hL.ld 7 rfl (by kernel_rfl) _ rfl ?_ | refine hL.lda 0 rfl (by kernel_rfl) _ rfl ?_ | refine hL.lda 1 rfl (by kernel_rfl) _ rfl ?_ | refine hL.lda 2 rfl (by kernel_rfl) _ rfl ?_ | refine hL.lda 3 rfl (by kernel_rfl) _ rfl ?_ | refine hL.lda 4 rfl (by kernel_rfl) _ rfl ?_ | refine hL.lda 5 rfl (by kernel_rfl) _ rfl ?_ | refine hL.lda 6 rfl (by kernel_rfl) _ rfl ?_ | refine hL.lda 7 rfl (by kernel_rfl) _ rfl ?_)
      refine ⟨g y1, map_get hL.p.1.2 y1, ?_⟩
      refine evC_of (b28 (p := (y1, y2, y3, y4, y5)) hL.p.2.of (pk he) (by dsimp only at pl ⊢; omega) fun S18 e18 => ⟨_, rfl, ?_⟩)
      refine ifW_of (fun h => by cases h) fun _ => ?_
      exact hend (hL.ext e18)
    refine ifW_dec (fun h0 => ?_) fun h0 => ?_
    · repeat (first | refine ptrW_of ?_ | refine sameV_of ?_ | (first | refine hL.ld 0 rfl (by kernel_rfl) _ rfl ?_ | refine hL.ld 1 rfl (by kernel_rfl) _ rfl ?_ | refine hL.ld 2 rfl (by kernel_rfl) _ rfl ?_ | refine hL.ld 3 rfl (by kernel_rfl) _ rfl ?_ | refine hL.ld 4 rfl (by kernel_rfl) _ rfl ?_ | refine hL.ld 5 rfl (by kernel_rfl) _ rfl ?_ | refine hL.ld 6 rfl (by kernel_rfl) _ rfl ?_ | refine hL.ld 7 rfl (by kernel_rfl) _ rfl ?_ | refine hL.lda 0 rfl (by kernel_rfl) _ rfl ?_ | refine hL.lda 1 rfl (by kernel_rfl) _ rfl ?_ | refine hL.lda 2 rfl (by kernel_rfl) _ rfl ?_ | refine hL.lda 3 rfl (by kernel_rfl) _ rfl ?_ | refine hL.lda 4 rfl (by kernel_rfl) _ rfl ?_ | refine hL.lda 5 rfl (by kernel_rfl) _ rfl ?_ | refine hL.lda 6 rfl (by kernel_rfl) _ rfl ?_ | refine hL.lda 7 rfl (by kernel_rfl) _ rfl ?_) | (first | refine hLo.ld 0 rfl (by kernel_rfl) _ rfl ?_ | refine hLo.ld 1 rfl (by kernel_rfl) _ rfl ?_ | refine hLo.ld 2 rfl (by kernel_rfl) _ rfl ?_ | refine hLo.ld 3 rfl (by kernel_rfl) _ rfl ?_ | refine hLo.ld 4 rfl (by kernel_rfl) _ rfl ?_ | refine hLo.ld 5 rfl (by kernel_rfl) _ rfl ?_ | refine hLo.ld 6 rfl (by kernel_rfl) _ rfl ?_ | refine hLo.ld 7 rfl (by kernel_rfl) _ rfl ?_ | refine hLo.lda 0 rfl (by kernel_rfl) _ rfl ?_ | refine hLo.lda 1 rfl (by kernel_rfl) _ rfl ?_ | refine hLo.lda 2 rfl (by kernel_rfl) _ rfl ?_ | refine hLo.lda 3 rfl (by kernel_rfl) _ rfl ?_ | refine hLo.lda 4 rfl (by kernel_rfl) _ rfl ?_ | refine hLo.lda 5 rfl (by kernel_rfl) _ rfl ?_ | refine hLo.lda 6 rfl (by kernel_rfl) _ rfl ?_ | refine hLo.lda 7 rfl (by kernel_rfl) _ rfl ?_))
      refine evC_of (b29 hL.p.1 k5 (by omega) fun own' S' a1 a2 a3 => ⟨_, rfl, ?_⟩)
      obtain ⟨hL, f', eS⟩ := hop a1 a2 a3
      have := hJ S' _ own' g eS hL.p f' ((takeS_ok k5 x2 (f := cDrop) (.inr rfl)).mono (by omega)) (takeS_srt r5 _ _) (p5.take x2 (.inr rfl))
      rwa [takeS_last] at this
    refine ifW_dec (fun h0 => ?_) fun h0 => ?_
    · repeat (first | refine ptrW_of ?_ | refine sameV_of ?_ | (first | refine hL.ld 0 rfl (by kernel_rfl) _ rfl ?_ | refine hL.ld 1 rfl (by kernel_rfl) _ rfl ?_ | refine hL.ld 2 rfl (by kernel_rfl) _ rfl ?_ | refine hL.ld 3 rfl (by kernel_rfl) _ rfl ?_ | refine hL.ld 4 rfl (by kernel_rfl) _ rfl ?_ | refine hL.ld 5 rfl (by kernel_rfl) _ rfl ?_ | refine hL.ld 6 rfl (by kernel_rfl) _ rfl ?_ | refine hL.ld 7 rfl (by kernel_rfl) _ rfl ?_ | refine hL.lda 0 rfl (by kernel_rfl) _ rfl ?_ | refine hL.lda 1 rfl (by kernel_rfl) _ rfl ?_ | refine hL.lda 2 rfl (by kernel_rfl) _ rfl ?_ | refine hL.lda 3 rfl (by kernel_rfl) _ rfl ?_ | refine hL.lda 4 rfl (by kernel_rfl) _ rfl ?_ | refine hL.lda 5 rfl (by kernel_rfl) _ rfl ?_ | refine hL.lda 6 rfl (by kernel_rfl) _ rfl ?_ | refine hL.lda 7 rfl (by kernel_rfl) _ rfl ?_) | (first | refine hLo.ld 0 rfl (by kernel_rfl) _ rfl ?_ | refine hLo.ld 1 rfl (by kernel_rfl) _ rfl ?_ | refine hLo.ld 2 rfl (by kernel_rfl) _ rfl ?_ | refine hLo.ld 3 rfl (by kernel_rfl) _ rfl ?_ | refine hLo.ld 4 rfl (by kernel_rfl) _ rfl ?_ | refine hLo.ld 5 rfl (by kernel_rfl) _ rfl ?_ | refine hLo.ld 6 rfl (by kernel_rfl) _ rfl ?_ | refine hLo.ld 7 rfl (by kernel_rfl) _ rfl ?_ | refine hLo.lda 0 rfl (by kernel_rfl) _ rfl ?_ | refine hLo.lda 1 rfl (by kernel_rfl) _ rfl ?_ | refine hLo.lda 2 rfl (by kernel_rfl) _ rfl ?_ | refine hLo.lda 3 rfl (by kernel_rfl) _ rfl ?_ | refine hLo.lda 4 rfl (by kernel_rfl) _ rfl ?_ | refine hLo.lda 5 rfl (by kernel_rfl) _ rfl ?_ | refine hLo.lda 6 rfl (by kernel_rfl) _ rfl ?_ | refine hLo.lda 7 rfl (by kernel_rfl) _ rfl ?_))
      refine evC_of (b30 hL.p.1 k5 (by omega) fun own' S' a1 a2 a3 => ⟨(_, _), rfl, ?_⟩)
      obtain ⟨hL, f', eS⟩ := hop a1 a2 a3
      have ks := doubleS_ok k5 x2
      have rs := doubleS_srt r5 x2
      obtain ⟨ps, pl, pn⟩ := p5.double r5 last0.1 x2
      generalize doubleS st x2 = T at *
      obtain ⟨⟨v, e⟩, stT⟩ := T
      dsimp only at *
      intro k3 hk3
      have no : (e ≠ 0 ∨ v = 0) → k3 false S' := fun hno => by
        refine hk3 _ _ ?_
        refine ifW_of (fun h => by cases h) fun _ => ?_
        rw [if_neg (by omega)] at ps
        have := hJ S' _ own' g eS hL.p f' ks rs ps
        rwa [pn hno] at this
      refine ifW_dec (fun he => ?_) fun he => no (.inl he)
      by_cases hv : v = 0
      · have : (!eqI v 0) = false := by rw [eqI_eq, hv]; rfl
        rw [this]; exact no (.inr hv)
      · have : (!eqI v 0) = true := by rw [eqI_eq]; simpa using hv
        rw [this]
        refine hk3 _ _ ?_
        refine ifW_of (fun _ => ?_) fun h => by cases h
        obtain ⟨v1, v2⟩ := pl he hv
        refine ifW_neg (by omega) ?_
        refine ptrW_of ?_
        (first | refine hL.ld 0 rfl (by kernel_rfl) _ rfl ?_ | refine hL.ld 1 rfl (by kernel_rfl) _ rfl ?_ | refine hL.ld 2 rfl (by kernel_rfl) _ rfl ?_ | refine hL.ld 3 rfl (by kernel_rfl) _ rfl ?_ | refine hL.ld 4 rfl (by kernel_rfl) _ rfl ?_ | refine hL.ld 5 rfl (by kernel_rfl) _ rfl ?_ | refine hL.ld 6 rfl (by kernel_rfl) _ rfl ?_ | refine hL.ld 7 rfl (by kernel_rfl) _ rfl ?_ | refine hL.lda 0 rfl (by kernel_rfl) _ rfl ?_ | refine hL.lda 1 rfl (by kernel_rfl) _ rfl ?_ | refine hL.lda 2 rfl (by kernel_rfl) _ rfl ?_ | refine hL.lda 3 rfl (by kernel_rfl) _ rfl ?_ | refine hL.lda 4 rfl (by kernel_rfl) _ rfl ?_ | refine hL.lda 5 rfl (by kernel_rfl) _ rfl ?_ | refine hL.lda 6 rfl (by kernel_rfl) _ rfl ?_ | refine hL.lda 7 rfl (by kernel_rfl) _ rfl ?_)
        refine ⟨g x2, map_get hL.p.2 x2, ?_⟩
        rw [if_pos ⟨he, hv⟩] at ps
        rw [v1, ← v2]
        rw [v1] at ps
        rw [← v2] at ps
        exact put hL f' eS ks rs ps
    refine ifW_dec (fun h0 => ?_) fun h0 => ?_
    · repeat (first | refine ptrW_of ?_ | refine sameV_of ?_ | (first | refine hL.ld 0 rfl (by kernel_rfl) _ rfl ?_ | refine hL.ld 1 rfl (by kernel_rfl) _ rfl ?_ | refine hL.ld 2 rfl (by kernel_rfl) _ rfl ?_ | refine hL.ld 3 rfl (by kernel_rfl) _ rfl ?_ | refine hL.ld 4 rfl (by kernel_rfl) _ rfl ?_ | refine hL.ld 5 rfl (by kernel_rfl) _ rfl ?_ | refine hL.ld 6 rfl (by kernel_rfl) _ rfl ?_ | refine hL.ld 7 rfl (by kernel_rfl) _ rfl ?_ | refine hL.lda 0 rfl (by kernel_rfl) _ rfl ?_ | refine hL.lda 1 rfl (by kernel_rfl) _ rfl ?_ | refine hL.lda 2 rfl (by kernel_rfl) _ rfl ?_ | refine hL.lda 3 rfl (by kernel_rfl) _ rfl ?_ | refine hL.lda 4 rfl (by kernel_rfl) _ rfl ?_ | refine hL.lda 5 rfl (by kernel_rfl) _ rfl ?_ | refine hL.lda 6 rfl (by kernel_rfl) _ rfl ?_ | refine hL.lda 7 rfl (by kernel_rfl) _ rfl ?_) | (first | refine hLo.ld 0 rfl (by kernel_rfl) _ rfl ?_ | refine hLo.ld 1 rfl (by kernel_rfl) _ rfl ?_ | refine hLo.ld 2 rfl (by kernel_rfl) _ rfl ?_ | refine hLo.ld 3 rfl (by kernel_rfl) _ rfl ?_ | refine hLo.ld 4 rfl (by kernel_rfl) _ rfl ?_ | refine hLo.ld 5 rfl (by kernel_rfl) _ rfl ?_ | refine hLo.ld 6 rfl (by kernel_rfl) _ rfl ?_ | refine hLo.ld 7 rfl (by kernel_rfl) _ rfl ?_ | refine hLo.lda 0 rfl (by kernel_rfl) _ rfl ?_ | refine hLo.lda 1 rfl (by kernel_rfl) _ rfl ?_ | refine hLo.lda 2 rfl (by kernel_rfl) _ rfl ?_ | refine hLo.lda 3 rfl (by kernel_rfl) _ rfl ?_ | refine hLo.lda 4 rfl (by kernel_rfl) _ rfl ?_ | refine hLo.lda 5 rfl (by kernel_rfl) _ rfl ?_ | refine hLo.lda 6 rfl (by kernel_rfl) _ rfl ?_ | refine hLo.lda 7 rfl (by kernel_rfl) _ rfl ?_))
      refine evC_of (b31 hL.p.1 k5 (by omega) fun own' S' a1 a2 a3 => ⟨_, rfl, ?_⟩)
      obtain ⟨hL, f', eS⟩ := hop a1 a2 a3
      have := hJ S' _ own' g eS hL.p f' ((spoilS_ok k5 _ _ _).mono (by omega)) (spoilS_srt r5 _ _ _) (p5.spoil x2 x3 hdx.2.2.2)
      rwa [spoilS_last] at this
    exact hJ S7 st own g e7 hL.p f5 (k5.mono (by omega)) r5 p5
  · refine evC_of (b34 q5 k5 fun s4 S29 l29 e29 => ⟨s4, rfl, ?_⟩)
    obtain ⟨fl, ow, l1, l2, l3, l4⟩ := l29
    have hlsl : s4.len = st.l.length := by rw [l1.len, l2.len]
    have hmax := k5.len
    refine loopW_ind (fun q (y : Int) S' => ∃ j : Nat, y = j ∧ j ≤ st.l.length ∧ q = st.l.length - j ∧ Ext S29 S') (m := st.l.length) ⟨0, rfl, by omega, rfl, Mod.refl _ _⟩ ?_
    rintro P2 q2 y S30 ⟨j, rfl, hj, rfl, e30⟩ hP2
    have q30 := (q5.ext e29).ext e30
    have m30 : MapIs S30 b2 g := MapIs.frm _ _ _ (e29.tr e30).kp (fun _ _ h => h) m5
    rw [hlsl]
    refine ifW_dec (fun hlt => ?_) fun hlt => ?_
    · have hj3 : j < st.l.length := by omega
      have l30 : LsR S5.next s4 fl st.l ow S30 := ⟨e30.grX l1 fun _ _ _ h => h, l2.mod e30.kp fun _ _ h => h⟩
      rw [← hlsl]
      refine ls_all l30 hj3 fun d' o' hd' => ?_
      have hkp := p5.kept _ (List.getElem_mem hj3)
      have hdt := k5.dat _ (List.getElem_mem hj3)
      generalize st.l[j] = p at hd' hkp hdt ⊢
      obtain ⟨y1, y2, y3, y4, y5⟩ := p
      have hL := Cx.start noB (O := fun c => (c ∈ own ∨ c = b2) ∨ c ∈ o') (P := fun S => KpP b1 b2 st own g S ∧ DatB S d' y4 o') ⟨⟨q30, m30⟩, hd'⟩ (Frm.and KpP.frm (Frm.dat fun c hc => hc)) (fun c hc => by
        rcases hc with (hc | hc) | hc
        · exact q30.lt hc
        · obtain ⟨l, cl, h, _⟩ := m30; subst hc; exact h.lt
        · exact hd'.lt hc)
      refine hL.new fun b48 S31 hL hb48 hn31 => ?_
      (first | refine hL.st 0 _ rfl (by kernel_rfl) rfl (Nat.le_of_ble_eq_true rfl) rfl rfl fun S32 hL hn32 => ?_ | refine hL.st 1 _ rfl (by kernel_rfl) rfl (Nat.le_of_ble_eq_true rfl) rfl rfl fun S32 hL hn32 => ?_ | refine hL.st 2 _ rfl (by kernel_rfl) rfl (Nat.le_of_ble_eq_true rfl) rfl rfl fun S32 hL hn32 => ?_ | refine hL.st 3 _ rfl (by kernel_rfl) rfl (Nat.le_of_ble_eq_true rfl) rfl rfl fun S32 hL hn32 => ?_ | refine hL.st 4 _ rfl (by kernel_rfl) rfl (Nat.le_of_ble_eq_true rfl) rfl rfl fun S32 hL hn32 => ?_ | refine hL.st 5 _ rfl (by kernel_rfl) rfl (Nat.le_of_ble_eq_true rfl) rfl rfl fun S32 hL hn32 => ?_ | refine hL.st 6 _ rfl (by kernel_rfl) rfl (Nat.le_of_ble_eq_true rfl) rfl rfl fun S32 hL hn32 => ?_ | refine hL.st 7 _ rfl (by kernel_rfl) rfl (Nat.le_of_ble_eq_true rfl) rfl rfl fun S32 hL hn32 => ?_)
      (first | refine hL.ld 0 rfl (by kernel_rfl) _ rfl ?_ | refine hL.ld 1 rfl (by kernel_rfl) _ rfl ?_ | refine hL.ld 2 rfl (by kernel_rfl) _ rfl ?_ | refine hL.ld 3 rfl (by kernel_rfl) _ rfl ?_ | refine hL.ld 4 rfl (by kernel_rfl) _ rfl ?_ | refine hL.ld 5 rfl (by kernel_rfl) _ rfl ?_ | refine hL.ld 6 rfl (by kernel_rfl) _ rfl ?_ | refine hL.ld 7 rfl (by kernel_rfl) _ rfl ?_ | refine hL.lda 0 rfl (by kernel_rfl) _ rfl ?_ | refine hL.lda 1 rfl (by kernel_rfl) _ rfl ?_ | refine hL.lda 2 rfl (by kernel_rfl) _ rfl ?_ | refine hL.lda 3 rfl (by kernel_rfl) _ rfl ?_ | refine hL.lda 4 rfl (by kernel_rfl) _ rfl ?_ | refine hL.lda 5 rfl (by kernel_rfl) _ rfl ?_ | refine hL.lda 6 rfl (by kernel_rfl) _ rfl ?_ | refine hL.lda 7 rfl (by kernel_rfl) _ rfl ?_)
      refine ptrW_of ?_
      (first | refine hL.ld 0 rfl (by kernel_rfl) _ rfl ?_ | refine hL.ld 1 rfl (by kernel_rfl) _ rfl ?_ | refine hL.ld 2 rfl (by kernel_rfl) _ rfl ?_ | refine hL.ld 3 rfl (by kernel_rfl) _ rfl ?_ | refine hL.ld 4 rfl (by kernel_rfl) _ rfl ?_ | refine hL.ld 5 rfl (by kernel_rfl) _ rfl ?_ | refine hL.ld 6 rfl (by kernel_rfl) _ rfl ?_ | refine hL.ld 7 rfl (by kernel_rfl) _ rfl ?_ | refine hL.lda 0 rfl (by kernel_rfl) _ rfl ?_ | refine hL.lda 1 rfl (by kernel_rfl) _ rfl ?_ | refine hL.lda 2 rfl (by kernel_rfl) _ rfl ?_ | refine hL.lda 3 rfl (by kernel_rfl) _ rfl ?_ | refine hL.lda 4 rfl (by kernel_rfl) _ rfl ?_ | refine hL.lda 5 rfl (by kernel_rfl) _ rfl ?_ | refine hL.lda 6 rfl (by kernel_rfl) _ rfl ?_ | refine hL.lda 7 rfl (by kernel_rfl) _ rfl ?_)
      refine ⟨g y1, map_get hL.p.1.2 y1, ?_⟩
      refine evC_of (b28 (p := (y1, y2, y3, y4, y5)) hL.p.2.of hkp (by dsimp only at hdt ⊢; omega) fun S33 e33 => ⟨_, rfl, ?_⟩)
      refine ifW_of (fun h => by cases h) fun _ => ?_
      rw [wrap_succ (by omega)]
      exact hP2 _ _ _ (by omega) ⟨j + 1, rfl, by omega, rfl, (e30.tr hL.mod).tr e33⟩
    · refine ifW_of (fun _ => ?_) fun h => by cases h
      refine evC_of (b34 q30 k5 fun s5 S34 l34 e34 => ⟨s5, rfl, ?_⟩)
      refine evC_of (b34 (q30.ext e34) k5 fun s6 S35 l35 e35 => ⟨s6, rfl, ?_⟩)
      exact evC_of (b35 (l34.ext e35) l35 (by omega) fun S36 e36 => ⟨_, rfl, rfl⟩)
end
end Go.Proofs.Ytcookjolkhcjhaa
