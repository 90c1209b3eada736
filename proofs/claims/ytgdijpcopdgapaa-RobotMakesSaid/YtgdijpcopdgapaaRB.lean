/- Parts of the proof, put together. -/
import Derived.Test.YtgdijpcopdgapaaRA
/- Robots: records; searching and putting in claims. -/
namespace Go.Proofs.Ytgdijpcopdgapaa
open Go Go.Proofs.Ytgdijpcopdgapaa.D
set_option linter.unusedVariables false
set_option linter.unusedSimpArgs false
noncomputable section

def sortC (l : List Clm) : Prop := ∀ i j (hi : i < l.length) (hj : j < l.length), i < j → l[i].1 < l[j].1
theorem s60 {S : St} {sl : Sl} {acc : List Clm} {n : Int} (hs : SlOf clmC 2 S sl acc) (hlen : acc.length ≤ 10000) (hso : sortC acc) {k : Value → St → Prop}
    (hk : ∀ (i : Nat) (t : Bool) S', Ext S S' → i ≤ acc.length → (∀ j (h : j < acc.length), j < i → acc[j].1 < n) → (∀ j (h : j < acc.length), i ≤ j → n ≤ acc[j].1) → k (.tuple #[.int .i64 (i : Int), .bool t]) S') : WC E0 60 [.slice sl.a sl.len sl.cap, .int .i64 n, .func (.func 61) #[] #[]] S k := by
  refine w60 _ _ _ ?_
  unfold c60
  have hl := hs.len
  refine loopW_ind (fun q (x : Int × Int) S' => ∃ a b : Nat, x.1 = (a : Int) ∧ x.2 = (b : Int) ∧ a ≤ b ∧ b ≤ acc.length ∧ q = b - a ∧ Ext S S' ∧ (∀ j (h : j < acc.length), j < a → acc[j].1 < n) ∧ (∀ j (h : j < acc.length), b ≤ j → n ≤ acc[j].1)) (m := acc.length) ⟨0, acc.length, rfl, by rw [hl], by omega, by omega, by omega, Mod.refl _ _, fun j h h' => by omega, fun j h h' => by omega⟩ ?_
  rintro P q ⟨n1, n2⟩ S1 ⟨a, b, rfl, rfl, hab, hb, rfl, he, hlo, hhi⟩ hP
  dsimp only
  have hs1 := he.slOf hs
  refine ifW_dec (fun h => ?_) fun h => ?_
  · have hm : (a + b) / 2 < acc.length := by omega
    refine ⟨rfl, ?_⟩
    rw [half_eq (by omega)]
    refine slOf_getA (f := clmC) (sz := 2) (fun _ => rfl) hs1 ldAgg132 hm fun b1 o1 hld => ?_
    refine evV_of (ty := .one (.agg G131)) (acc[(a + b) / 2]) hld ?_
    refine evY_func (evC_of (show WC E0 61 [sv G131 (acc[(a + b) / 2]), .int .i64 n] S1 _ from s61 fun S2 e2 => ⟨_, rfl, ?_⟩))
    rw [wrap_succ (by omega)]
    have hc : cmpN acc[(a + b) / 2].1 n < 0 ↔ acc[(a + b) / 2].1 < n := by unfold cmpN; split; omega; split; omega; omega
    refine ifW_dec (fun h2 => ?_) fun h2 => ?_
    · refine hP _ _ _ (by omega) ⟨(a + b) / 2 + 1, b, rfl, rfl, by omega, hb, rfl, he.tr e2, fun j h h' => ?_, hhi⟩
      have h3 := hc.1 h2
      rcases Nat.lt_or_ge j ((a + b) / 2) with h4 | h4
      · have := hso j ((a + b) / 2) h hm h4; omega
      · have : j = (a + b) / 2 := by omega
        subst this; exact h3
    · refine hP _ _ _ (by omega) ⟨a, (a + b) / 2, rfl, rfl, by omega, by omega, rfl, he.tr e2, hlo, fun j h h' => ?_⟩
      have h3 : ¬ acc[(a + b) / 2].1 < n := fun hh => h2 (hc.2 hh)
      rcases Nat.lt_or_ge ((a + b) / 2) j with h4 | h4
      · have := hso ((a + b) / 2) j hm h h4; omega
      · have : j = (a + b) / 2 := by omega
        subst this; omega
  · have hab' : a = b := by omega
    subst hab'
    refine ifW_dec (fun h1 => ?_) fun h1 => ?_
    · have ha : a < acc.length := by omega
      refine slOf_getA (f := clmC) (sz := 2) (fun _ => rfl) hs1 ldAgg132 ha fun b1 o1 hld => ?_
      refine evV_of (ty := .one (.agg G131)) (acc[a]) hld ?_
      refine evY_func (evC_of (show WC E0 61 [sv G131 (acc[a]), .int .i64 n] S1 _ from s61 fun S2 e2 => ⟨_, rfl, ?_⟩))
      exact hk a _ _ (he.tr e2) hb hlo hhi
    · exact hk a _ _ he hb hlo hhi
theorem eq91 {S : St} {b o : Nat} : eqD E0 S 6 91 (.pointer (some ⟨b, o, none⟩)) (.pointer none) = some false := by kernel_rfl
theorem s41 {S : St} {b : Nat} {sl : Sl} {acc : List Clm} {n : Int} (hat : At S b (.cells [.slice sl.a sl.len sl.cap] none false none)) (hs : SlOf clmC 2 S sl acc) (hlen : acc.length ≤ 10000) (hso : sortC acc) {k : Value → St → Prop}
    (hk : ∀ (i : Nat) (t : Bool) S', Ext S S' → i ≤ acc.length → (∀ j (h : j < acc.length), j < i → acc[j].1 < n) → (∀ j (h : j < acc.length), i ≤ j → n ≤ acc[j].1) → k (.tuple #[.int .i64 (i : Int), .bool t]) S') : WC E0 41 [.pointer (some ⟨b, 0, none⟩), .int .i64 n] S k := by
  refine w41 _ _ ?_
  unfold c41
  refine ⟨false, eq91, ?_⟩
  refine ifW_of (fun h => by cases h) fun _ => ?_
  refine ptrW_of (ptrW_of (evV_of (ty := tS) sl (load_one hat (by kernel_rfl)) ?_))
  exact evC_of (s60 hs hlen hso fun i t S' e h1 h2 h3 => ⟨((i : Int), t), rfl, hk i t S' e h1 h2 h3⟩)
/-! ### A list that is put into -/
def OwC (S : St) (s : Sl) (l : List Clm) : Prop := (l = [] ∧ s = ⟨none, 0, 0⟩) ∨ ∃ b, l ≠ [] ∧ s = ⟨some ⟨b, 0, none⟩, l.length, inex⟩ ∧ At S b (.cells (l.flatMap clmC) (some 2) false none)
theorem OwC.len {S : St} {s : Sl} {l : List Clm} (h : OwC S s l) : s.len = l.length := by
  rcases h with ⟨rfl, rfl⟩ | ⟨b, _, rfl, _⟩ <;> rfl
theorem OwC.of {S : St} {s : Sl} {l : List Clm} (h : OwC S s l) : SlOf clmC 2 S s l := by
  rcases h with ⟨rfl, rfl⟩ | ⟨b, hl0, rfl, hat⟩
  · exact ⟨rfl, fun h => (h rfl).elim⟩
  · refine ⟨rfl, fun _ => ⟨b, 0, _, _, _, _, rfl, hat, ?_⟩⟩
    rw [List.drop_zero, List.take_of_length_le (by rw [flat_len (f := clmC) (sz := 2) (fun _ => rfl)]; exact Nat.le_refl _)]
theorem OwC.lt {S : St} {s : Sl} {l : List Clm} (h : OwC S s l) {c : Nat} (hc : slO s c) : c < S.next := by
  rcases h with ⟨rfl, rfl⟩ | ⟨b, hl0, rfl, hat⟩
  · obtain ⟨o, hc⟩ := hc; cases hc
  · obtain ⟨o, hc⟩ := hc; cases hc; exact hat.lt
theorem OwC.frm {s : Sl} {l : List Clm} : Frm (slO s) (fun S => OwC S s l) := by
  intro F S S' m hF h
  rcases h with ⟨rfl, rfl⟩ | ⟨b, hl0, rfl, hat⟩
  · exact .inl ⟨rfl, rfl⟩
  · exact .inr ⟨b, hl0, rfl, m.at hat (hF b ⟨0, rfl⟩)⟩
theorem OwC.nil {S : St} : OwC S ⟨none, 0, 0⟩ [] := .inl ⟨rfl, rfl⟩
theorem flat_take2 (l : List Clm) (i : Nat) : (l.flatMap clmC).take (i * 2) = (l.take i).flatMap clmC := by
  rcases Nat.lt_or_ge i l.length with h | h
  · have e : l.flatMap clmC = (l.take i).flatMap clmC ++ (l.drop i).flatMap clmC := by rw [← List.flatMap_append, List.take_append_drop]
    rw [e, List.take_left' (by rw [flat_len (f := clmC) (sz := 2) (fun _ => rfl), List.length_take]; omega)]
  · rw [List.take_of_length_le h, List.take_of_length_le (by rw [flat_len (f := clmC) (sz := 2) (fun _ => rfl)]; omega)]
theorem one_clm (l : List Clm) : (l.flatMap clmC).all St.one = true := by
  rw [List.all_eq_true]
  intro x hx
  obtain ⟨c, _, hx⟩ := List.mem_flatMap.1 hx
  simp only [clmC, List.mem_cons, List.not_mem_nil, or_false] at hx
  rcases hx with rfl | rfl <;> rfl
theorem s42 {S : St} {s : Sl} {l : List Clm} {x : Clm} {vb i : Nat} (h : OwC S s l) (hll : l.length ≤ 1000000) (hv : At S vb (.cells (clmC x) none false none)) (hi : i ≤ l.length) {k : Value → St → Prop}
    (hk : ∀ (s' : Sl) S', OwC S' s' (l.take i ++ x :: l.drop i) → D.Mod (slO s) S S' → (∀ c, slO s' c → S.next ≤ c) → k (.slice s'.a s'.len s'.cap) S') : WC E0 42 [.slice s.a s.len s.cap, .int .i64 (i : Int), .slice (some ⟨vb, 0, none⟩) 1 1] S k := by
  rcases h with ⟨rfl, rfl⟩ | ⟨b, hl0, rfl, hat⟩
  · have hi0 : i = 0 := by simpa using hi
    subst hi0
    refine WC_prim (E := E0) (f := 42) rfl (show insP 2 [.slice none 0 0, .int .i64 0, .slice (some ⟨vb, 0, none⟩) 1 1] S = some (.slice (some ⟨S.next, 0, none⟩) 1 inex, (S.alloc (.cells (clmC x) (some 2) false none)).2) from ?_) ?_
    · simp only [insP, hv.get]
      rfl
    · exact hk ⟨some ⟨S.next, 0, none⟩, 1, inex⟩ _ (.inr ⟨S.next, by simp, rfl, alloc_at⟩) (alloc_ext.mono fun _ h => h.elim) fun c hc => by obtain ⟨o, hc⟩ := hc; cases hc; exact Nat.le_refl _
  · have hfl : (l.flatMap clmC).length = l.length * 2 := flat_len (f := clmC) (sz := 2) (fun _ => rfl) l
    have hne : vb ≠ b := fun e => by
      subst e
      have := hv.get.symm.trans hat.get
      exact absurd (DObj.cells.inj (Option.some.inj this)).2.1 (by simp)
    have e1 : (l.flatMap clmC).take (i * 2) ++ (clmC x ++ (l.flatMap clmC).drop (i * 2)) = (l.take i ++ x :: l.drop i).flatMap clmC := by
      rw [flat_take2, flat_drop (f := clmC) (sz := 2) (fun _ => rfl)]
      simp only [List.flatMap_append, List.flatMap_cons]
    refine WC_prim (E := E0) (f := 42) rfl (show insP 2 [.slice (some ⟨b, 0, none⟩) l.length inex, .int .i64 (i : Int), .slice (some ⟨vb, 0, none⟩) 1 1] S = some (.slice (some ⟨S.next, 0, none⟩) (l.length + 1) inex, ((S.upd b .dead).alloc (.cells ((l.take i ++ x :: l.drop i).flatMap clmC) (some 2) false none)).2) from ?_) ?_
    · have g0 : decide ((0 : Int) ≤ (i : Int)) = true := by simp
      have g1 : Nat.ble i l.length = true := Nat.ble_eq_true_of_le hi
      have g2 : Nat.ble 1 l.length = true := Nat.ble_eq_true_of_le (List.length_pos_iff.2 hl0)
      have g3 : Nat.beq (clmC x).length 2 = true := rfl
      have g4 : (clmC x).all St.one = true := rfl
      have g5 : Nat.ble l.length 1000000 = true := Nat.ble_eq_true_of_le hll
      have g6 : Nat.beq vb b = false := Bool.eq_false_iff.2 fun hh => hne (Nat.eq_of_beq_eq_true hh)
      have g7 : Nat.beq (l.flatMap clmC).length (l.length * 2) = true := by rw [hfl, Nat.beq_refl]
      simp only [insP, hv.get, hat.get, Nat.beq_refl, g0, Int.toNat_natCast, g1, g2, g3, g4, g5, g6, g7, one_clm, Bool.not_false, Bool.and_true, cond_true, e1]
    · refine hk ⟨some ⟨S.next, 0, none⟩, l.length + 1, inex⟩ _ (.inr ⟨S.next, by simp, ?_, alloc_at⟩) ?_ fun c hc => by obtain ⟨o, hc⟩ := hc; cases hc; exact Nat.le_refl _
      · have : (l.take i ++ x :: l.drop i).length = l.length + 1 := by simp; omega
        rw [this]
      · exact ((upd_mod (S := S) (b := b) (o := .dead)).mono fun c h _ => h ▸ ⟨0, rfl⟩).tr alloc_ext
theorem sort_put {l : List Clm} {x : Clm} {i : Nat} (h : sortC l) (hi : i ≤ l.length) (h1 : ∀ j (h : j < l.length), j < i → l[j].1 < x.1) (h2 : ∀ j (h : j < l.length), i ≤ j → x.1 ≤ l[j].1) (hn : ∀ c ∈ l, c.1 ≠ x.1) : sortC (l.take i ++ x :: l.drop i) := by
  have hlt : (l.take i).length = i := by simp; omega
  have get : ∀ j (hj : j < (l.take i ++ x :: l.drop i).length), (j < i ∧ ∃ (h : j < l.length), (l.take i ++ x :: l.drop i)[j] = l[j]) ∨ (j = i ∧ (l.take i ++ x :: l.drop i)[j] = x) ∨ (i < j ∧ ∃ (h : j - 1 < l.length), (l.take i ++ x :: l.drop i)[j] = l[j - 1]) := by
    intro j hj
    have hj' : j < l.length + 1 := by simp at hj; omega
    rcases Nat.lt_trichotomy j i with h | h | h
    · refine .inl ⟨h, by omega, ?_⟩
      rw [List.getElem_append_left (by omega), List.getElem_take]
    · refine .inr (.inl ⟨h, ?_⟩)
      subst h
      rw [List.getElem_append_right (by omega)]
      simp [hlt]
    · refine .inr (.inr ⟨h, by omega, ?_⟩)
      rw [List.getElem_append_right (by omega)]
      have e : j - (l.take i).length = (j - i - 1) + 1 := by omega
      simp only [e, List.getElem_cons_succ, List.getElem_drop]
      congr 1
      omega
  have h2' : ∀ j (h : j < l.length), i ≤ j → x.1 < l[j].1 := fun j h hj => by
    have := h2 j h hj
    have := hn l[j] (List.getElem_mem h)
    omega
  intro a b ha hb hab
  rcases get a ha with ⟨g1, g2, g3⟩ | ⟨g1, g3⟩ | ⟨g1, g2, g3⟩ <;> rcases get b hb with ⟨k1, k2, k3⟩ | ⟨k1, k3⟩ | ⟨k1, k2, k3⟩ <;> rw [g3, k3]
  · exact h a b g2 k2 hab
  · exact h1 a g2 g1
  · have := h1 a g2 g1
    have := h2' (b - 1) k2 (by omega)
    omega
  · omega
  · omega
  · exact h2' (b - 1) k2 (by omega)
  · omega
  · omega
  · exact h (a - 1) (b - 1) g2 k2 (by omega)
theorem mem_put {l : List Clm} {x c : Clm} {i : Nat} : c ∈ l.take i ++ x :: l.drop i ↔ c = x ∨ c ∈ l := by
  have : c ∈ l ↔ c ∈ l.take i ∨ c ∈ l.drop i := by rw [← List.mem_append, List.take_append_drop]
  rw [List.mem_append, List.mem_cons, this]
  constructor
  · rintro (h | h | h)
    · exact .inr (.inl h)
    · exact .inl h
    · exact .inr (.inr h)
  · rintro (h | h | h)
    · exact .inr (.inl h)
    · exact .inl h
    · exact .inr (.inr h)
theorem pair_same : ∀ {l l' : List Clm}, (l.Pairwise fun a b => a.1 < b.1) → (l'.Pairwise fun a b => a.1 < b.1) → (∀ c, c ∈ l ↔ c ∈ l') → l = l'
  | [], [], _, _, _ => rfl
  | [], y :: t, _, _, hm => absurd ((hm y).2 (by simp)) (by simp)
  | x :: t, [], _, _, hm => absurd ((hm x).1 (by simp)) (by simp)
  | x :: t, y :: t', h, h', hm => by
    rw [List.pairwise_cons] at h h'
    have hxy : x = y := by
      rcases List.mem_cons.1 ((hm x).1 (by simp)) with e | e
      · exact e
      rcases List.mem_cons.1 ((hm y).2 (by simp)) with e' | e'
      · exact e'.symm
      have := h.1 y e'
      have := h'.1 x e
      omega
    subst hxy
    congr 1
    refine pair_same h.2 h'.2 fun c => ?_
    constructor
    · intro hc
      rcases List.mem_cons.1 ((hm c).1 (List.mem_cons_of_mem _ hc)) with e | e
      · subst e; have := h.1 c hc; omega
      · exact e
    · intro hc
      rcases List.mem_cons.1 ((hm c).2 (List.mem_cons_of_mem _ hc)) with e | e
      · subst e; have := h'.1 c hc; omega
      · exact e
/-- Two such lists of the same claims are the same. -/
theorem sort_same {l l' : List Clm} (h : sortC l) (h' : sortC l') (hm : ∀ c, c ∈ l ↔ c ∈ l') : l = l' :=
  pair_same (List.pairwise_iff_getElem.2 fun i j hi hj hij => h i j hi hj hij) (List.pairwise_iff_getElem.2 fun i j hi hj hij => h' i j hi hj hij) hm
end
end Go.Proofs.Ytgdijpcopdgapaa

/- Robots: records' claims. -/
namespace Go.Proofs.Ytgdijpcopdgapaa
open Go Go.Proofs.Ytgdijpcopdgapaa.D
set_option linter.unusedVariables false
set_option linter.unusedSimpArgs false
noncomputable section

/-! ### Numbers out of bytes -/
def vlA (v : Nat) (l : List UInt8) : Nat := l.foldl (fun v c => v * 256 + c.toNat) v
def vl (l : List UInt8) : Nat := vlA 0 l
theorem vlA_snoc (v : Nat) (l : List UInt8) (c : UInt8) : vlA v (l ++ [c]) = vlA v l * 256 + c.toNat := by simp [vlA, List.foldl_append]
theorem vl_snoc (l : List UInt8) (c : UInt8) : vl (l ++ [c]) = vl l * 256 + c.toNat := vlA_snoc 0 l c
theorem vl_lt : ∀ (n : Nat) (l : List UInt8), l.length = n → vl l < 256 ^ n := by
  intro n
  induction n with
  | zero => intro l h; rw [List.length_eq_zero_iff.1 h]; decide
  | succ n ih =>
    intro l h
    rcases List.eq_nil_or_concat l with rfl | ⟨t, c, rfl⟩
    · simp at h
    rw [List.concat_eq_append] at h ⊢
    have := ih t (by simpa using h)
    rw [vl_snoc, Nat.pow_succ]
    have hc := c.toNat_lt
    omega
theorem or_u32 {a b : Nat} (ha : a < 16777216) (hb : b < 256) : orI .u32 ((a * 256 : Nat) : Int) (b : Int) = ((a * 256 + b : Nat) : Int) := by
  have h1 : (BitVec.ofInt 32 ((a * 256 : Nat) : Int) ||| BitVec.ofInt 32 (b : Int)).toNat = a * 256 + b := by
    rw [BitVec.toNat_or, BitVec.ofInt_natCast, BitVec.ofInt_natCast, BitVec.toNat_ofNat, BitVec.toNat_ofNat, Nat.mod_eq_of_lt (by omega), Nat.mod_eq_of_lt (by omega)]
    have := Nat.two_pow_add_eq_or_of_lt (i := 8) hb a
    rw [show 2 ^ 8 * a = a * 256 from by omega] at this
    exact this.symm
  show IntKind.u32.wrap ((BitVec.ofInt 32 ((a * 256 : Nat) : Int) ||| BitVec.ofInt 32 (b : Int)).toNat : Int) = _
  rw [h1]
  simp only [IntKind.wrap, IntKind.signed, IntKind.bits, Bool.false_and]
  rw [if_neg (by simp)]
  omega
theorem step_u32 {a : Nat} {c : UInt8} (ha : a < 16777216) : orI .u32 (wrapI .u32 ((a : Int) * ((2 : Int) ^ min (Int.toNat 8) 32))) (wrapI .u32 (c.toNat : Int)) = ((a * 256 + c.toNat : Nat) : Int) := by
  have e : ((2 : Int) ^ min (Int.toNat 8) 32) = 256 := by decide
  have hc := c.toNat_lt
  rw [e, wrap_u32 (by omega) (by omega), wrap_u32 (by omega) (by omega)]
  have := or_u32 (a := a) (b := c.toNat) ha (by omega)
  rw [show ((a * 256 : Nat) : Int) = (a : Int) * 256 from by omega] at this
  exact this
/-! ### Records -/
abbrev Rc := Int × Int × Sl × List UInt8
abbrev recC (r : Rc) : List Value := [.int .i64 r.1, .int .i64 r.2.1, .slice r.2.2.1.a r.2.2.1.len r.2.2.1.cap]
structure RecsAt (S : St) (s : Sl) (l : List Rc) : Prop where
  sl : SlOf recC 3 S s l
  dat : ∀ r ∈ l, Bs S r.2.2.1 r.2.2.2
  cap : ∀ r ∈ l, r.2.2.1.len ≤ r.2.2.1.cap ∧ r.2.2.1.cap < inex
theorem RecsAt.ext {S S' : St} {s : Sl} {l : List Rc} (h : RecsAt S s l) (e : Ext S S') : RecsAt S' s l := ⟨e.slOf h.sl, fun r hr => e.slOf (h.dat r hr), h.cap⟩
def seen (l : List Rc) (i : Nat) (n : Int) : Prop := ∃ r ∈ l.take i, r.1 = 2 ∧ r.2.1 = n
def okAt (l : List Rc) (i : Nat) (r : Rc) : Prop := knownN r.2.1 ∧ (r.2.2.2.length = 0 ∨ r.2.2.2.length = 4) ∧ ¬ seen l i r.2.1
def clmOk (l : List Rc) : Prop := ∀ i (h : i < l.length), l[i].1 = 2 → okAt l i l[i]
def clmIn (l : List Rc) (c : Clm) : Prop := ∃ r ∈ l, r.1 = 2 ∧ r.2.2.2.length = 4 ∧ c = (r.2.1, (vl r.2.2.2 : Int))
def isF (r : Rc) : Bool := r.1 == 2 && r.2.2.2.length == 4
def cntC (l : List Rc) : Nat := (l.filter isF).length
section
variable {l : List Rc} {i : Nat}
theorem mem_take_succ (h : i < l.length) {r : Rc} : r ∈ l.take (i + 1) ↔ r ∈ l.take i ∨ r = l[i] := by
  rw [List.take_succ_eq_append_getElem h, List.mem_append, List.mem_singleton]
theorem seen_succ (h : i < l.length) {n : Int} : seen l (i + 1) n ↔ seen l i n ∨ (l[i].1 = 2 ∧ l[i].2.1 = n) := by
  unfold seen
  constructor
  · rintro ⟨r, hr, h1⟩
    rcases (mem_take_succ h).1 hr with hr | rfl
    · exact .inl ⟨r, hr, h1⟩
    · exact .inr h1
  · rintro (⟨r, hr, h1⟩ | h1)
    · exact ⟨r, (mem_take_succ h).2 (.inl hr), h1⟩
    · exact ⟨_, (mem_take_succ h).2 (.inr rfl), h1⟩
theorem in_succ (h : i < l.length) {c : Clm} : clmIn (l.take (i + 1)) c ↔ clmIn (l.take i) c ∨ (l[i].1 = 2 ∧ l[i].2.2.2.length = 4 ∧ c = (l[i].2.1, (vl l[i].2.2.2 : Int))) := by
  unfold clmIn
  constructor
  · rintro ⟨r, hr, h1⟩
    rcases (mem_take_succ h).1 hr with hr | rfl
    · exact .inl ⟨r, hr, h1⟩
    · exact .inr h1
  · rintro (⟨r, hr, h1⟩ | h1)
    · exact ⟨r, (mem_take_succ h).2 (.inl hr), h1⟩
    · exact ⟨_, (mem_take_succ h).2 (.inr rfl), h1⟩
theorem cnt_succ (h : i < l.length) : cntC (l.take (i + 1)) = cntC (l.take i) + if isF l[i] = true then 1 else 0 := by
  unfold cntC
  rw [List.take_succ_eq_append_getElem h, List.filter_append, List.length_append]
  congr 1
  by_cases hf : isF l[i] = true
  · simp [hf]
  · simp [hf]
theorem isF_iff {r : Rc} : isF r = true ↔ r.1 = 2 ∧ r.2.2.2.length = 4 := by unfold isF; simp
theorem in_seen {c : Clm} (h : clmIn (l.take i) c) : seen l i c.1 := by
  obtain ⟨r, hr, h1, _, rfl⟩ := h
  exact ⟨r, hr, h1, rfl⟩
end
/-- .. skipped. -/
theorem skip_succ {l : List Rc} {i : Nat} (h : i < l.length) (h2 : ¬ l[i].1 = 2) : (∀ n, seen l (i + 1) n ↔ seen l i n) ∧ (∀ c, clmIn (l.take (i + 1)) c ↔ clmIn (l.take i) c) ∧ cntC (l.take (i + 1)) = cntC (l.take i) := by
  refine ⟨fun n => ?_, fun c => ?_, ?_⟩
  · rw [seen_succ h]; exact ⟨fun hh => hh.elim id fun hh => (h2 hh.1).elim, .inl⟩
  · rw [in_succ h]; exact ⟨fun hh => hh.elim id fun hh => (h2 hh.1).elim, .inl⟩
  · rw [cnt_succ h, if_neg fun hh => h2 (isF_iff.1 hh).1]; rfl
theorem no_succ {l : List Rc} {i : Nat} (h : i < l.length) (h4 : ¬ l[i].2.2.2.length = 4) : (∀ c, clmIn (l.take (i + 1)) c ↔ clmIn (l.take i) c) ∧ cntC (l.take (i + 1)) = cntC (l.take i) := by
  refine ⟨fun c => ?_, ?_⟩
  · rw [in_succ h]; exact ⟨fun hh => hh.elim id fun hh => (h4 hh.2.1).elim, .inl⟩
  · rw [cnt_succ h, if_neg fun hh => h4 (isF_iff.1 hh).2]; rfl
theorem MapFn.frm {b : Nat} {f : Int → Option Value} : Frm (fun c => c = b) (fun S => MapFn S b f) := by
  intro F S S' m hF h
  obtain ⟨es, clock, h1, h2⟩ := h
  exact ⟨es, clock, m.at h1 (hF b rfl), h2⟩
theorem MapFn.lt {S : St} {b : Nat} {f : Int → Option Value} (h : MapFn S b f) : b < S.next := by
  obtain ⟨es, clock, h1, _⟩ := h
  exact h1.lt
theorem MapFn.congr {S : St} {b : Nat} {f g : Int → Option Value} (h : MapFn S b f) (e : ∀ n, f n = g n) : MapFn S b g := by
  have : f = g := funext e
  subst this; exact h
open Classical in
def metF (l : List Rc) (i : Nat) (n : Int) : Option Value := if seen l i n then some (.int .i64 1) else none
abbrev PC (b2 : Nat) (sl : Sl) (acc : List Clm) (f : Int → Option Value) (S : St) : Prop := OwC S sl acc ∧ MapFn S b2 f
abbrev OC (b2 : Nat) (sl : Sl) (c : Nat) : Prop := slO sl c ∨ c = b2
structure IC (S S' : St) (b1 b2 : Nat) (L : List (Nat × DObj)) (l : List Rc) (i : Nat) (sl : Sl) (acc : List Clm) (f : Int → Option Value) : Prop where
  cx : Cx noB S S' (L ++ [(b1, .cells [.slice sl.a sl.len sl.cap] none false none)]) (OC b2 sl) (PC b2 sl acc f)
  own : ∀ c, slO sl c → S.next ≤ c ∧ c ≠ b2
  b2 : S.next ≤ b2
  so : sortC acc
  mem : ∀ c, c ∈ acc ↔ clmIn (l.take i) c
  cnt : acc.length = cntC (l.take i)
  ok : ∀ j (h : j < l.length), j < i → l[j].1 = 2 → okAt l j l[j]
theorem cntC_le {l : List Rc} : cntC l ≤ l.length := List.length_filter_le _ _
theorem PC.frm {b2 : Nat} {sl : Sl} {acc : List Clm} {f : Int → Option Value} : Frm (OC b2 sl) (PC b2 sl acc f) := Frm.and OwC.frm MapFn.frm
theorem PC.lt {b2 : Nat} {sl : Sl} {acc : List Clm} {f : Int → Option Value} {S : St} (h : PC b2 sl acc f S) (c : Nat) (hc : OC b2 sl c) : c < S.next := by
  rcases hc with hc | rfl
  · exact h.1.lt hc
  · exact h.2.lt
theorem ldAgg146 : ldAgg E0 146 3 = true := by kernel_rfl
set_option maxHeartbeats 2000000 in
theorem s19 {S : St} {s : Sl} {l : List Rc} (hr : RecsAt S s l) (hlen : l.length ≤ 1000) {k : Value → St → Prop}
    (hno : ¬ clmOk l → ∀ S', Ext S S' → k (.tuple #[.pointer none, .int .i64 130]) S')
    (hfull : clmOk l → 16 < cntC l → ∀ S', Ext S S' → k (.tuple #[.pointer none, .int .i64 151]) S')
    (hok : clmOk l → ¬ 16 < cntC l → ∀ b sl acc S', Ext S S' → At S' b (.cells [.slice sl.a sl.len sl.cap] none false none) → OwC S' sl acc → sortC acc → (∀ c, c ∈ acc ↔ clmIn l c) → acc.length ≤ 16 → k (.tuple #[.pointer (some ⟨b, 0, none⟩), .int .i64 0]) S') : WC E0 19 [.slice s.a s.len s.cap] S k := by
  refine w19 s ?_
  unfold c19
  have hsl := hr.sl.len
  have hL := Cx.start (S := S) noB OwC.nil OwC.frm fun c hc => OwC.lt (OwC.nil (S := S)) hc
  refine hL.new fun b1 S1 hL hb1 hn1 => ?_
  refine newW_of fun b2 S2 hb2 hat2 he2 hn2 => ?_
  have hm2 : MapFn S2 b2 (fun _ => none) := MapFn.nil hat2
  have hL : Cx noB S S2 [(b1, .cells [.slice none 0 0] none false none)] (OC b2 ⟨none, 0, 0⟩) (PC b2 ⟨none, 0, 0⟩ [] fun _ => none) :=
    hL.op he2 (fun _ h => h.elim) (fun _ h => h.elim) (⟨OwC.nil, hm2⟩ : PC b2 ⟨none, 0, 0⟩ [] (fun _ => none) S2) PC.frm (fun c hc => hc.imp id fun h => by omega) fun c hc => PC.lt ⟨OwC.nil, hm2⟩ c hc
  refine loopW_ind (fun q (n : Int) S' => ∃ (i : Nat) (sl : Sl) (acc : List Clm) (f : Int → Option Value), n = (i : Int) ∧ i ≤ l.length ∧ q = l.length - i ∧ IC S S' b1 b2 [] l i sl acc f ∧ ∀ n, f n = metF l i n) (m := l.length) ⟨0, ⟨none, 0, 0⟩, [], fun _ => none, rfl, by omega, rfl, ⟨hL, (fun c hc => by obtain ⟨o, hc⟩ := hc; cases hc), by omega, fun i j hi => by simp at hi, fun c => ⟨fun h => by simp at h, fun ⟨r, h, _⟩ => by simp at h⟩, rfl, fun j h h' => by omega⟩, fun n => (if_neg fun ⟨r, h, _⟩ => by simp at h).symm⟩ ?_
  rintro P q n S3 ⟨i, sl, acc, f, rfl, hi, rfl, hI, hf⟩ hP
  have he3 : Ext S S3 := hI.cx.mod
  have hr3 := hr.ext he3
  have haccl : acc.length ≤ 1000 := by have := hI.cnt; have := cntC_le (l := l.take i); simp at this; omega
  refine ifW_dec (fun hlt => ?_) fun hlt => ?_
  · have hi' : i < l.length := by omega
    refine slOf_getA (f := recC) (sz := 3) (fun _ => rfl) hr3.sl ldAgg146 hi' fun b3 o3 hld => ?_
    have hbd : Bs S3 l[i].2.2.1 l[i].2.2.2 := hr3.dat _ (List.getElem_mem hi')
    have hss := fun n => seen_succ (l := l) (i := i) hi' (n := n)
    have hin := fun c => in_succ (l := l) (i := i) hi' (c := c)
    have hskip := skip_succ (l := l) (i := i) hi'
    have hno0 := no_succ (l := l) (i := i) hi'
    have hcs := cnt_succ (l := l) (i := i) hi'
    have hokS : ∀ (P : Prop), (l[i].1 = 2 → okAt l i l[i]) → ∀ j (h : j < l.length), j < i + 1 → l[j].1 = 2 → okAt l j l[j] := fun _ h1 j h hj => by
      rcases Nat.lt_or_ge j i with h' | h'
      · exact hI.ok j h h'
      · have : j = i := by omega
        subst this; exact h1
    have hokS := hokS True
    have hbad : (l[i].1 = 2 ∧ ¬ okAt l i l[i]) → ¬ clmOk l := fun h hk => h.2 (hk i hi' h.1)
    refine evV_of (ty := .one (.agg G145)) (l[i].1, l[i].2.1, l[i].2.2.1) hld ?_
    generalize hri : l[i] = r at *
    obtain ⟨kd, nn, ds, dt⟩ := r
    dsimp only at *
    have hL := hI.cx
    rw [List.nil_append] at hL
    refine hL.new fun b5 S4 hL hb5 hn4 => ?_
    refine hL.st 0 3 rfl (by kernel_rfl) rfl (Nat.le_of_ble_eq_true rfl) rfl rfl fun S5 hL hn5 => ?_
    refine ptrW_of ?_
    refine hL.ld 0 rfl (by kernel_rfl) kd rfl ?_
    refine ifW_ndec (fun h2 => ?_) fun h2 => ?_
    · obtain ⟨g1, g2, g3⟩ := hskip h2
      rw [wrap_succ (by omega)]
      exact hP _ _ _ (by omega) ⟨i + 1, sl, acc, f, rfl, by omega, rfl, ⟨hL.tl 1, hI.own, hI.b2, hI.so, fun c => by rw [g2]; exact hI.mem c, by rw [g3]; exact hI.cnt, hokS fun h => (h2 h).elim⟩, fun n => by rw [hf]; unfold metF; by_cases hh : seen l i n; rw [if_pos hh, if_pos ((g1 n).2 hh)]; rw [if_neg hh, if_neg fun h => hh ((g1 n).1 h)]⟩
    have h2 : kd = 2 := h2
    subst h2
    obtain ⟨cn, hcn, hcn1, hcn0⟩ : ∃ cn : Int, (f nn).getD (.int .i64 0) = .int .i64 cn ∧ (seen l i nn → cn = 1) ∧ (¬ seen l i nn → cn = 0) := by
      rw [hf]
      unfold metF
      by_cases hh : seen l i nn
      · rw [if_pos hh]; exact ⟨1, rfl, fun _ => rfl, fun h => (h hh).elim⟩
      · rw [if_neg hh]; exact ⟨0, rfl, fun h => (hh h).elim, fun _ => rfl⟩
    have hcw : wrapI .i64 (cn + 1) = cn + 1 := by
      by_cases hh : seen l i nn
      · rw [hcn1 hh]; exact wrap_i64 (by omega) (by omega)
      · rw [hcn0 hh]; exact wrap_i64 (by omega) (by omega)
    refine ptrW_of ?_
    refine hL.ld 0 rfl (by kernel_rfl) nn rfl ?_
    refine evV_of (ty := tI) cn ((lookup_fn hL.p.2 und106 key3 zero3).trans (by rw [hcn]; rfl)) ?_
    rw [hcw]
    refine update_fn hL.p.2 und106 key3 fun S6 hm6 m6 hn6 => ?_
    have hL : Cx noB S S6 _ (OC b2 sl) (PC b2 sl acc fun m => if m = nn then some (.int .i64 (cn + 1)) else f m) :=
      hL.op m6 (fun c h => .inr h) (fun c h hlt => by have := hI.b2; omega) (⟨OwC.frm _ _ _ m6.kp (fun c hc h => (hI.own c hc).2 h) hL.p.1, hm6⟩ : PC b2 sl acc _ S6) PC.frm (fun c hc => .inl hc) (fun c hc => PC.lt (⟨OwC.frm _ _ _ m6.kp (fun c hc h => (hI.own c hc).2 h) hL.p.1, hm6⟩ : PC b2 sl acc _ S6) c hc)
    have hf' : ¬ seen l i nn → ∀ n, (fun m => if m = nn then some (.int .i64 (cn + 1)) else f m) n = metF l (i + 1) n := fun h0 n => by
      show (if n = nn then some (Value.int .i64 (cn + 1)) else f n) = _
      unfold metF
      by_cases hn : n = nn
      · subst hn
        rw [if_pos rfl, if_pos ((hss _).2 (.inr ⟨rfl, rfl⟩)), hcn0 h0]; rfl
      · rw [if_neg hn, hf]
        unfold metF
        by_cases hh : seen l i n
        · rw [if_pos hh, if_pos ((hss _).2 (.inl hh))]
        · rw [if_neg hh, if_neg fun h => ((hss _).1 h).elim hh fun h => hn h.2.symm]
    generalize hff : (fun m => if m = nn then some (Value.int .i64 (cn + 1)) else f m) = f' at hL hf'
    have hf'n : f' nn = some (.int .i64 (cn + 1)) := by rw [← hff]; exact if_pos rfl
    refine ptrW_of ?_
    refine hL.ld 0 rfl (by kernel_rfl) nn rfl ?_
    refine evC_of (s40 ⟨_, rfl, ?_⟩)
    refine ifW_ndec (fun hkn => hno (hbad ⟨rfl, fun h => hkn h.1⟩) _ hL.mod) fun hkn => ?_
    refine ptrW_of ?_
    refine hL.ld 0 rfl (by kernel_rfl) ds rfl ?_
    have hdl := hbd.len
    refine ifW_ndec (fun hl0 => ?_) fun hl0 => ?_
    · refine ptrW_of ?_
      refine hL.ld 0 rfl (by kernel_rfl) ds rfl ?_
      refine ifW_ndec (fun hl4 => hno (hbad ⟨rfl, fun h => by have := h.2.1; dsimp only at this; omega⟩) _ hL.mod) fun hl4 => ?_
      have hd4 : dt.length = 4 := by omega
      refine ptrW_of ?_
      refine hL.ld 0 rfl (by kernel_rfl) nn rfl ?_
      refine evV_of (ty := tI) (cn + 1) ((lookup_fn hL.p.2 und106 key3 zero3).trans (by rw [hf'n]; rfl)) ?_
      refine ifW_dec (fun hs1 => hno (hbad ⟨rfl, fun h => by have := hcn0 h.2.2; omega⟩) _ hL.mod) fun hs1 => ?_
      have hns : ¬ seen l i nn := fun h => by have := hcn1 h; omega
      have hat : okAt l i (2, nn, ds, dt) := ⟨hkn, .inr hd4, hns⟩
      refine ptrW_of ?_
      refine hL.ld 0 rfl (by kernel_rfl) ds rfl ?_
      have hmem : ((2, nn, ds, dt) : Rc) ∈ l := by rw [← hri]; exact List.getElem_mem hi'
      have hbd6 : Bs S6 ds dt := Ext.slOf hL.mod (hr.dat _ hmem)
      refine loopW_ind (fun q (x : Int × Int) S' => ∃ j : Nat, x = ((vl (dt.take j) : Int), (j : Int)) ∧ j ≤ 4 ∧ q = 4 - j ∧ S' = S6) (m := 4) ⟨0, rfl, by omega, rfl, rfl⟩ ?_
      rintro P2 q2 x2 S8 ⟨j, rfl, hj, rfl, rfl⟩ hP2
      dsimp only
      refine ifW_dec (fun hjl => ?_) fun hjl => ?_
      · have hj4 : j < dt.length := by omega
        refine hbd6.get1n (n := j) (g := byV) inf5 agg5 hj4 fun b1 o1 hld _ => evV_of (ty := tU8) _ (hld _ rfl) ?_
        refine ⟨rfl, ?_⟩
        have hv : vl (dt.take j) < 16777216 := by
          have h1 := vl_lt j (dt.take j) (by simp; omega)
          have h2 : 256 ^ j ≤ 256 ^ 3 := Nat.pow_le_pow_right (by omega) (by omega)
          omega
        rw [step_u32 hv, wrap_succ (by omega), ← vl_snoc, ← List.take_succ_eq_append_getElem hj4]
        exact hP2 _ _ _ (by omega) ⟨j + 1, rfl, by omega, rfl, rfl⟩
      · have hj4 : j = 4 := by omega
        subst hj4
        have htk : dt.take 4 = dt := List.take_of_length_le (by omega)
        rw [htk]
        refine ptrW_of ?_
        refine hL.ld 0 rfl (by kernel_rfl) ds rfl ?_
        refine ifW_pos (by omega) ?_
        refine ptrW_of ?_
        refine hL.ld 0 rfl (by kernel_rfl) nn rfl ?_
        refine evC_of (s41 (hL.at 1 rfl) hL.p.1.of (by omega) hI.so fun p t S9 e9 hp h1 h2 => ⟨((p : Int), t), rfl, ?_⟩)
        have hL := hL.ext e9
        dsimp only
        refine ptrW_of (ptrW_of ?_)
        refine hL.ld 1 rfl (by kernel_rfl) sl rfl ?_
        refine ptrW_of ?_
        refine hL.ld 0 rfl (by kernel_rfl) nn rfl ?_
        refine hL.new fun b32 S10 hL hb32 hn10 => ?_
        refine hL.ld 2 rfl (by kernel_rfl) sl rfl ?_
        refine sameV_of ?_
        have hnx := hL.mod.next
        have hb2n := PC.lt hL.p b2 (.inr rfl)
        refine evC_of (s42 (x := (nn, (vl dt : Int))) hL.p.1 (by omega) (hL.at 0 rfl) hp fun s' S11 ho' m11 hs' => ⟨s', rfl, ?_⟩)
        have hb2s : ¬ slO sl b2 := fun h => (hI.own b2 h).2 rfl
        have hp' : PC b2 s' (acc.take p ++ (nn, (vl dt : Int)) :: acc.drop p) f' S11 := ⟨ho', hL.p.2.mod m11 hb2s⟩
        have hL := hL.op m11 (fun c h => .inl h) (fun c h hlt => by have := (hI.own c h).1; omega) hp' PC.frm (fun c hc => hc.elim (fun h => .inr (hs' c h)) fun h => .inl (.inr h)) (fun c hc => PC.lt hp' c hc)
        refine ptrW_of (ptrW_of ?_)
        refine hL.st 2 _ rfl (by kernel_rfl) rfl (Nat.le_of_ble_eq_true rfl) rfl rfl fun S12 hL hn12 => ?_
        rw [wrap_succ (by omega)]
        have hnin : ∀ c ∈ acc, c.1 ≠ nn := fun c hc e => hns (by rw [← e]; exact in_seen ((hI.mem c).1 hc))
        refine hP _ _ _ (by omega) ⟨i + 1, s', acc.take p ++ (nn, (vl dt : Int)) :: acc.drop p, f', rfl, by omega, rfl, ⟨hL.tl 2, fun c hc => ?_, hI.b2, sort_put hI.so hp h1 h2 hnin, fun c => ?_, ?_, hokS fun _ => hat⟩, hf' hns⟩
        · have := hs' c hc
          exact ⟨by omega, by omega⟩
        · rw [mem_put, hin, hI.mem]
          exact ⟨fun h => h.elim (fun h => .inr ⟨rfl, hd4, h⟩) .inl, fun h => h.elim .inr fun h => .inl h.2.2⟩
        · rw [hcs, if_pos (isF_iff.2 ⟨rfl, hd4⟩), ← hI.cnt]
          simp
          omega
    · have hl0 : ds.len = 0 := by have : (ds.len : Int) = 0 := hl0; omega
      have hd0 : dt.length = 0 := by omega
      refine ptrW_of ?_
      refine hL.ld 0 rfl (by kernel_rfl) nn rfl ?_
      refine evV_of (ty := tI) (cn + 1) ((lookup_fn hL.p.2 und106 key3 zero3).trans (by rw [hf'n]; rfl)) ?_
      refine ifW_dec (fun hs1 => hno (hbad ⟨rfl, fun h => by have := hcn0 h.2.2; omega⟩) _ hL.mod) fun hs1 => ?_
      have hns : ¬ seen l i nn := fun h => by have := hcn1 h; omega
      have hat : okAt l i (2, nn, ds, dt) := ⟨hkn, .inl hd0, hns⟩
      refine ptrW_of ?_
      refine hL.ld 0 rfl (by kernel_rfl) ds rfl ?_
      refine loopW_ind (fun q (x : Int × Int) S' => x = (0, 0) ∧ S' = S6) (m := 0) ⟨rfl, rfl⟩ ?_
      rintro P2 q2 x2 S8 ⟨rfl, rfl⟩ hP2
      dsimp only
      refine ifW_neg (by omega) ?_
      refine ptrW_of ?_
      refine hL.ld 0 rfl (by kernel_rfl) ds rfl ?_
      refine ifW_neg (by omega) ?_
      rw [wrap_succ (by omega)]
      obtain ⟨g2, g3⟩ := hno0 (by omega)
      exact hP _ _ _ (by omega) ⟨i + 1, sl, acc, f', rfl, by omega, rfl, ⟨hL.tl 1, hI.own, hI.b2, hI.so, fun c => by rw [g2]; exact hI.mem c, by rw [g3]; exact hI.cnt, hokS fun _ => hat⟩, hf' hns⟩
  · have hi' : i = l.length := by omega
    subst hi'
    have hcnt := hI.cnt
    have hmem := hI.mem
    rw [List.take_length] at hcnt hmem
    have hall : clmOk l := fun j h => hI.ok j h h
    have hL := hI.cx
    refine ptrW_of (ptrW_of ?_)
    refine hL.ld 0 rfl (by kernel_rfl) sl rfl ?_
    have hlen2 := OwC.len hL.p.1
    refine ifW_dec (fun h => ?_) fun h => ?_
    · exact hfull hall (by omega) _ he3
    · exact hok hall (by omega) b1 sl acc S3 he3 (hL.at 0 rfl) hL.p.1 hI.so hmem (by omega)
end
end Go.Proofs.Ytgdijpcopdgapaa

/- Robots: records' claims, the document's; lists of them. -/
namespace Go.Proofs.Ytgdijpcopdgapaa
open Go Go.Proofs.Ytgdijpcopdgapaa.D
set_option linter.unusedVariables false
set_option linter.unusedSimpArgs false
noncomputable section

/-- A field of an element. -/
theorem slOf_fld {α : Type} {f : α → List Value} {sz : Nat} (hf : ∀ x, (f x).length = sz) {S : St} {s : Sl} {l : List α} (h : SlOf f sz S s l) {n : Nat} (hn : n < l.length) {k : Nat → Nat → Prop}
    (hk : ∀ b o, (∀ j t, j < sz → ldOk E0 t = true → loadV E0 S t (.pointer (some ⟨b, o + (n : Int).toNat * sz + j, none⟩)) = (f l[n])[j]?) → k b o) : idxW s.a s.len (n : Int) k := by
  refine h.idx hf (i := (n : Int)) (by omega) (by omega) fun b o cs more ro fz hat _ hc => hk b o fun j t hj ht => ?_
  rw [load_one hat ht]
  have hc : (cs.drop (o + (n : Int).toNat * sz)).take sz = f l[n] := hc
  rw [← hc, List.getElem?_take_of_lt hj, List.getElem?_drop]
theorem rec_fld {S : St} {s : Sl} {l : List Rc} (h : RecsAt S s l) {n : Nat} (hn : n < l.length) {k : Nat → Nat → Prop}
    (hk : ∀ b o, (∀ j t, j < 3 → ldOk E0 t = true → loadV E0 S t (.pointer (some ⟨b, o + (n : Int).toNat * 3 + j, none⟩)) = (recC l[n])[j]?) → k b o) : idxW s.a s.len (n : Int) k := slOf_fld (f := recC) (sz := 3) (fun _ => rfl) h.sl hn hk
theorem scan {S0 : St} {s : Sl} {l : List Rc} (hr : RecsAt S0 s l) {i : Nat} (hi : i ≤ l.length) (hlen : l.length ≤ 1000) {b4 : Nat} {r : Rc} (hat : At S0 b4 (.cells (recC r) none false none)) {bad REST : St → Prop} (h1 : seen l i r.2.1 → bad S0) (h2 : ¬ seen l i r.2.1 → REST S0) :
    loopW (fun (k2 : Int → St → Prop) (n3 : Int) (S6 : St) =>
      ifW (ltI n3 (i : Int))
        (idxW s.a s.len n3 fun (b13 b14 : Nat) =>
          ptrW (some ⟨b13, b14 + Int.toNat n3 * 3, none⟩) fun (b15 b16 : Nat) =>
            evV tI (loadV E0 S6 3 (.pointer (some ⟨b15, b16 + 0, none⟩))) fun (n4 : Int) =>
              ifW (eqI n4 2)
                (idxW s.a s.len n3 fun (b17 b18 : Nat) =>
                  ptrW (some ⟨b17, b18 + Int.toNat n3 * 3, none⟩) fun (b19 b20 : Nat) =>
                    evV tI (loadV E0 S6 3 (.pointer (some ⟨b19, b20 + 1, none⟩))) fun (n5 : Int) =>
                      ptrW (some ⟨b4, 0, none⟩) fun (b21 b22 : Nat) =>
                        evV tI (loadV E0 S6 3 (.pointer (some ⟨b21, b22 + 1, none⟩))) fun (n6 : Int) => ifW (eqI n5 n6) (bad S6) (k2 (wrapI .i64 (n3 + 1)) S6))
                (k2 (wrapI .i64 (n3 + 1)) S6))
        (REST S6)) 0 S0 := by
  refine loopW_ind (fun q (n : Int) S' => ∃ j : Nat, n = (j : Int) ∧ j ≤ i ∧ q = i - j ∧ S' = S0 ∧ ¬ seen l j r.2.1) (m := i) ⟨0, rfl, by omega, rfl, rfl, fun ⟨r, h, _⟩ => by simp at h⟩ ?_
  rintro P q n S1 ⟨j, rfl, hj, rfl, rfl, hns⟩ hP
  refine ifW_dec (fun h => ?_) fun h => ?_
  · have hj' : j < l.length := by omega
    have hss := fun n => seen_succ (l := l) (i := j) hj' (n := n)
    refine rec_fld hr hj' fun b13 b14 hld => ?_
    refine ptrW_of (evV_of (ty := tI) l[j].1 (hld 0 3 (by omega) (by kernel_rfl)) ?_)
    refine ifW_dec (fun h3 => ?_) fun h3 => ?_
    · refine rec_fld hr hj' fun b17 b18 hld2 => ?_
      refine ptrW_of (evV_of (ty := tI) l[j].2.1 (hld2 1 3 (by omega) (by kernel_rfl)) ?_)
      refine ptrW_of (evV_of (ty := tI) r.2.1 (load_one hat (by kernel_rfl)) ?_)
      refine ifW_dec (fun h4 => ?_) fun h4 => ?_
      · refine h1 ⟨l[j], ?_, h3, h4⟩
        exact List.mem_take_iff_getElem.2 ⟨j, by omega, rfl⟩
      · rw [wrap_succ (by omega)]
        exact hP _ _ _ (by omega) ⟨j + 1, rfl, by omega, rfl, rfl, fun h => ((hss _).1 h).elim hns fun h => h4 h.2⟩
    · rw [wrap_succ (by omega)]
      exact hP _ _ _ (by omega) ⟨j + 1, rfl, by omega, rfl, rfl, fun h => ((hss _).1 h).elim hns fun h => h3 h.1⟩
  · have : j = i := by omega
    subst this
    exact h2 hns
/-! ### The document's row of cells -/
def kC (F : Nat → Bool) (G : Nat → Int) : List Value := (List.range 1024).map (fun n => .bool (F n)) ++ (List.range 1024).map (fun n => .int .u32 (G n))
theorem zeroK_eq : zeroK = kC (fun _ => false) (fun _ => 0) := by
  unfold zeroK kC
  rw [List.map_const', List.map_const', List.length_range]
theorem map_range_set {α : Type} {N n : Nat} {f : Nat → α} {v : α} : ((List.range N).map f).set n v = (List.range N).map (fun m => if m = n then v else f m) := by
  refine List.ext_getElem (by simp) fun i h1 h2 => ?_
  rw [List.getElem_set]
  simp only [List.getElem_map, List.getElem_range]
  by_cases h : n = i
  · rw [if_pos h, if_pos h.symm]
  · rw [if_neg h, if_neg fun e => h e.symm]
theorem set_take {l : List Value} {n : Nat} {v : Value} (h : n < l.length) : l.take n ++ ([v] ++ l.drop (n + 1)) = l.set n v := by
  rw [List.set_eq_take_append_cons_drop, if_pos h]; rfl
theorem kC_len {F : Nat → Bool} {G : Nat → Int} : (kC F G).length = 2048 := by unfold kC; simp
theorem set_mapF {N n : Nat} {F : Nat → Bool} : ((List.range N).map fun m => Value.bool (F m)).set n (.bool true) = (List.range N).map fun m => Value.bool (if m = n then true else F m) := by
  rw [map_range_set]
  refine List.map_congr_left fun m _ => ?_
  by_cases h : m = n
  · rw [if_pos h, if_pos h]
  · rw [if_neg h, if_neg h]
theorem set_mapG {N n : Nat} {G : Nat → Int} {g : Int} : ((List.range N).map fun m => Value.int .u32 (G m)).set n (.int .u32 g) = (List.range N).map fun m => Value.int .u32 (if m = n then g else G m) := by
  rw [map_range_set]
  refine List.map_congr_left fun m _ => ?_
  by_cases h : m = n
  · rw [if_pos h, if_pos h]
  · rw [if_neg h, if_neg h]
theorem kC_set1 {F : Nat → Bool} {G : Nat → Int} {n : Nat} (h : n < 1024) : (kC F G).set n (.bool true) = kC (fun m => if m = n then true else F m) G := by
  unfold kC
  rw [List.set_append_left _ _ (by simpa using h), set_mapF]
theorem kC_set2 {F : Nat → Bool} {G : Nat → Int} {n : Nat} (h : n < 1024) {g : Int} : (kC F G).set (1024 + n) (.int .u32 g) = kC F (fun m => if m = n then g else G m) := by
  unfold kC
  rw [List.set_append_right _ _ (by simp), List.length_map, List.length_range, Nat.add_sub_cancel_left, set_mapG]
theorem kC_get1 {F : Nat → Bool} {G : Nat → Int} {n : Nat} (h : n < 1024) : (kC F G)[n]? = some (.bool (F n)) := by
  unfold kC
  rw [List.getElem?_append_left (by simpa using h), List.getElem?_map, List.getElem?_range h]; rfl
theorem kC_get2 {F : Nat → Bool} {G : Nat → Int} {n : Nat} (h : n < 1024) : (kC F G)[1024 + n]? = some (.int .u32 (G n)) := by
  unfold kC
  rw [List.getElem?_append_right (by simp), List.length_map, List.length_range, Nat.add_sub_cancel_left, List.getElem?_map, List.getElem?_range h]; rfl
theorem be4 {c0 c1 c2 c3 : UInt8} : wrapI .u32 (wrapI .u32 (wrapI .u32 (wrapI .u32 (wrapI .u32 (c0.toNat : Int) * 16777216) + wrapI .u32 (wrapI .u32 (c1.toNat : Int) * 65536)) + wrapI .u32 (wrapI .u32 (c2.toNat : Int) * 256)) + wrapI .u32 (c3.toNat : Int)) = (vl [c0, c1, c2, c3] : Int) := by
  have h0 := c0.toNat_lt
  have h1 := c1.toNat_lt
  have h2 := c2.toNat_lt
  have h3 := c3.toNat_lt
  rw [wrap_u32 (n := (c0.toNat : Int)) (by omega) (by omega), wrap_u32 (n := (c1.toNat : Int)) (by omega) (by omega), wrap_u32 (n := (c2.toNat : Int)) (by omega) (by omega), wrap_u32 (n := (c3.toNat : Int)) (by omega) (by omega)]
  rw [wrap_u32 (n := (c0.toNat : Int) * 16777216) (by omega) (by omega), wrap_u32 (n := (c1.toNat : Int) * 65536) (by omega) (by omega), wrap_u32 (n := (c2.toNat : Int) * 256) (by omega) (by omega)]
  rw [wrap_u32 (n := (c0.toNat : Int) * 16777216 + _) (by omega) (by omega)]
  rw [wrap_u32 (n := (c0.toNat : Int) * 16777216 + _ + _) (by omega) (by omega)]
  rw [wrap_u32 (by omega) (by omega)]
  simp only [vl, vlA, List.foldl_cons, List.foldl_nil]
  omega
theorem Hld_tl {F : Nat → Prop} {S0 S : St} {p : Nat × DObj} {L : List (Nat × DObj)} (h : Hld F S0 S (p :: L)) : Hld F S0 S L := ⟨h.mod, fun q hq => h.all q (List.mem_cons_of_mem _ hq), (List.nodup_cons.1 h.dis).2⟩
/-- What the row says. -/
def rowIn (F : Nat → Bool) (G : Nat → Int) (c : Clm) : Prop := ∃ m : Nat, m < 1024 ∧ F m = true ∧ c = ((m : Int), G m)
theorem known_nat {n : Int} (h : knownN n) : ∃ m : Nat, m < 1024 ∧ n = (m : Int) := ⟨n.toNat, by have := h.1; have := h.2; omega, by have := h.1; omega⟩
set_option maxHeartbeats 2000000 in
theorem s25 {S : St} {s : Sl} {l : List Rc} (hr : RecsAt S s l) (hlen : l.length ≤ 1000) {k : Value → St → Prop}
    (hno : ¬ clmOk l → ∀ S', Ext S S' → k (.tuple #[.pointer none, .int .i64 130]) S')
    (hfull : clmOk l → 16 < cntC l → ∀ S', Ext S S' → k (.tuple #[.pointer none, .int .i64 151]) S')
    (hok : clmOk l → ¬ 16 < cntC l → ∀ b F G S', Ext S S' → At S' b (.cells (kC F G) none false none) → (∀ c, rowIn F G c ↔ clmIn l c) → k (.tuple #[.pointer (some ⟨b, 0, none⟩), .int .i64 0]) S') : WC E0 25 [.slice s.a s.len s.cap] S k := by
  refine w25 s ?_
  unfold c25
  have hsl := hr.sl.len
  rw [zeroK_eq]
  have hL := Hld.start noB S
  refine hL.new fun b1 S1 hL hb1 hn1 => ?_
  refine loopW_ind (fun q (x : Int × Int) S' => ∃ (i : Nat) (F : Nat → Bool) (G : Nat → Int), x = ((cntC (l.take i) : Int), (i : Int)) ∧ i ≤ l.length ∧ q = l.length - i ∧ Hld noB S S' [(b1, .cells (kC F G) none false none)] ∧ (∀ c, rowIn F G c ↔ clmIn (l.take i) c) ∧ ∀ j (h : j < l.length), j < i → l[j].1 = 2 → okAt l j l[j]) (m := l.length) ⟨0, fun _ => false, fun _ => 0, rfl, by omega, rfl, hL, fun c => ⟨(fun ⟨m, _, h, _⟩ => by cases h), (fun ⟨r, h, _⟩ => by simp at h)⟩, fun j h h' => by omega⟩ ?_
  rintro P q x S3 ⟨i, F, G, rfl, hi, rfl, hL, hmem, hoks⟩ hP
  dsimp only
  have hr3 := hr.ext hL.mod
  refine ifW_dec (fun hlt => ?_) fun hlt => ?_
  · have hi' : i < l.length := by omega
    refine slOf_getA (f := recC) (sz := 3) (fun _ => rfl) hr3.sl ldAgg146 hi' fun b3 o3 hld => ?_
    have hmr := List.getElem_mem hi'
    have hss := fun n => seen_succ (l := l) (i := i) hi' (n := n)
    have hin := fun c => in_succ (l := l) (i := i) hi' (c := c)
    have hskip := skip_succ (l := l) (i := i) hi'
    have hno0 := no_succ (l := l) (i := i) hi'
    have hcs := cnt_succ (l := l) (i := i) hi'
    have hokS : ∀ (P : Prop), (l[i].1 = 2 → okAt l i l[i]) → ∀ j (h : j < l.length), j < i + 1 → l[j].1 = 2 → okAt l j l[j] := fun _ h1 j h hj => by
      rcases Nat.lt_or_ge j i with h' | h'
      · exact hoks j h h'
      · have : j = i := by omega
        subst this; exact h1
    have hokS := hokS True
    have hbad : (l[i].1 = 2 ∧ ¬ okAt l i l[i]) → ¬ clmOk l := fun h hk => h.2 (hk i hi' h.1)
    have hcl : cntC (l.take i) ≤ i := by have := cntC_le (l := l.take i); simp at this; omega
    refine evV_of (ty := .one (.agg G145)) (l[i].1, l[i].2.1, l[i].2.2.1) hld ?_
    generalize hri : l[i] = r at *
    obtain ⟨kd, nn, ds, dt⟩ := r
    dsimp only at *
    refine hL.new fun b5 S4 hL hb5 hn4 => ?_
    refine hL.st 0 3 rfl (by kernel_rfl) rfl (Nat.le_of_ble_eq_true rfl) rfl rfl fun S5 hL hn5 => ?_
    have hat5 : At S5 b5 (.cells (recC (kd, nn, ds, dt)) none false none) := hL.at 0 rfl
    refine ptrW_of ?_
    refine hL.ld 0 rfl (by kernel_rfl) kd rfl ?_
    have tl1 : Hld noB S S5 [(b1, .cells (kC F G) none false none)] := ⟨hL.mod, fun p hp => hL.all p (List.mem_cons_of_mem _ hp), by simp⟩
    refine ifW_ndec (fun h2 => ?_) fun h2 => ?_
    · obtain ⟨g1, g2, g3⟩ := hskip h2
      rw [wrap_succ (by omega)]
      exact hP _ _ _ (by omega) ⟨i + 1, F, G, by rw [g3], by omega, rfl, tl1, fun c => by rw [g2]; exact hmem c, hokS fun h => (h2 h).elim⟩
    have h2 : kd = 2 := h2
    subst h2
    refine ptrW_of ?_
    refine hL.ld 0 rfl (by kernel_rfl) nn rfl ?_
    refine evC_of (s51 ⟨_, rfl, ?_⟩)
    refine ifW_ndec (fun hkn => hno (hbad ⟨rfl, fun h => hkn h.1⟩) _ hL.mod) fun hkn => ?_
    refine ptrW_of ?_
    refine hL.ld 0 rfl (by kernel_rfl) ds rfl ?_
    have hr5 := hr.ext hL.mod
    have hbd5 : Bs S5 ds dt := hr5.dat _ hmr
    have hdl := hbd5.len
    refine ifW_ndec (fun hl0 => ?_) fun hl0 => ?_
    · refine ptrW_of ?_
      refine hL.ld 0 rfl (by kernel_rfl) ds rfl ?_
      refine ifW_ndec (fun hl4 => hno (hbad ⟨rfl, fun h => by have := h.2.1; dsimp only at this; omega⟩) _ hL.mod) fun hl4 => ?_
      have hd4 : dt.length = 4 := by omega
      refine scan hr5 hi hlen hat5 (fun hs1 => hno (hbad ⟨rfl, fun h => h.2.2 hs1⟩) _ hL.mod) fun hns => ?_
      have hat : okAt l i (2, nn, ds, dt) := ⟨hkn, .inr hd4, hns⟩
      obtain ⟨m, hm, rfl⟩ := known_nat hkn
      refine ptrW_of ?_
      refine hL.ld 0 rfl (by kernel_rfl) ds rfl ?_
      refine ifW_pos (by omega) ?_
      refine ptrW_of ?_
      refine hL.ld 0 rfl (by kernel_rfl) ((m : Nat) : Int) rfl ?_
      refine ptrW_of (ptrW_of ?_)
      refine idx_lit (by omega) (by omega) ?_
      have hkl := kC_len (F := F) (G := G)
      refine hL.st 1 1 rfl (by kernel_rfl) rfl (by show 0 + 0 + (m : Int).toNat * 1 + 1 ≤ _; rw [kC_len]; omega) rfl (show _ = kC (fun j => if j = m then true else F j) G from ?_) fun S7 hL hn7 => ?_
      · show (kC F G).take (0 + 0 + (m : Int).toNat * 1) ++ ([Value.bool true] ++ (kC F G).drop (0 + 0 + (m : Int).toNat * 1 + 1)) = _
        rw [show 0 + 0 + (m : Int).toNat * 1 = m from by omega, set_take (by rw [kC_len]; omega), kC_set1 hm]
      have hbd7 : Bs S7 ds dt := (hr.ext hL.mod).dat _ hmr
      obtain ⟨c0, c1, c2, c3, rfl⟩ : ∃ c0 c1 c2 c3, dt = [c0, c1, c2, c3] := by
        match dt, hd4 with
        | [a, b, c, d], _ => exact ⟨a, b, c, d, rfl⟩
      refine ptrW_of ?_
      refine hL.ld 0 rfl (by kernel_rfl) ((m : Nat) : Int) rfl ?_
      refine ptrW_of ?_
      refine hL.ld 0 rfl (by kernel_rfl) ds rfl ?_
      refine hbd7.get1n (n := 0) (g := byV) inf5 agg5 (by simp) fun _ _ hld _ => evV_of (ty := tU8) _ (hld _ rfl) ?_
      refine ptrW_of ?_
      refine hL.ld 0 rfl (by kernel_rfl) ds rfl ?_
      refine hbd7.get1n (n := 1) (g := byV) inf5 agg5 (by simp) fun _ _ hld _ => evV_of (ty := tU8) _ (hld _ rfl) ?_
      refine ptrW_of ?_
      refine hL.ld 0 rfl (by kernel_rfl) ds rfl ?_
      refine hbd7.get1n (n := 2) (g := byV) inf5 agg5 (by simp) fun _ _ hld _ => evV_of (ty := tU8) _ (hld _ rfl) ?_
      refine ptrW_of ?_
      refine hL.ld 0 rfl (by kernel_rfl) ds rfl ?_
      refine hbd7.get1n (n := 3) (g := byV) inf5 agg5 (by simp) fun _ _ hld _ => evV_of (ty := tU8) _ (hld _ rfl) ?_
      refine ptrW_of (ptrW_of ?_)
      refine idx_lit (by omega) (by omega) ?_
      refine hL.st 1 1 rfl (by kernel_rfl) rfl (by show 0 + 1024 + (m : Int).toNat * 1 + 1 ≤ _; rw [kC_len]; omega) rfl (show _ = kC (fun j => if j = m then true else F j) (fun j => if j = m then (vl [c0, c1, c2, c3] : Int) else G j) from ?_) fun S8 hL hn8 => ?_
      · show (kC _ G).take (0 + 1024 + (m : Int).toNat * 1) ++ ([Value.int .u32 (wrapI .u32 (wrapI .u32 (wrapI .u32 (wrapI .u32 (wrapI .u32 (c0.toNat : Int) * 16777216) + wrapI .u32 (wrapI .u32 (c1.toNat : Int) * 65536)) + wrapI .u32 (wrapI .u32 (c2.toNat : Int) * 256)) + wrapI .u32 (c3.toNat : Int)))] ++ (kC _ G).drop (0 + 1024 + (m : Int).toNat * 1 + 1)) = _
        rw [be4, show 0 + 1024 + (m : Int).toNat * 1 = 1024 + m from by omega, set_take (by rw [kC_len]; omega), kC_set2 hm]
      have hF : F m = false := by
        cases h : F m with
        | false => rfl
        | true => exact (hns (in_seen ((hmem ((m : Int), G m)).1 ⟨m, hm, h, rfl⟩))).elim
      rw [wrap_succ (by omega), wrap_succ (by omega)]
      refine hP _ _ _ (by omega) ⟨i + 1, _, _, ?_, by omega, rfl, Hld_tl hL, fun c => ?_, hokS fun _ => hat⟩
      · rw [hcs, if_pos (isF_iff.2 ⟨rfl, rfl⟩)]
      · rw [hin, ← hmem]
        constructor
        · rintro ⟨q, hq, h1, h2⟩
          have h1 : (if q = m then true else F q) = true := h1
          have h2 : c = ((q : Int), if q = m then (vl [c0, c1, c2, c3] : Int) else G q) := h2
          by_cases hqm : q = m
          · subst hqm
            rw [if_pos rfl] at h2
            exact .inr ⟨rfl, rfl, h2⟩
          · rw [if_neg hqm] at h1 h2
            exact .inl ⟨q, hq, h1, h2⟩
        · rintro (⟨q, hq, h1, h2⟩ | ⟨_, _, h2⟩)
          · have hqm : q ≠ m := fun e => by subst e; rw [hF] at h1; cases h1
            exact ⟨q, hq, (if_neg hqm).trans h1, by show c = ((q : Int), if q = m then _ else _); rw [if_neg hqm]; exact h2⟩
          · exact ⟨m, hm, if_pos rfl, by show c = ((m : Int), if m = m then _ else _); rw [if_pos rfl]; exact h2⟩
    · have hl0 : ds.len = 0 := by have : (ds.len : Int) = 0 := hl0; omega
      have hd0 : dt.length = 0 := by omega
      refine scan hr5 hi hlen hat5 (fun hs1 => hno (hbad ⟨rfl, fun h => h.2.2 hs1⟩) _ hL.mod) fun hns => ?_
      have hat : okAt l i (2, nn, ds, dt) := ⟨hkn, .inl hd0, hns⟩
      refine ptrW_of ?_
      refine hL.ld 0 rfl (by kernel_rfl) ds rfl ?_
      refine ifW_neg (by omega) ?_
      obtain ⟨g2, g3⟩ := hno0 (by omega)
      rw [wrap_succ (by omega)]
      exact hP _ _ _ (by omega) ⟨i + 1, F, G, by rw [g3], by omega, rfl, tl1, fun c => by rw [g2]; exact hmem c, hokS fun _ => hat⟩
  · have hi' : i = l.length := by omega
    subst hi'
    rw [List.take_length] at hmem
    have hall : clmOk l := fun j h => hoks j h h
    rw [List.take_length]
    refine ifW_dec (fun h => ?_) fun h => ?_
    · exact hfull hall (by omega) _ hL.mod
    · exact hok hall (by omega) b1 F G S3 hL.mod (hL.at 0 rfl) hmem
end
end Go.Proofs.Ytgdijpcopdgapaa

/- Robots: lists of claims. -/
namespace Go.Proofs.Ytgdijpcopdgapaa
open Go Go.Proofs.Ytgdijpcopdgapaa.D
set_option linter.unusedVariables false
set_option linter.unusedSimpArgs false
noncomputable section

theorem und47 : E0.und 47 = some (.slice 132) := by kernel_rfl
theorem inf132 : E0.inf 132 = some DEnv.i132 := by kernel_rfl
theorem zero132 : DEnv.i132.zero = some (.agg #[.int .i64 0, .int .u32 0]) := by kernel_rfl
theorem bytes132 : DEnv.i132.bytes = 16 := by kernel_rfl
/-- What the document tells of its row. -/
theorem s12 {S : St} {b : Nat} {F : Nat → Bool} {G : Nat → Int} (hat : At S b (.cells (kC F G) none false none)) {k : Value → St → Prop}
    (hk : ∀ (s : Sl) acc S', Ext S S' → SlOf clmC 2 S' s acc → acc.length ≤ 1024 → sortC acc → (∀ c, c ∈ acc ↔ rowIn F G c) → k (.slice s.a s.len s.cap) S') : WC E0 12 [.pointer (some ⟨b, 0, none⟩)] S k := by
  refine w12 _ ?_
  unfold c12
  refine loopW_ind (fun q (x : Sl × Int) S' => ∃ (i : Nat) (acc : List Clm), x.2 = (i : Int) ∧ i ≤ 1024 ∧ q = 1024 - i ∧ CX noB clmC 2 S S' [] x.1 acc ∧ acc.length ≤ i ∧ sortC acc ∧ ∀ c, c ∈ acc ↔ ∃ m : Nat, m < i ∧ F m = true ∧ c = ((m : Int), G m)) (m := 1024) ⟨0, [], rfl, by omega, rfl, CX.start noB, by simp, fun i j hi => by simp at hi, fun c => ⟨(fun h => by simp at h), (fun ⟨m, h, _⟩ => by omega)⟩⟩ ?_
  rintro P q ⟨s, n⟩ S1 ⟨i, acc, rfl, hi, rfl, hL, hlen, hso, hmem⟩ hP
  dsimp only at hL ⊢
  have he : Ext S S1 := hL.cx.mod
  refine ifW_dec (fun hlt => ?_) fun hlt => ?_
  · have hi' : i < 1024 := by omega
    refine ptrW_of (ptrW_of ?_)
    refine idx_lit (by omega) (by omega) ?_
    refine evV_of (ty := tB) (F i) ((load_one (he.at hat) (by kernel_rfl)).trans ?_) ?_
    · rw [show 0 + 0 + (i : Int).toNat * 1 = i from by omega, kC_get1 hi']; rfl
    refine ifW_of (fun hF => ?_) fun hF => ?_
    · refine ptrW_of (ptrW_of ?_)
      refine idx_lit (by omega) (by omega) ?_
      refine evV_of (ty := tU32) (G i) ((load_one (he.at hat) (by kernel_rfl)).trans ?_) ?_
      · rw [show 0 + 1024 + (i : Int).toNat * 1 = 1024 + i from by omega, kC_get2 hi']; rfl
      refine hL.one (f := clmC) (x := ((i : Int), G i)) (fun _ => rfl) (by omega) und47 inf132 (by kernel_rfl) rfl zero132 rfl rfl (by rw [bytes132]; omega) (by omega) (by omega) fun s' S2 hL => ?_
      rw [wrap_succ (by omega)]
      refine hP _ _ _ (by omega) ⟨i + 1, acc ++ [((i : Int), G i)], rfl, by omega, rfl, hL, by simp; omega, ?_, fun c => ?_⟩
      · have e : acc ++ [((i : Int), G i)] = acc.take acc.length ++ ((i : Int), G i) :: acc.drop acc.length := by simp
        rw [e]
        have hl : ∀ c ∈ acc, c.1 < (i : Int) := fun c hc => by
          obtain ⟨m, h1, _, rfl⟩ := (hmem c).1 hc
          show (m : Int) < i
          omega
        exact sort_put hso (Nat.le_refl _) (fun j h _ => hl _ (List.getElem_mem h)) (fun j h h' => by omega) fun c hc => by have := hl c hc; show c.1 ≠ (i : Int); omega
      · rw [List.mem_append, List.mem_singleton, hmem]
        constructor
        · rintro (⟨m, h1, h2, h3⟩ | rfl)
          · exact ⟨m, by omega, h2, h3⟩
          · exact ⟨i, by omega, hF, rfl⟩
        · rintro ⟨m, h1, h2, h3⟩
          rcases Nat.lt_or_ge m i with h | h
          · exact .inl ⟨m, h, h2, h3⟩
          · have : m = i := by omega
            subst this
            exact .inr h3
    · rw [wrap_succ (by omega)]
      refine hP _ _ _ (by omega) ⟨i + 1, acc, rfl, by omega, rfl, hL, by omega, hso, fun c => ?_⟩
      rw [hmem]
      constructor
      · rintro ⟨m, h1, h2, h3⟩
        exact ⟨m, by omega, h2, h3⟩
      · rintro ⟨m, h1, h2, h3⟩
        rcases Nat.lt_or_ge m i with h | h
        · exact ⟨m, h, h2, h3⟩
        · have : m = i := by omega
          subst this
          rw [hF] at h2; cases h2
  · have hi' : i = 1024 := by omega
    subst hi'
    exact hk s acc S1 he (hL.cx.p.of fun _ => rfl) hlen hso hmem
/-- A list that is cloned. -/
theorem s55 {S : St} {s : Sl} {acc : List Clm} (h : OwC S s acc) (hlen : acc.length ≤ 1000) {k : Value → St → Prop} (hk : ∀ (s' : Sl) S', Ext S S' → SlOf clmC 2 S' s' acc → k (.slice s'.a s'.len s'.cap) S') : WC E0 55 [.slice s.a s.len s.cap] S k := by
  refine w55 s ?_
  unfold c55
  rcases h with ⟨rfl, rfl⟩ | ⟨b, hl0, rfl, hat⟩
  · refine ⟨true, by kernel_rfl, ?_⟩
    refine ifW_of (fun _ => ?_) fun h => by cases h
    exact hk ⟨none, 0, 0⟩ S (Mod.refl _ _) ⟨rfl, fun h => (h rfl).elim⟩
  · refine ⟨false, by kernel_rfl, ?_⟩
    refine ifW_of (fun h => by cases h) fun _ => ?_
    refine newW_of fun b1 S1 hb1 hat1 he1 hn1 => ?_
    have hs : SlOf clmC 2 S1 ⟨some ⟨b, 0, none⟩, acc.length, inex⟩ acc := he1.slOf (OwC.of (.inr ⟨b, hl0, rfl, hat⟩))
    by_cases h0 : acc = []
    · subst h0
      refine ⟨⟨some ⟨b1, 0, none⟩, 0, 0⟩, S1, ?_, ?_⟩
      · show appendD E0 S1 47 47 (.slice (some ⟨b1, 0, none⟩) 0 0) (.slice (some ⟨b, 0, none⟩) 0 inex) = _
        simp only [appendD, und47, inf132, zero132, Option.bind_some, lenOfD, firstD]
        rfl
      · exact hk ⟨some ⟨b1, 0, none⟩, 0, 0⟩ S1 he1 ⟨rfl, fun h => (h rfl).elim⟩
    · have how : Ow clmC 2 S1 ⟨some ⟨b1, 0, none⟩, 0, 0⟩ [] := ⟨b1, [], 0, none, rfl, hat1, .inr ⟨rfl, rfl, by have := lt_inex; omega⟩⟩
      refine Ow.append (E := E0) (f := clmC) (sz := 2) (fun _ => rfl) (by omega) how und47 inf132 und47 (by kernel_rfl) rfl zero132 rfl (vs := acc) rfl (SlOf.first (f := clmC) (sz := 2) (x := ⟨some ⟨b, 0, none⟩, acc.length, inex⟩) (fun _ => rfl) hs fun a h => by cases h; rfl) (one_clm acc)
        (show (0 + acc.length) * DEnv.i132.bytes ≤ 17592186044416 by rw [bytes132]; omega) (show 0 + acc.length ≤ 17592186044416 by omega) h0 (show (0 + acc.length) * 2 < inex by have := lt_inex; omega) fun s' S' ho m hs' => ?_
      refine hk s' S' ?_ ?_
      · exact he1.ext m fun c hc => by obtain ⟨o, hc⟩ := hc; cases hc; omega
      · exact ho.of fun _ => rfl
theorem s32 {S : St} {b : Nat} {sl : Sl} {acc : List Clm} (hat : At S b (.cells [.slice sl.a sl.len sl.cap] none false none)) (h : OwC S sl acc) (hlen : acc.length ≤ 1000) {k : Value → St → Prop} (hk : ∀ (s' : Sl) S', Ext S S' → SlOf clmC 2 S' s' acc → k (.slice s'.a s'.len s'.cap) S') : WC E0 32 [.pointer (some ⟨b, 0, none⟩)] S k := by
  refine w32 _ ?_
  unfold c32
  refine ⟨false, eq91, ?_⟩
  refine ifW_of (fun h => by cases h) fun _ => ?_
  refine ptrW_of (ptrW_of (evV_of (ty := tS) sl (load_one hat (by kernel_rfl)) ?_))
  exact evC_of (s55 h hlen fun s' S' e hs => ⟨s', rfl, hk s' S' e hs⟩)
theorem eq_clm (S : St) (x : Clm) : eqD E0 S 6 132 (sv G131 x) (sv G131 x) = some true := by
  have h1 : eqD E0 S 5 3 (.int .i64 x.1) (.int .i64 x.1) = some true := (show _ = some (decide (x.1 = x.1)) by kernel_rfl).trans (by simp)
  have h2 : eqD E0 S 5 27 (.int .u32 x.2) (.int .u32 x.2) = some true := (show _ = some (decide (x.2 = x.2)) by kernel_rfl).trans (by simp)
  exact (show _ = (eqD E0 S 5 3 (.int .i64 x.1) (.int .i64 x.1)).bind (fun e => cond e ((eqD E0 S 5 27 (.int .u32 x.2) (.int .u32 x.2)).bind fun e => cond e (some true) (some false)) (some false)) by kernel_rfl).trans (by rw [h1, h2]; rfl)
theorem s10 {a b : Sl} {l : List Clm} {S : St} (ha : SlOf clmC 2 S a l) (hb : SlOf clmC 2 S b l) (hl : l.length ≤ 1000) {k : Value → St → Prop} (hk : k (.bool true) S) : WC E0 10 [.slice a.a a.len a.cap, .slice b.a b.len b.cap] S k := by
  refine w10 a b ?_
  unfold c10
  have h1 := ha.len
  have h2 := hb.len
  refine ifW_ndec (fun h => by omega) fun _ => ?_
  refine loopW_ind (fun q (n1 : Int) S' => ∃ i : Nat, n1 = i ∧ i ≤ l.length ∧ q = l.length - i ∧ S' = S) (m := l.length) ⟨0, rfl, by omega, rfl, rfl⟩ ?_
  rintro P q n1 S1 ⟨i, rfl, hi, rfl, rfl⟩ hP
  refine ifW_dec (fun hlt => ?_) fun hlt => hk
  have hi' : i < l.length := by omega
  refine ha.idxL (f := clmC) (sz := 2) (fun _ => rfl) h1 hi' fun b1 o1 cs m ro fz ht _ hv => ?_
  refine ⟨l[i], load_agg ht (by kernel_rfl) hv rfl, ?_⟩
  dsimp only
  refine hb.idxL (f := clmC) (sz := 2) (fun _ => rfl) h2 hi' fun b2 o2 cs2 m2 ro2 fz2 ht2 _ hv2 => ?_
  refine ⟨l[i], load_agg ht2 (by kernel_rfl) hv2 rfl, ?_⟩
  refine ⟨true, eq_clm _ _, ?_⟩
  refine ifW_of (fun h => by cases h) fun _ => ?_
  rw [wrap_succ (by omega)]
  exact hP _ _ _ (by omega) ⟨i + 1, rfl, by omega, rfl, rfl⟩
/-- A robot. -/
abbrev robC (c : Cfg) (m : Option Addr) (self epoch : Int) (cb bk st mp : Nat) (gl : Option Addr) (bn pr ak ps : Nat) : List Value :=
  [.int .i64 c.1, .int .i64 c.2.1, .int .i64 c.2.2.1, .int .u64 c.2.2.2.1, .int .u64 c.2.2.2.2.1, .int .u64 c.2.2.2.2.2, .pointer m, .int .i64 self, .int .u32 epoch, .pointer (some ⟨cb, 0, none⟩), .pointer (some ⟨bk, 0, none⟩), .int .u64 0, .pointer (some ⟨st, 0, none⟩), .map (some mp), .pointer gl, .pointer (some ⟨bn, 0, none⟩), .pointer (some ⟨pr, 0, none⟩), .map (some ak), .map (some ps), .int .i64 0, .int .u64 0, .bool false, .int .i64 0, .int .i64 0, .int .u64 0, .int .i64 (-1), .int .i64 (-1), .slice none 0 0]
theorem eq39 {S : St} {b o : Nat} : eqD E0 S 6 39 (.pointer (some ⟨b, o, none⟩)) (.pointer none) = some false := by kernel_rfl
theorem s11 {S : St} {b mb : Nat} {c : Cfg} {self epoch : Int} {cb bk st mp : Nat} {gl : Option Addr} {bn pr ak ps : Nat} (hat : At S b (.cells (robC c (some ⟨mb, 0, none⟩) self epoch cb bk st mp gl bn pr ak ps) none false none)) {sl : Sl} {acc : List Clm} (hcb : At S cb (.cells [.slice sl.a sl.len sl.cap] none false none)) (h : OwC S sl acc) (hlen : acc.length ≤ 1000)
    {k : Value → St → Prop} (hk : ∀ (s' : Sl) S', Ext S S' → SlOf clmC 2 S' s' acc → k (.slice s'.a s'.len s'.cap) S') : WC E0 11 [.pointer (some ⟨b, 0, none⟩)] S k := by
  refine w11 _ ?_
  unfold c11
  refine evC_of (w31 _ ?_)
  unfold c31
  refine ⟨false, eq39, ?_⟩
  refine ifW_of (fun h => by cases h) fun _ => ?_
  refine ptrW_of (ptrW_of (evV_of (ty := tP) (some ⟨mb, 0, none⟩) (load_one hat (by kernel_rfl)) ?_))
  refine ⟨false, eq29, false, rfl, ?_⟩
  refine ifW_of (fun h => by cases h) fun _ => ?_
  refine ptrW_of (ptrW_of (evV_of (ty := tP) (some ⟨cb, 0, none⟩) (load_one hat (by kernel_rfl)) ?_))
  exact evC_of (s32 hcb h hlen fun s' S' e hs => ⟨s', rfl, hk s' S' e hs⟩)
end
end Go.Proofs.Ytgdijpcopdgapaa
