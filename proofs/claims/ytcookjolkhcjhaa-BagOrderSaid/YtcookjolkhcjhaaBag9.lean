/- Bags: what a bag holds, and what it owns. -/
import Derived.Test.YtcookjolkhcjhaaBag8
import Derived.Test.YtcookjolkhcjhaaD32
namespace Go.Proofs.Ytcookjolkhcjhaa
open Go Go.Proofs.Ytcookjolkhcjhaa.D
set_option linter.unusedVariables false
set_option linter.unusedSimpArgs false
noncomputable section

/-- A packet: number, from, to, bytes, spoilt? -/
abbrev Pk := Int × Int × Int × List Int × Bool
structure BagS where
  l : List Pk
  last : Int
  c : Cnt
def blk (s : Sl) : List Nat := match s.a with | some a => [a.block] | none => []
/-- Bytes in a block of their own (o), if there is one. -/
def DatB (S : St) (s : Sl) (l : List Int) (o : List Nat) : Prop :=
  (l = [] ∧ s = ⟨none, 0, 0⟩ ∧ o = []) ∨ ∃ b cap more, o = [b] ∧ s = ⟨some ⟨b, 0, none⟩, l.length, cap⟩ ∧ At S b (.cells (l.flatMap cellB) more false none) ∧ (more = some 1 ∨ l = [] ∧ more = none)
def isDat : DObj → Bool
  | .cells _ (some 1) false none => true
  | .cells [] none false none => true
  | _ => false
theorem Dat.b {N : Nat} {S : St} {s : Sl} {l : List Int} (h : Dat N S s l) : ∃ o, DatB S s l o ∧ (∀ c ∈ o, N ≤ c) ∧ o.Nodup := by
  rcases h with ⟨rfl, b, h1, h2, h3⟩ | ⟨h1, h2⟩ | ⟨b, h1, h2, h3⟩
  · exact ⟨[b], .inr ⟨b, 0, none, rfl, h2, h3, .inr ⟨rfl, rfl⟩⟩, by simpa using h1, by simp⟩
  · exact ⟨[], .inl ⟨h1, h2, rfl⟩, by simp, by simp⟩
  · exact ⟨[b], .inr ⟨b, inex, some 1, rfl, h2, h3, .inl rfl⟩, by simpa using h1, by simp⟩
theorem DatB.of {S : St} {s : Sl} {l : List Int} {o : List Nat} (h : DatB S s l o) : SlOf cellB 1 S s l := by
  rcases h with ⟨rfl, rfl, _⟩ | ⟨b, cap, more, _, rfl, h2, _⟩
  · exact ⟨rfl, fun h => (h rfl).elim⟩
  · refine ⟨rfl, fun _ => ⟨b, 0, _, _, _, _, rfl, h2, ?_⟩⟩
    rw [List.drop_zero, List.take_of_length_le]
    rw [flat_len (sz := 1) fun _ => rfl]; exact Nat.le_refl _
theorem DatB.sp {S : St} {s : Sl} {l : List Int} {o : List Nat} (h : DatB S s l o) : ∀ a, s.a = some a → a.spot = none := by
  rcases h with ⟨_, rfl, _⟩ | ⟨b, cap, more, _, rfl, h2, _⟩
  · intro a h; cases h
  · intro a h; cases h; rfl
theorem DatB.blk {S : St} {s : Sl} {l : List Int} {o : List Nat} (h : DatB S s l o) {c : Nat} (hc : c ∈ o) : ∃ x, At S c x ∧ isDat x = true := by
  rcases h with ⟨_, _, rfl⟩ | ⟨b, cap, more, rfl, h1, h2, h3⟩
  · cases hc
  · simp only [List.mem_cons, List.not_mem_nil, or_false] at hc; subst hc
    refine ⟨_, h2, ?_⟩
    rcases h3 with rfl | ⟨rfl, rfl⟩ <;> rfl
theorem mod_datB {F : Nat → Prop} {S S' : St} {s : Sl} {l : List Int} {o : List Nat} (h : Kp F S S') (hs : DatB S s l o) (hn : ∀ b ∈ o, ¬ F b) : DatB S' s l o := by
  rcases hs with h1 | ⟨b, cap, more, rfl, h1, h2, h3⟩
  · exact .inl h1
  · exact .inr ⟨b, cap, more, rfl, h1, h.at h2 (hn b (by simp)), h3⟩
/-- Packets as cells, and as they are; the blocks of their bytes. -/
inductive Pks (S : St) : List Flt → List Pk → List Nat → Prop
  | nil : Pks S [] [] []
  | cons {d : Sl} {p : Pk} {o ow : List Nat} {fl : List Flt} {l : List Pk} (h1 : DatB S d p.2.2.2.1 o) (h2 : Pks S fl l ow) : Pks S ((p.1, p.2.1, p.2.2.1, d, p.2.2.2.2) :: fl) (p :: l) (o ++ ow)
theorem Pks.len {S : St} {fl : List Flt} {l : List Pk} {ow : List Nat} (h : Pks S fl l ow) : fl.length = l.length := by
  induction h with
  | nil => rfl
  | cons h1 h2 ih => simp [ih]
theorem Pks.mod {F : Nat → Prop} {S S' : St} {fl : List Flt} {l : List Pk} {ow : List Nat} (h : Pks S fl l ow) (m : Kp F S S') (hn : ∀ b ∈ ow, ¬ F b) : Pks S' fl l ow := by
  induction h with
  | nil => exact .nil
  | cons h1 h2 ih => exact .cons (mod_datB m h1 fun b hb => hn b (by simp [hb])) (ih fun b hb => hn b (by simp [hb]))
theorem Pks.blk {S : St} {fl : List Flt} {l : List Pk} {ow : List Nat} (h : Pks S fl l ow) {c : Nat} (hc : c ∈ ow) : ∃ x, At S c x ∧ isDat x = true := by
  induction h with
  | nil => cases hc
  | cons h1 h2 ih =>
    rcases List.mem_append.1 hc with h | h
    · exact h1.blk h
    · exact ih h
theorem Pks.app {S : St} {fl fl' : List Flt} {l l' : List Pk} {ow ow' : List Nat} (h : Pks S fl l ow) (h' : Pks S fl' l' ow') : Pks S (fl ++ fl') (l ++ l') (ow ++ ow') := by
  induction h with
  | nil => exact h'
  | cons h1 h2 ih => rw [List.append_assoc]; exact .cons h1 ih
theorem Pks.one {S : St} {d : Sl} {p : Pk} {o : List Nat} (h1 : DatB S d p.2.2.2.1 o) : Pks S [(p.1, p.2.1, p.2.2.1, d, p.2.2.2.2)] [p] o := by
  have := Pks.cons (p := p) h1 Pks.nil
  rwa [List.append_nil] at this
/-- Split at a place. -/
theorem Pks.at {S : St} {fl : List Flt} {l : List Pk} {ow : List Nat} (h : Pks S fl l ow) : ∀ i, i < l.length → ∃ fl1 p d fl2 l1 l2 ow1 o ow2, fl1.length = i ∧ l1.length = i ∧ fl = fl1 ++ (p.1, p.2.1, p.2.2.1, d, p.2.2.2.2) :: fl2 ∧ l = l1 ++ p :: l2 ∧ ow = ow1 ++ (o ++ ow2) ∧ Pks S fl1 l1 ow1 ∧ DatB S d p.2.2.2.1 o ∧ Pks S fl2 l2 ow2 := by
  induction h with
  | nil => intro i hi; cases hi
  | cons h1 h2 ih =>
    rename_i d p o ow fl l
    intro i hi
    cases i with
    | zero => exact ⟨[], p, d, fl, [], l, [], o, ow, rfl, rfl, rfl, rfl, rfl, .nil, h1, h2⟩
    | succ i =>
      obtain ⟨fl1, p', d', fl2, l1, l2, ow1, o', ow2, e1, e2, e3, e4, e5, g1, g2, g3⟩ := ih i (by simpa using hi)
      refine ⟨(p.1, p.2.1, p.2.2.1, d, p.2.2.2.2) :: fl1, p', d', fl2, p :: l1, l2, o ++ ow1, o', ow2, by simp [e1], by simp [e2], by simp [e3], by simp [e4], by simp [e5], .cons h1 g1, g2, g3⟩
/-- A bag in block bb: what it holds; own: its blocks. -/
def BagIs (S : St) (bb : Nat) (st : BagS) (own : List Nat) : Prop :=
  ∃ s fl ow, At S bb (bagO s st.last st.c) ∧ Fls (bb + 1) S s fl ∧ Pks S fl st.l ow ∧ ow.Nodup ∧ own = bb :: (blk s ++ ow)
theorem Fls.bk {N : Nat} {S : St} {s : Sl} {l : List Flt} (h : Fls N S s l) {c : Nat} (hc : c ∈ blk s) : ∃ cs, At S c (.cells cs (some 5) false none) ∧ N ≤ c ∧ s.a = some ⟨c, 0, none⟩ := by
  rcases h with ⟨_, rfl⟩ | ⟨b, rest, h1, rfl, h2, h3⟩
  · cases hc
  · simp only [blk, List.mem_cons, List.not_mem_nil, or_false] at hc; subst hc; exact ⟨_, h2, h1, rfl⟩
theorem Fls.bk_mem {N : Nat} {S : St} {s : Sl} {l : List Flt} (h : Fls N S s l) {c o : Nat} (hc : s.a = some ⟨c, o, none⟩) : c ∈ blk s := by
  simp [blk, hc]
theorem at_inj {S : St} {b : Nat} {o o' : DObj} (h : At S b o) (h' : At S b o') : o = o' := by
  have := h.get.symm.trans h'.get
  injection this
theorem BagIs.lt {S : St} {bb : Nat} {st : BagS} {own : List Nat} (h : BagIs S bb st own) {c : Nat} (hc : c ∈ own) : c < S.next := by
  obtain ⟨s, fl, ow, h1, h2, h3, h4, rfl⟩ := h
  rcases List.mem_cons.1 hc with rfl | hc
  · exact h1.lt
  · rcases List.mem_append.1 hc with hc | hc
    · obtain ⟨cs, h, _⟩ := h2.bk hc; exact h.lt
    · obtain ⟨x, h, _⟩ := h3.blk hc; exact h.lt
theorem BagIs.mod {F : Nat → Prop} {S S' : St} {bb : Nat} {st : BagS} {own : List Nat} (h : BagIs S bb st own) (m : Kp F S S') (hn : ∀ c ∈ own, ¬ F c) : BagIs S' bb st own := by
  obtain ⟨s, fl, ow, h1, h2, h3, h4, rfl⟩ := h
  refine ⟨s, fl, ow, m.at h1 (hn _ (by simp)), ?_, h3.mod m fun b hb => hn b (by simp [hb]), h4, rfl⟩
  rcases h2 with h | ⟨b, rest, g1, g2, g3, g4⟩
  · exact .inl h
  · exact .inr ⟨b, rest, g1, g2, m.at g3 (hn b (by rw [g2]; simp [blk])), g4⟩
theorem BagIs.ext {S S' : St} {bb : Nat} {st : BagS} {own : List Nat} (h : BagIs S bb st own) (m : Ext S S') : BagIs S' bb st own := h.mod m.kp fun _ _ h => h
theorem BagIs.own {S : St} {bb : Nat} {st : BagS} {own : List Nat} (h : BagIs S bb st own) : bb ∈ own := by
  obtain ⟨s, fl, ow, h1, h2, h3, h4, rfl⟩ := h
  simp

/-! ### What a bag does -/
def putS (st : BagS) (p : Int × Int × List Int × Bool) : Int × BagS :=
  if st.l.length < 256 then (st.last + 1, ⟨st.l ++ [(st.last + 1, p)], st.last + 1, st.c⟩) else (0, ⟨st.l, st.last, (st.c.1, st.c.2.1, st.c.2.2.1, st.c.2.2.2.1, st.c.2.2.2.2.1, st.c.2.2.2.2.2 + 1)⟩)
def sendS (st : BagS) (fr to : Int) (d : List Int) : Int × BagS := putS ⟨st.l, st.last, (st.c.1 + 1, st.c.2)⟩ (fr, to, d, false)
def idxS (l : List Pk) (n : Int) : Option Nat := l.findIdx? fun p => decide (p.1 = n)
def doubleS (st : BagS) (n : Int) : (Int × Int) × BagS :=
  match idxS st.l n with
  | none => ((0, 80), st)
  | some i => match st.l[i]? with
    | none => ((0, 80), st)
    | some p => let r := putS ⟨st.l, st.last, (st.c.1, st.c.2.1, st.c.2.2.1, st.c.2.2.2.1 + 1, st.c.2.2.2.2)⟩ p.2; ((r.1, 0), r.2)
def noPk : Pk := (0, 0, 0, [], false)
def takeS (st : BagS) (n : Int) (f : Cnt → Cnt) : (Pk × Int) × BagS :=
  match idxS st.l n with
  | none => ((noPk, 80), st)
  | some i => ((st.l.getD i noPk, 0), ⟨st.l.eraseIdx i, st.last, f st.c⟩)
def cDel (c : Cnt) : Cnt := (c.1, c.2.1 + 1, c.2.2)
def cDrop (c : Cnt) : Cnt := (c.1, c.2.1, c.2.2.1 + 1, c.2.2.2)
def byteX (a w : Int) : Int := xorI .u8 a w
def spoilS (st : BagS) (n at_ w : Int) : Int × BagS :=
  match idxS st.l n with
  | none => (80, st)
  | some i => match st.l[i]? with
    | none => (80, st)
    | some p =>
      if p.2.2.2.2 = true ∨ at_ < 0 ∨ (p.2.2.2.1.length : Int) ≤ at_ ∨ w = 0 then (80, st)
      else (0, ⟨st.l.set i (p.1, p.2.1, p.2.2.1, p.2.2.2.1.set at_.toNat (byteX (p.2.2.2.1.getD at_.toNat 0) w), true), st.last, (st.c.1, st.c.2.1, st.c.2.2.1, st.c.2.2.2.1, st.c.2.2.2.2.1 + 1, st.c.2.2.2.2.2)⟩)
/-- Numbers are small. -/
structure BagOk (m : Nat) (st : BagS) : Prop where
  len : st.l.length ≤ 256
  last : 0 ≤ st.last ∧ st.last ≤ m
  c1 : 0 ≤ st.c.1 ∧ st.c.1 ≤ m
  c2 : 0 ≤ st.c.2.1 ∧ st.c.2.1 ≤ m
  c3 : 0 ≤ st.c.2.2.1 ∧ st.c.2.2.1 ≤ m
  c4 : 0 ≤ st.c.2.2.2.1 ∧ st.c.2.2.2.1 ≤ m
  c5 : 0 ≤ st.c.2.2.2.2.1 ∧ st.c.2.2.2.2.1 ≤ m
  c6 : 0 ≤ st.c.2.2.2.2.2 ∧ st.c.2.2.2.2.2 ≤ m
  dat : ∀ p ∈ st.l, p.2.2.2.1.length ≤ 60
theorem BagOk.mono {m m' : Nat} {st : BagS} (h : BagOk m st) (hm : m ≤ m') : BagOk m' st :=
  ⟨h.len, by have := h.last; omega, by have := h.c1; omega, by have := h.c2; omega, by have := h.c3; omega, by have := h.c4; omega, by have := h.c5; omega, by have := h.c6; omega, h.dat⟩
theorem putS_ok {m : Nat} {st : BagS} (h : BagOk m st) (p : Int × Int × List Int × Bool) (hp : p.2.2.1.length ≤ 60) : BagOk (m + 1) (putS st p).2 := by
  have h' := h.mono (Nat.le_succ m)
  unfold putS
  split
  · rename_i hl
    refine ⟨by simp; omega, by have := h.last; simp only; omega, h'.c1, h'.c2, h'.c3, h'.c4, h'.c5, h'.c6, ?_⟩
    intro q hq
    rcases List.mem_append.1 hq with hq | hq
    · exact h.dat q hq
    · simp only [List.mem_cons, List.not_mem_nil, or_false] at hq; subst hq; exact hp
  · exact ⟨h'.len, h'.last, h'.c1, h'.c2, h'.c3, h'.c4, h'.c5, by have := h.c6; simp only; omega, h'.dat⟩
theorem sendS_ok {m : Nat} {st : BagS} (h : BagOk m st) (fr to : Int) (d : List Int) (hd : d.length ≤ 60) : BagOk (m + 2) (sendS st fr to d).2 :=
  putS_ok (m := m + 1) (by have h' := h.mono (Nat.le_succ m); exact ⟨h'.len, h'.last, by have := h.c1; simp only; omega, h'.c2, h'.c3, h'.c4, h'.c5, h'.c6, h'.dat⟩) _ hd
theorem idxS_lt {l : List Pk} {n : Int} {i : Nat} (h : idxS l n = some i) : ∃ hi : i < l.length, l[i].1 = n ∧ ∀ j (hj : j < i), l[j].1 ≠ n := by
  unfold idxS at h
  rw [List.findIdx?_eq_some_iff_getElem] at h
  obtain ⟨hi, h1, h2⟩ := h
  exact ⟨hi, by simpa using h1, fun j hj => by simpa using h2 j hj⟩
theorem idxS_none {l : List Pk} {n : Int} (h : idxS l n = none) : ∀ p ∈ l, p.1 ≠ n := by
  unfold idxS at h
  rw [List.findIdx?_eq_none_iff] at h
  intro p hp
  simpa using h p hp
theorem doubleS_ok {m : Nat} {st : BagS} (h : BagOk m st) (n : Int) : BagOk (m + 2) (doubleS st n).2 := by
  unfold doubleS
  split
  · exact h.mono (by omega)
  · split
    · exact h.mono (by omega)
    · rename_i p hp
      refine putS_ok (m := m + 1) ?_ _ (h.dat p (List.mem_of_getElem? hp))
      have h' := h.mono (Nat.le_succ m)
      exact ⟨h'.len, h'.last, h'.c1, h'.c2, h'.c3, by have := h.c4; simp only; omega, h'.c5, h'.c6, h'.dat⟩
theorem takeS_ok {m : Nat} {st : BagS} (h : BagOk m st) (n : Int) {f : Cnt → Cnt} (hf : f = cDel ∨ f = cDrop) : BagOk (m + 1) (takeS st n f).2 := by
  have h' := h.mono (Nat.le_succ m)
  unfold takeS
  split
  · exact h'
  · rename_i i hi
    obtain ⟨hi, _⟩ := idxS_lt hi
    have hd : ∀ p ∈ st.l.eraseIdx i, p.2.2.2.1.length ≤ 60 := fun p hp => h.dat p (List.mem_of_mem_eraseIdx hp)
    have hl : (st.l.eraseIdx i).length ≤ 256 := by have := h.len; have := List.length_eraseIdx_le st.l i; omega
    rcases hf with rfl | rfl
    · exact ⟨hl, h'.last, h'.c1, by have := h.c2; simp only [cDel]; omega, h'.c3, h'.c4, h'.c5, h'.c6, hd⟩
    · exact ⟨hl, h'.last, h'.c1, h'.c2, by have := h.c3; simp only [cDrop]; omega, h'.c4, h'.c5, h'.c6, hd⟩
theorem spoilS_ok {m : Nat} {st : BagS} (h : BagOk m st) (n at_ w : Int) : BagOk (m + 1) (spoilS st n at_ w).2 := by
  have h' := h.mono (Nat.le_succ m)
  unfold spoilS
  split
  · exact h'
  · split
    · exact h'
    · rename_i i _ p hp
      split
      · exact h'
      · refine ⟨by simpa using h.len, h'.last, h'.c1, h'.c2, h'.c3, h'.c4, by have := h.c5; simp only; omega, h'.c6, ?_⟩
        intro q hq
        rcases List.mem_or_eq_of_mem_set hq with hq | rfl
        · exact h.dat q hq
        · simpa using h.dat p (List.mem_of_getElem? hp)
end
end Go.Proofs.Ytcookjolkhcjhaa
