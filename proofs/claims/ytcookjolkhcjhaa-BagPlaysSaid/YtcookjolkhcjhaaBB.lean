/- Parts of the proof, put together. -/
import Derived.Test.YtcookjolkhcjhaaBA
import Derived.Test.YtcookjolkhcjhaaDD
/- Bags: what a bag holds, and what it owns. -/
namespace Go.Proofs.Ytcookjolkhcjhaa
open Go Go.Proofs.Ytcookjolkhcjhaa.D
set_option linter.unusedVariables false
set_option linter.unusedSimpArgs false
noncomputable section

/-- A packet: number, from, to, bytes, spoilt? -/
abbrev Pk := Int × Int × Int × List Int × Bool
structure BagS where
  l : List Pk
  last : Int
  c : Cnt
def blk (s : Sl) : List Nat := match s.a with | some a => [a.block] | none => []
/-- Bytes in a block of their own (o), if there is one. -/
def DatB (S : St) (s : Sl) (l : List Int) (o : List Nat) : Prop :=
  (l = [] ∧ s = ⟨none, 0, 0⟩ ∧ o = []) ∨ ∃ b cap more, o = [b] ∧ s = ⟨some ⟨b, 0, none⟩, l.length, cap⟩ ∧ At S b (.cells (l.flatMap cellB) more false none) ∧ (more = some 1 ∨ l = [] ∧ more = none)
def isDat : DObj → Bool
  | .cells _ (some 1) false none => true
  | .cells [] none false none => true
  | _ => false
theorem Dat.b {N : Nat} {S : St} {s : Sl} {l : List Int} (h : Dat N S s l) : ∃ o, DatB S s l o ∧ (∀ c ∈ o, N ≤ c) ∧ o.Nodup := by
  rcases h with ⟨rfl, b, h1, h2, h3⟩ | ⟨h1, h2⟩ | ⟨b, h1, h2, h3⟩
  · exact ⟨[b], .inr ⟨b, 0, none, rfl, h2, h3, .inr ⟨rfl, rfl⟩⟩, by simpa using h1, by simp⟩
  · exact ⟨[], .inl ⟨h1, h2, rfl⟩, by simp, by simp⟩
  · exact ⟨[b], .inr ⟨b, inex, some 1, rfl, h2, h3, .inl rfl⟩, by simpa using h1, by simp⟩
theorem DatB.of {S : St} {s : Sl} {l : List Int} {o : List Nat} (h : DatB S s l o) : SlOf cellB 1 S s l := by
  rcases h with ⟨rfl, rfl, _⟩ | ⟨b, cap, more, _, rfl, h2, _⟩
  · exact ⟨rfl, fun h => (h rfl).elim⟩
  · refine ⟨rfl, fun _ => ⟨b, 0, _, _, _, _, rfl, h2, ?_⟩⟩
    rw [List.drop_zero, List.take_of_length_le]
    rw [flat_len (sz := 1) fun _ => rfl]; exact Nat.le_refl _
theorem DatB.sp {S : St} {s : Sl} {l : List Int} {o : List Nat} (h : DatB S s l o) : ∀ a, s.a = some a → a.spot = none := by
  rcases h with ⟨_, rfl, _⟩ | ⟨b, cap, more, _, rfl, h2, _⟩
  · intro a h; cases h
  · intro a h; cases h; rfl
theorem DatB.blk {S : St} {s : Sl} {l : List Int} {o : List Nat} (h : DatB S s l o) {c : Nat} (hc : c ∈ o) : ∃ x, At S c x ∧ isDat x = true := by
  rcases h with ⟨_, _, rfl⟩ | ⟨b, cap, more, rfl, h1, h2, h3⟩
  · cases hc
  · simp only [List.mem_cons, List.not_mem_nil, or_false] at hc; subst hc
    refine ⟨_, h2, ?_⟩
    rcases h3 with rfl | ⟨rfl, rfl⟩ <;> rfl
theorem mod_datB {F : Nat → Prop} {S S' : St} {s : Sl} {l : List Int} {o : List Nat} (h : Kp F S S') (hs : DatB S s l o) (hn : ∀ b ∈ o, ¬ F b) : DatB S' s l o := by
  rcases hs with h1 | ⟨b, cap, more, rfl, h1, h2, h3⟩
  · exact .inl h1
  · exact .inr ⟨b, cap, more, rfl, h1, h.at h2 (hn b (by simp)), h3⟩
/-- Packets as cells, and as they are; the blocks of their bytes. -/
inductive Pks (S : St) : List Flt → List Pk → List Nat → Prop
  | nil : Pks S [] [] []
  | cons {d : Sl} {p : Pk} {o ow : List Nat} {fl : List Flt} {l : List Pk} (h1 : DatB S d p.2.2.2.1 o) (h2 : Pks S fl l ow) : Pks S ((p.1, p.2.1, p.2.2.1, d, p.2.2.2.2) :: fl) (p :: l) (o ++ ow)
theorem Pks.len {S : St} {fl : List Flt} {l : List Pk} {ow : List Nat} (h : Pks S fl l ow) : fl.length = l.length := by
  induction h with
  | nil => rfl
  | cons h1 h2 ih => simp [ih]
theorem Pks.mod {F : Nat → Prop} {S S' : St} {fl : List Flt} {l : List Pk} {ow : List Nat} (h : Pks S fl l ow) (m : Kp F S S') (hn : ∀ b ∈ ow, ¬ F b) : Pks S' fl l ow := by
  induction h with
  | nil => exact .nil
  | cons h1 h2 ih => exact .cons (mod_datB m h1 fun b hb => hn b (by simp [hb])) (ih fun b hb => hn b (by simp [hb]))
theorem Pks.blk {S : St} {fl : List Flt} {l : List Pk} {ow : List Nat} (h : Pks S fl l ow) {c : Nat} (hc : c ∈ ow) : ∃ x, At S c x ∧ isDat x = true := by
  induction h with
  | nil => cases hc
  | cons h1 h2 ih =>
    rcases List.mem_append.1 hc with h | h
    · exact h1.blk h
    · exact ih h
theorem Pks.app {S : St} {fl fl' : List Flt} {l l' : List Pk} {ow ow' : List Nat} (h : Pks S fl l ow) (h' : Pks S fl' l' ow') : Pks S (fl ++ fl') (l ++ l') (ow ++ ow') := by
  induction h with
  | nil => exact h'
  | cons h1 h2 ih => rw [List.append_assoc]; exact .cons h1 ih
theorem Pks.one {S : St} {d : Sl} {p : Pk} {o : List Nat} (h1 : DatB S d p.2.2.2.1 o) : Pks S [(p.1, p.2.1, p.2.2.1, d, p.2.2.2.2)] [p] o := by
  have := Pks.cons (p := p) h1 Pks.nil
  rwa [List.append_nil] at this
/-- Split at a place. -/
theorem Pks.at {S : St} {fl : List Flt} {l : List Pk} {ow : List Nat} (h : Pks S fl l ow) : ∀ i, i < l.length → ∃ fl1 p d fl2 l1 l2 ow1 o ow2, fl1.length = i ∧ l1.length = i ∧ fl = fl1 ++ (p.1, p.2.1, p.2.2.1, d, p.2.2.2.2) :: fl2 ∧ l = l1 ++ p :: l2 ∧ ow = ow1 ++ (o ++ ow2) ∧ Pks S fl1 l1 ow1 ∧ DatB S d p.2.2.2.1 o ∧ Pks S fl2 l2 ow2 := by
  induction h with
  | nil => intro i hi; cases hi
  | cons h1 h2 ih =>
    rename_i d p o ow fl l
    intro i hi
    cases i with
    | zero => exact ⟨[], p, d, fl, [], l, [], o, ow, rfl, rfl, rfl, rfl, rfl, .nil, h1, h2⟩
    | succ i =>
      obtain ⟨fl1, p', d', fl2, l1, l2, ow1, o', ow2, e1, e2, e3, e4, e5, g1, g2, g3⟩ := ih i (by simpa using hi)
      refine ⟨(p.1, p.2.1, p.2.2.1, d, p.2.2.2.2) :: fl1, p', d', fl2, p :: l1, l2, o ++ ow1, o', ow2, by simp [e1], by simp [e2], by simp [e3], by simp [e4], by simp [e5], .cons h1 g1, g2, g3⟩
/-- A bag in block bb: what it holds; own: its blocks. -/
def BagIs (S : St) (bb : Nat) (st : BagS) (own : List Nat) : Prop :=
  ∃ s fl ow, At S bb (bagO s st.last st.c) ∧ Fls (bb + 1) S s fl ∧ Pks S fl st.l ow ∧ ow.Nodup ∧ own = bb :: (blk s ++ ow)
theorem Fls.bk {N : Nat} {S : St} {s : Sl} {l : List Flt} (h : Fls N S s l) {c : Nat} (hc : c ∈ blk s) : ∃ cs, At S c (.cells cs (some 5) false none) ∧ N ≤ c ∧ s.a = some ⟨c, 0, none⟩ := by
  rcases h with ⟨_, rfl⟩ | ⟨b, rest, h1, rfl, h2, h3⟩
  · cases hc
  · simp only [blk, List.mem_cons, List.not_mem_nil, or_false] at hc; subst hc; exact ⟨_, h2, h1, rfl⟩
theorem Fls.bk_mem {N : Nat} {S : St} {s : Sl} {l : List Flt} (h : Fls N S s l) {c o : Nat} (hc : s.a = some ⟨c, o, none⟩) : c ∈ blk s := by
  simp [blk, hc]
theorem at_inj {S : St} {b : Nat} {o o' : DObj} (h : At S b o) (h' : At S b o') : o = o' := by
  have := h.get.symm.trans h'.get
  injection this
theorem BagIs.lt {S : St} {bb : Nat} {st : BagS} {own : List Nat} (h : BagIs S bb st own) {c : Nat} (hc : c ∈ own) : c < S.next := by
  obtain ⟨s, fl, ow, h1, h2, h3, h4, rfl⟩ := h
  rcases List.mem_cons.1 hc with rfl | hc
  · exact h1.lt
  · rcases List.mem_append.1 hc with hc | hc
    · obtain ⟨cs, h, _⟩ := h2.bk hc; exact h.lt
    · obtain ⟨x, h, _⟩ := h3.blk hc; exact h.lt
theorem BagIs.mod {F : Nat → Prop} {S S' : St} {bb : Nat} {st : BagS} {own : List Nat} (h : BagIs S bb st own) (m : Kp F S S') (hn : ∀ c ∈ own, ¬ F c) : BagIs S' bb st own := by
  obtain ⟨s, fl, ow, h1, h2, h3, h4, rfl⟩ := h
  refine ⟨s, fl, ow, m.at h1 (hn _ (by simp)), ?_, h3.mod m fun b hb => hn b (by simp [hb]), h4, rfl⟩
  rcases h2 with h | ⟨b, rest, g1, g2, g3, g4⟩
  · exact .inl h
  · exact .inr ⟨b, rest, g1, g2, m.at g3 (hn b (by rw [g2]; simp [blk])), g4⟩
theorem BagIs.ext {S S' : St} {bb : Nat} {st : BagS} {own : List Nat} (h : BagIs S bb st own) (m : Ext S S') : BagIs S' bb st own := h.mod m.kp fun _ _ h => h
theorem BagIs.own {S : St} {bb : Nat} {st : BagS} {own : List Nat} (h : BagIs S bb st own) : bb ∈ own := by
  obtain ⟨s, fl, ow, h1, h2, h3, h4, rfl⟩ := h
  simp

/-! ### What a bag does -/
def putS (st : BagS) (p : Int × Int × List Int × Bool) : Int × BagS :=
  if st.l.length < 256 then (st.last + 1, ⟨st.l ++ [(st.last + 1, p)], st.last + 1, st.c⟩) else (0, ⟨st.l, st.last, (st.c.1, st.c.2.1, st.c.2.2.1, st.c.2.2.2.1, st.c.2.2.2.2.1, st.c.2.2.2.2.2 + 1)⟩)
def sendS (st : BagS) (fr to : Int) (d : List Int) : Int × BagS := putS ⟨st.l, st.last, (st.c.1 + 1, st.c.2)⟩ (fr, to, d, false)
def idxS (l : List Pk) (n : Int) : Option Nat := l.findIdx? fun p => decide (p.1 = n)
def doubleS (st : BagS) (n : Int) : (Int × Int) × BagS :=
  match idxS st.l n with
  | none => ((0, 80), st)
  | some i => match st.l[i]? with
    | none => ((0, 80), st)
    | some p => let r := putS ⟨st.l, st.last, (st.c.1, st.c.2.1, st.c.2.2.1, st.c.2.2.2.1 + 1, st.c.2.2.2.2)⟩ p.2; ((r.1, 0), r.2)
def noPk : Pk := (0, 0, 0, [], false)
def takeS (st : BagS) (n : Int) (f : Cnt → Cnt) : (Pk × Int) × BagS :=
  match idxS st.l n with
  | none => ((noPk, 80), st)
  | some i => ((st.l.getD i noPk, 0), ⟨st.l.eraseIdx i, st.last, f st.c⟩)
def cDel (c : Cnt) : Cnt := (c.1, c.2.1 + 1, c.2.2)
def cDrop (c : Cnt) : Cnt := (c.1, c.2.1, c.2.2.1 + 1, c.2.2.2)
def byteX (a w : Int) : Int := xorI .u8 a w
def spoilS (st : BagS) (n at_ w : Int) : Int × BagS :=
  match idxS st.l n with
  | none => (80, st)
  | some i => match st.l[i]? with
    | none => (80, st)
    | some p =>
      if p.2.2.2.2 = true ∨ at_ < 0 ∨ (p.2.2.2.1.length : Int) ≤ at_ ∨ w = 0 then (80, st)
      else (0, ⟨st.l.set i (p.1, p.2.1, p.2.2.1, p.2.2.2.1.set at_.toNat (byteX (p.2.2.2.1.getD at_.toNat 0) w), true), st.last, (st.c.1, st.c.2.1, st.c.2.2.1, st.c.2.2.2.1, st.c.2.2.2.2.1 + 1, st.c.2.2.2.2.2)⟩)
/-- Numbers are small. -/
structure BagOk (m : Nat) (st : BagS) : Prop where
  len : st.l.length ≤ 256
  last : 0 ≤ st.last ∧ st.last ≤ m
  c1 : 0 ≤ st.c.1 ∧ st.c.1 ≤ m
  c2 : 0 ≤ st.c.2.1 ∧ st.c.2.1 ≤ m
  c3 : 0 ≤ st.c.2.2.1 ∧ st.c.2.2.1 ≤ m
  c4 : 0 ≤ st.c.2.2.2.1 ∧ st.c.2.2.2.1 ≤ m
  c5 : 0 ≤ st.c.2.2.2.2.1 ∧ st.c.2.2.2.2.1 ≤ m
  c6 : 0 ≤ st.c.2.2.2.2.2 ∧ st.c.2.2.2.2.2 ≤ m
  dat : ∀ p ∈ st.l, p.2.2.2.1.length ≤ 60
theorem BagOk.mono {m m' : Nat} {st : BagS} (h : BagOk m st) (hm : m ≤ m') : BagOk m' st :=
  ⟨h.len, by have := h.last; omega, by have := h.c1; omega, by have := h.c2; omega, by have := h.c3; omega, by have := h.c4; omega, by have := h.c5; omega, by have := h.c6; omega, h.dat⟩
theorem putS_ok {m : Nat} {st : BagS} (h : BagOk m st) (p : Int × Int × List Int × Bool) (hp : p.2.2.1.length ≤ 60) : BagOk (m + 1) (putS st p).2 := by
  have h' := h.mono (Nat.le_succ m)
  unfold putS
  split
  · rename_i hl
    refine ⟨by simp; omega, by have := h.last; simp only; omega, h'.c1, h'.c2, h'.c3, h'.c4, h'.c5, h'.c6, ?_⟩
    intro q hq
    rcases List.mem_append.1 hq with hq | hq
    · exact h.dat q hq
    · simp only [List.mem_cons, List.not_mem_nil, or_false] at hq; subst hq; exact hp
  · exact ⟨h'.len, h'.last, h'.c1, h'.c2, h'.c3, h'.c4, h'.c5, by have := h.c6; simp only; omega, h'.dat⟩
theorem sendS_ok {m : Nat} {st : BagS} (h : BagOk m st) (fr to : Int) (d : List Int) (hd : d.length ≤ 60) : BagOk (m + 2) (sendS st fr to d).2 :=
  putS_ok (m := m + 1) (by have h' := h.mono (Nat.le_succ m); exact ⟨h'.len, h'.last, by have := h.c1; simp only; omega, h'.c2, h'.c3, h'.c4, h'.c5, h'.c6, h'.dat⟩) _ hd
theorem idxS_lt {l : List Pk} {n : Int} {i : Nat} (h : idxS l n = some i) : ∃ hi : i < l.length, l[i].1 = n ∧ ∀ j (hj : j < i), l[j].1 ≠ n := by
  unfold idxS at h
  rw [List.findIdx?_eq_some_iff_getElem] at h
  obtain ⟨hi, h1, h2⟩ := h
  exact ⟨hi, by simpa using h1, fun j hj => by simpa using h2 j hj⟩
theorem idxS_none {l : List Pk} {n : Int} (h : idxS l n = none) : ∀ p ∈ l, p.1 ≠ n := by
  unfold idxS at h
  rw [List.findIdx?_eq_none_iff] at h
  intro p hp
  simpa using h p hp
theorem doubleS_ok {m : Nat} {st : BagS} (h : BagOk m st) (n : Int) : BagOk (m + 2) (doubleS st n).2 := by
  unfold doubleS
  split
  · exact h.mono (by omega)
  · split
    · exact h.mono (by omega)
    · rename_i p hp
      refine putS_ok (m := m + 1) ?_ _ (h.dat p (List.mem_of_getElem? hp))
      have h' := h.mono (Nat.le_succ m)
      exact ⟨h'.len, h'.last, h'.c1, h'.c2, h'.c3, by have := h.c4; simp only; omega, h'.c5, h'.c6, h'.dat⟩
theorem takeS_ok {m : Nat} {st : BagS} (h : BagOk m st) (n : Int) {f : Cnt → Cnt} (hf : f = cDel ∨ f = cDrop) : BagOk (m + 1) (takeS st n f).2 := by
  have h' := h.mono (Nat.le_succ m)
  unfold takeS
  split
  · exact h'
  · rename_i i hi
    obtain ⟨hi, _⟩ := idxS_lt hi
    have hd : ∀ p ∈ st.l.eraseIdx i, p.2.2.2.1.length ≤ 60 := fun p hp => h.dat p (List.mem_of_mem_eraseIdx hp)
    have hl : (st.l.eraseIdx i).length ≤ 256 := by have := h.len; have := List.length_eraseIdx_le st.l i; omega
    rcases hf with rfl | rfl
    · exact ⟨hl, h'.last, h'.c1, by have := h.c2; simp only [cDel]; omega, h'.c3, h'.c4, h'.c5, h'.c6, hd⟩
    · exact ⟨hl, h'.last, h'.c1, h'.c2, by have := h.c3; simp only [cDrop]; omega, h'.c4, h'.c5, h'.c6, hd⟩
theorem spoilS_ok {m : Nat} {st : BagS} (h : BagOk m st) (n at_ w : Int) : BagOk (m + 1) (spoilS st n at_ w).2 := by
  have h' := h.mono (Nat.le_succ m)
  unfold spoilS
  split
  · exact h'
  · split
    · exact h'
    · rename_i i _ p hp
      split
      · exact h'
      · refine ⟨by simpa using h.len, h'.last, h'.c1, h'.c2, h'.c3, h'.c4, by have := h.c5; simp only; omega, h'.c6, ?_⟩
        intro q hq
        rcases List.mem_or_eq_of_mem_set hq with hq | rfl
        · exact h.dat q hq
        · simpa using h.dat p (List.mem_of_getElem? hp)
end
end Go.Proofs.Ytcookjolkhcjhaa

/- Bags: what is done to one: sent, doubled. -/
namespace Go.Proofs.Ytcookjolkhcjhaa
open Go Go.Proofs.Ytcookjolkhcjhaa.D
set_option linter.unusedVariables false
set_option linter.unusedSimpArgs false
noncomputable section

theorem at_ne {S : St} {b b' : Nat} {o o' : DObj} (h : At S b o) (h' : At S b' o') (hne : o ≠ o') : b ≠ b' := fun e => hne (at_inj h (e ▸ h'))
theorem Pks.get {S : St} {fl : List Flt} {l : List Pk} {ow : List Nat} (h : Pks S fl l ow) (i : Nat) (hi : i < l.length) : ∃ d o, fl[i]'(by rw [h.len]; exact hi) = (l[i].1, l[i].2.1, l[i].2.2.1, d, l[i].2.2.2.2) ∧ DatB S d l[i].2.2.2.1 o ∧ ∀ c ∈ o, c ∈ ow := by
  obtain ⟨fl1, p, d, fl2, l1, l2, ow1, o, ow2, e1, e2, e3, e4, e5, g1, g2, g3⟩ := h.at i hi
  subst e3 e4 e5
  have h1 : (l1 ++ p :: l2)[i] = p := by rw [List.getElem_append_right (by omega)]; simp [e2]
  have h2 : (fl1 ++ (p.1, p.2.1, p.2.2.1, d, p.2.2.2.2) :: fl2)[i]'(by simp; omega) = (p.1, p.2.1, p.2.2.1, d, p.2.2.2.2) := by rw [List.getElem_append_right (by omega)]; simp [e1]
  exact ⟨d, o, by rw [h2, h1], by rw [h1]; exact g2, fun c hc => by simp [hc]⟩
theorem Pks.idx {S : St} {fl : List Flt} {l : List Pk} {ow : List Nat} (h : Pks S fl l ow) (n : Int) : fl.findIdx? (fun x => decide (x.1 = n)) = idxS l n := by
  unfold idxS
  induction h with
  | nil => rfl
  | cons h1 h2 ih => rw [List.findIdx?_cons, List.findIdx?_cons, ih]
theorem Pks.place {S : St} {fl : List Flt} {l : List Pk} {ow : List Nat} (h : Pks S fl l ow) (n : Int) : placeF fl n = match idxS l n with | some i => ((i : Int), 0) | none => (0, 80) := by
  unfold placeF
  rw [h.idx]
  cases idxS l n <;> rfl
/-- Blocks of a bag. -/
theorem list_ne {S : St} {bb : Nat} {s : Sl} {last : Int} {c : Cnt} {fl : List Flt} {l : List Pk} {ow : List Nat} (h1 : At S bb (bagO s last c)) (h2 : Fls (bb + 1) S s fl) (h3 : Pks S fl l ow) {b : Nat} (hb : b ∈ ow) : ¬ (b = bb ∨ bb + 1 ≤ b ∧ s.a = some ⟨b, 0, none⟩) := by
  obtain ⟨x, h, hx⟩ := h3.blk hb
  rintro (rfl | ⟨_, e⟩)
  · rw [at_inj h h1] at hx; cases hx
  · obtain ⟨cs', h', _⟩ := h2.bk (h2.bk_mem e)
    rw [at_inj h h'] at hx; cases hx
theorem put_is {S S' : St} {bb : Nat} {s s' : Sl} {last last' : Int} {c c' : Cnt} {fl : List Flt} {l : List Pk} {ow : List Nat} {p : Pk} {d : Sl} (h1 : At S bb (bagO s last c)) (h2 : Fls (bb + 1) S s fl) (h3 : Pks S fl l ow) (h4 : ow.Nodup)
    (f : s'.a = s.a ∨ ∃ b, s'.a = some ⟨b, 0, none⟩ ∧ S.next ≤ b) (g1 : At S' bb (bagO s' last' c')) (g2 : Fls (bb + 1) S' s' (fl ++ [(p.1, p.2.1, p.2.2.1, d, p.2.2.2.2)])) (g3 : Dat S.next S' d p.2.2.2.1) (m : Mod (fun b => b = bb ∨ bb + 1 ≤ b ∧ s.a = some ⟨b, 0, none⟩) S S') :
    ∃ own', BagIs S' bb ⟨l ++ [p], last', c'⟩ own' ∧ (∀ b ∈ own', b ∈ bb :: (blk s ++ ow) ∨ S.next ≤ b) ∧ Mod (fun b => b ∈ bb :: (blk s ++ ow)) S S' := by
  obtain ⟨o, d1, d2, d3⟩ := g3.b
  have hp := h3.mod m.kp fun b hb => list_ne h1 h2 h3 hb
  refine ⟨bb :: (blk s' ++ (ow ++ o)), ⟨s', _, ow ++ o, g1, g2, hp.app (.one d1), ?_, rfl⟩, ?_, m.mono fun b hb _ => ?_⟩
  · rw [List.nodup_append]
    refine ⟨h4, d3, fun a ha b hb e => ?_⟩
    obtain ⟨x, hx, _⟩ := h3.blk ha
    have := hx.lt
    have := d2 b hb
    omega
  · intro b hb
    simp only [List.mem_cons, List.mem_append] at hb ⊢
    rcases hb with rfl | hb | hb | hb
    · exact .inl (.inl rfl)
    · rcases f with f | ⟨b', f, hlt⟩
      · exact .inl (.inr (.inl (by unfold blk at hb ⊢; rw [f] at hb; exact hb)))
      · unfold blk at hb; rw [f] at hb; simp only [List.mem_cons, List.not_mem_nil, or_false] at hb; subst hb; exact .inr hlt
    · exact .inl (.inr (.inr hb))
    · exact .inr (d2 b hb)
  · rcases hb with rfl | ⟨_, e⟩
    · simp
    · have := h2.bk_mem e; simp [this]
theorem same_is {S S' : St} {bb : Nat} {s : Sl} {last last' : Int} {c c' : Cnt} {fl : List Flt} {l : List Pk} {ow : List Nat} (h1 : At S bb (bagO s last c)) (h2 : Fls (bb + 1) S s fl) (h3 : Pks S fl l ow) (h4 : ow.Nodup)
    (g1 : At S' bb (bagO s last' c')) (m : Mod (fun b => b = bb) S S') :
    BagIs S' bb ⟨l, last', c'⟩ (bb :: (blk s ++ ow)) ∧ Mod (fun b => b ∈ bb :: (blk s ++ ow)) S S' := by
  refine ⟨⟨s, fl, ow, g1, m.grX h2 fun b hb _ e => by omega, h3.mod m.kp fun b hb e => list_ne h1 h2 h3 hb (.inl e), h4, rfl⟩, m.mono fun b hb _ => by subst hb; simp⟩

theorem b26 {S : St} {bb m : Nat} {st : BagS} {own : List Nat} {fr to : Int} {da : Sl} {d : List Int} {k : Value → St → Prop} (h : BagIs S bb st own) (ok : BagOk m st) (hm : m < 2000000)
    (hd : SlOf cellB 1 S da d) (hsp : ∀ a, da.a = some a → a.spot = none) (hne : d ≠ [] → ∀ b o, da.a = some ⟨b, o, none⟩ → b ≠ bb) (hl : d.length ≤ 60)
    (hk : ∀ own' S', BagIs S' bb (sendS st fr to d).2 own' → (∀ c ∈ own', c ∈ own ∨ S.next ≤ c) → Mod (fun b => b ∈ own) S S' → k (.int .i64 (sendS st fr to d).1) S') :
    WC E0 26 [.pointer (some ⟨bb, 0, none⟩), .int .i64 fr, .int .i64 to, .slice da.a da.len da.cap] S k := by
  obtain ⟨s, fl, ow, h1, h2, h3, h4, rfl⟩ := h
  have hlen := h3.len
  have o1 := ok.len; have o2 := ok.last; have o3 := ok.c1; have o4 := ok.c6
  have hlt := h1.lt
  refine s26 (N := bb + 1) h1 h2 (by omega) (by omega) (by omega) (by omega) (by omega) hd hsp hne (by omega) (fun hf S' g1 g2 m1 => ?_) (fun hf s' d' S' f g1 g2 g3 m1 => ?_)
  · have e : sendS st fr to d = (0, ⟨st.l, st.last, (st.c.1 + 1, st.c.2.1, st.c.2.2.1, st.c.2.2.2.1, st.c.2.2.2.2.1, st.c.2.2.2.2.2 + 1)⟩) := by
      unfold sendS putS; rw [if_neg (by simp only; omega)]
    rw [wrap_i64 (by omega) (by omega)] at g1
    obtain ⟨a1, a2⟩ := same_is h1 h2 h3 h4 g1 m1
    rw [e] at hk
    exact hk _ S' a1 (fun c hc => .inl hc) a2
  · have e : sendS st fr to d = (st.last + 1, ⟨st.l ++ [(st.last + 1, fr, to, d, false)], st.last + 1, (st.c.1 + 1, st.c.2)⟩) := by
      unfold sendS putS; rw [if_pos (by simp only; omega)]
    rw [e] at hk
    obtain ⟨own', a1, a2, a3⟩ := put_is (p := (st.last + 1, fr, to, d, false)) h1 h2 h3 h4 f g1 g2 g3 m1
    exact hk own' S' a1 a2 a3
theorem b52 {S : St} {bb m : Nat} {st : BagS} {own : List Nat} {x : Flt} {d : List Int} {k : Value → St → Prop} (h : BagIs S bb st own) (ok : BagOk m st) (hm : m < 2000000)
    (hd : SlOf cellB 1 S x.2.2.2.1 d) (hsp : ∀ a, x.2.2.2.1.a = some a → a.spot = none) (hne : d ≠ [] → ∀ b o, x.2.2.2.1.a = some ⟨b, o, none⟩ → b ≠ bb) (hl : d.length ≤ 60)
    (hk : ∀ own' S', BagIs S' bb (putS st (x.2.1, x.2.2.1, d, x.2.2.2.2)).2 own' → (∀ c ∈ own', c ∈ own ∨ S.next ≤ c) → Mod (fun b => b ∈ own) S S' → k (.int .i64 (putS st (x.2.1, x.2.2.1, d, x.2.2.2.2)).1) S') :
    WC E0 52 [.pointer (some ⟨bb, 0, none⟩), sv G66 x] S k := by
  obtain ⟨s, fl, ow, h1, h2, h3, h4, rfl⟩ := h
  have hlen := h3.len
  have o1 := ok.len; have o2 := ok.last; have o3 := ok.c1; have o4 := ok.c6
  have hlt := h1.lt
  by_cases hf : fl.length = 256
  · refine s52full (N := bb + 1) h1 h2 (by omega) fun S' g1 m1 => ?_
    have e : putS st (x.2.1, x.2.2.1, d, x.2.2.2.2) = (0, ⟨st.l, st.last, (st.c.1, st.c.2.1, st.c.2.2.1, st.c.2.2.2.1, st.c.2.2.2.2.1, st.c.2.2.2.2.2 + 1)⟩) := by
      unfold putS; rw [if_neg (by omega)]
    rw [wrap_i64 (by omega) (by omega)] at g1
    obtain ⟨a1, a2⟩ := same_is h1 h2 h3 h4 g1 m1
    rw [e] at hk
    exact hk _ S' a1 (fun c hc => .inl hc) a2
  · refine s52 (N := bb + 1) h1 h2 (by omega) (by omega) (by omega) (by omega) hd hsp hne (by omega) fun s' d' S' f g1 g2 g3 m1 => ?_
    have e : putS st (x.2.1, x.2.2.1, d, x.2.2.2.2) = (st.last + 1, ⟨st.l ++ [(st.last + 1, x.2.1, x.2.2.1, d, x.2.2.2.2)], st.last + 1, st.c⟩) := by
      unfold putS; rw [if_pos (by omega)]
    rw [e] at hk
    obtain ⟨own', a1, a2, a3⟩ := put_is (p := (st.last + 1, x.2.1, x.2.2.1, d, x.2.2.2.2)) h1 h2 h3 h4 f g1 g2 g3 m1
    exact hk own' S' a1 a2 a3
theorem b30 {S : St} {bb m : Nat} {st : BagS} {own : List Nat} {n : Int} {k : Value → St → Prop} (h : BagIs S bb st own) (ok : BagOk m st) (hm : m < 1000000)
    (hk : ∀ own' S', BagIs S' bb (doubleS st n).2 own' → (∀ c ∈ own', c ∈ own ∨ S.next ≤ c) → Mod (fun b => b ∈ own) S S' → k (.tuple #[.int .i64 (doubleS st n).1.1, .int .i64 (doubleS st n).1.2]) S') :
    WC E0 30 [.pointer (some ⟨bb, 0, none⟩), .int .i64 n] S k := by
  have h0 := h
  obtain ⟨s, fl, ow, h1, h2, h3, h4, rfl⟩ := h
  have hlen := h3.len
  have o1 := ok.len; have o2 := ok.last; have o3 := ok.c4; have o4 := ok.c6
  have hlt := h1.lt
  refine w30 _ n ?_
  unfold c30
  refine evC_of (s56 h1 (h2.of fun _ => rfl) (by omega) fun S1 e1 => ⟨placeF fl n, rfl, ?_⟩)
  rw [h3.place n]
  unfold doubleS at hk
  cases hi : idxS st.l n with
  | none =>
    rw [hi] at hk
    refine ifW_ndec (fun _ => ?_) fun h => by cases h
    exact hk _ S1 (h0.ext e1) (fun c hc => .inl hc) (e1.mono fun _ h _ => h.elim)
  | some i =>
    rw [hi] at hk
    obtain ⟨hil, _, _⟩ := idxS_lt hi
    refine ifW_ndec (fun h => (h rfl).elim) fun _ => ?_
    simp only [List.getElem?_eq_getElem hil] at hk
    have h1' := e1.at h1
    have hL := hld_one h1'
    refine ptrW_of (ptrW_of (ptrW_of ?_))
    (first | refine hL.ld 0 rfl (by kernel_rfl) _ rfl ?_ | refine hL.ld 1 rfl (by kernel_rfl) _ rfl ?_ | refine hL.ld 2 rfl (by kernel_rfl) _ rfl ?_ | refine hL.ld 3 rfl (by kernel_rfl) _ rfl ?_ | refine hL.ld 4 rfl (by kernel_rfl) _ rfl ?_ | refine hL.ld 5 rfl (by kernel_rfl) _ rfl ?_ | refine hL.ld 6 rfl (by kernel_rfl) _ rfl ?_ | refine hL.ld 7 rfl (by kernel_rfl) _ rfl ?_ | refine hL.lda 0 rfl (by kernel_rfl) _ rfl ?_ | refine hL.lda 1 rfl (by kernel_rfl) _ rfl ?_ | refine hL.lda 2 rfl (by kernel_rfl) _ rfl ?_ | refine hL.lda 3 rfl (by kernel_rfl) _ rfl ?_ | refine hL.lda 4 rfl (by kernel_rfl) _ rfl ?_ | refine hL.lda 5 rfl (by kernel_rfl) _ rfl ?_ | refine hL.lda 6 rfl (by kernel_rfl) _ rfl ?_ | refine hL.lda 7 rfl (by kernel_rfl) _ rfl ?_)
    refine ptrW_of (ptrW_of (ptrW_of ?_))
    rw [wrap_i64 (by omega) (by omega)]
    (first | refine hL.st 0 _ rfl (by kernel_rfl) rfl (Nat.le_of_ble_eq_true rfl) rfl rfl fun S' hL hn' => ?_ | refine hL.st 1 _ rfl (by kernel_rfl) rfl (Nat.le_of_ble_eq_true rfl) rfl rfl fun S' hL hn' => ?_ | refine hL.st 2 _ rfl (by kernel_rfl) rfl (Nat.le_of_ble_eq_true rfl) rfl rfl fun S' hL hn' => ?_ | refine hL.st 3 _ rfl (by kernel_rfl) rfl (Nat.le_of_ble_eq_true rfl) rfl rfl fun S' hL hn' => ?_ | refine hL.st 4 _ rfl (by kernel_rfl) rfl (Nat.le_of_ble_eq_true rfl) rfl rfl fun S' hL hn' => ?_ | refine hL.st 5 _ rfl (by kernel_rfl) rfl (Nat.le_of_ble_eq_true rfl) rfl rfl fun S' hL hn' => ?_ | refine hL.st 6 _ rfl (by kernel_rfl) rfl (Nat.le_of_ble_eq_true rfl) rfl rfl fun S' hL hn' => ?_ | refine hL.st 7 _ rfl (by kernel_rfl) rfl (Nat.le_of_ble_eq_true rfl) rfl rfl fun S' hL hn' => ?_)
    refine ptrW_of (ptrW_of ?_)
    (first | refine hL.ld 0 rfl (by kernel_rfl) _ rfl ?_ | refine hL.ld 1 rfl (by kernel_rfl) _ rfl ?_ | refine hL.ld 2 rfl (by kernel_rfl) _ rfl ?_ | refine hL.ld 3 rfl (by kernel_rfl) _ rfl ?_ | refine hL.ld 4 rfl (by kernel_rfl) _ rfl ?_ | refine hL.ld 5 rfl (by kernel_rfl) _ rfl ?_ | refine hL.ld 6 rfl (by kernel_rfl) _ rfl ?_ | refine hL.ld 7 rfl (by kernel_rfl) _ rfl ?_ | refine hL.lda 0 rfl (by kernel_rfl) _ rfl ?_ | refine hL.lda 1 rfl (by kernel_rfl) _ rfl ?_ | refine hL.lda 2 rfl (by kernel_rfl) _ rfl ?_ | refine hL.lda 3 rfl (by kernel_rfl) _ rfl ?_ | refine hL.lda 4 rfl (by kernel_rfl) _ rfl ?_ | refine hL.lda 5 rfl (by kernel_rfl) _ rfl ?_ | refine hL.lda 6 rfl (by kernel_rfl) _ rfl ?_ | refine hL.lda 7 rfl (by kernel_rfl) _ rfl ?_)
    have g1 : At S' bb (bagO s st.last (st.c.1, st.c.2.1, st.c.2.2.1, st.c.2.2.2.1 + 1, st.c.2.2.2.2)) := hL.at 0 rfl
    have hm2 := hL.mod
    have g2 : Fls (bb + 1) S' s fl := hm2.grX (e1.grX h2 fun _ _ _ h => h) fun b hb _ e => by omega
    have g3 : Pks S' fl st.l ow := (h3.mod e1.kp fun _ _ h => h).mod hm2.kp fun b hb e => list_ne h1' (e1.grX h2 fun _ _ _ h => h) (h3.mod e1.kp fun _ _ h => h) hb (.inl e)
    have hB : BagIs S' bb ⟨st.l, st.last, (st.c.1, st.c.2.1, st.c.2.2.1, st.c.2.2.2.1 + 1, st.c.2.2.2.2)⟩ (bb :: (blk s ++ ow)) := ⟨s, fl, ow, g1, g2, g3, h4, rfl⟩
    have okB : BagOk (m + 1) ⟨st.l, st.last, (st.c.1, st.c.2.1, st.c.2.2.1, st.c.2.2.2.1 + 1, st.c.2.2.2.2)⟩ := by
      have h' := ok.mono (Nat.le_succ m)
      exact ⟨h'.len, h'.last, h'.c1, h'.c2, h'.c3, by have := ok.c4; simp only; omega, h'.c5, h'.c6, h'.dat⟩
    have hlt2 : (i : Int) < (fl.length : Int) := by omega
    have h00i : (0 : Int) ≤ (i : Int) := by omega
    refine (GrX.of (f := cellsF) (sz := 5) (fun _ => rfl) g2).idx (f := cellsF) (sz := 5) (fun _ => rfl) h00i hlt2 fun b4' o4 cs4 m4 r4 f4 at4 _ hv4 => ?_
    refine ⟨fl[i], load_agg at4 (n := 5) (by kernel_rfl) hv4 rfl, ?_⟩
    obtain ⟨d, o, e9, d9, o9⟩ := g3.get i hil
    rw [e9]
    have hm1 := e1.next
    have hm3 := hm2.next
    refine evC_of (b52 (d := st.l[i].2.2.2.1) hB okB (by omega) d9.of d9.sp (fun hne b o' hb => ?_) (ok.dat _ (List.getElem_mem _)) fun own' S9 q1 q2 q3 => ⟨_, rfl, ?_⟩)
    · rcases d9 with ⟨h, _⟩ | ⟨b', cap, more, rfl, h', hat, hmo⟩
      · exact (hne h).elim
      · simp only at hb; rw [h'] at hb; cases hb
        rcases hmo with rfl | ⟨h, _⟩
        · exact at_ne hat g1 (by simp)
        · exact (hne h).elim
    · refine hk own' S9 q1 (fun c hc => (q2 c hc).imp id fun h => by omega) ?_
      refine Mod.trans (F := fun b => b ∈ bb :: (blk s ++ ow)) (e1.mono fun _ h _ => h.elim) ((hm2.mono fun b hb _ => by subst hb; simp).trans q3 fun b h _ => h) fun b h _ => h
end
end Go.Proofs.Ytcookjolkhcjhaa

/- Bags: one is taken out. -/
namespace Go.Proofs.Ytcookjolkhcjhaa
open Go Go.Proofs.Ytcookjolkhcjhaa.D
set_option linter.unusedVariables false
set_option linter.unusedSimpArgs false
noncomputable section

theorem Frm.at {O : Nat → Prop} {b : Nat} {o : DObj} (h : O b) : Frm O (fun S => At S b o) := fun F S S' m hF ha => m.at ha (hF b h)
theorem Frm.fls {O : Nat → Prop} {N : Nat} {s : Sl} {fl : List Flt} (h : ∀ c ∈ blk s, O c) : Frm O (fun S => Fls N S s fl) := fun F S S' m hF ha => m.grX ha fun b _ _ e => hF b (h b (by simp [blk, e]))
theorem Frm.pks {O : Nat → Prop} {fl : List Flt} {l : List Pk} {ow : List Nat} (h : ∀ c ∈ ow, O c) : Frm O (fun S => Pks S fl l ow) := fun F S S' m hF ha => ha.mod m fun b hb => hF b (h b hb)
theorem Frm.dat {O : Nat → Prop} {d : Sl} {l : List Int} {o : List Nat} (h : ∀ c ∈ o, O c) : Frm O (fun S => DatB S d l o) := fun F S S' m hF ha => mod_datB m ha fun b hb => hF b (h b hb)
theorem Frm.conj {O : Nat → Prop} {P P' : St → Prop} (h : Frm O P) (h' : Frm O P') : Frm O (fun S => P S ∧ P' S) := fun F S S' m hF ha => ⟨h F S S' m hF ha.1, h' F S S' m hF ha.2⟩
theorem BagIs.frm {bb : Nat} {st : BagS} {own : List Nat} : Frm (fun c => c ∈ own) (fun S => BagIs S bb st own) := fun F S S' m hF h => h.mod m hF
abbrev fltOf (p : Pk) (d : Sl) : Flt := (p.1, p.2.1, p.2.2.1, d, p.2.2.2.2)
theorem dat_nil {S : St} : DatB S ⟨none, 0, 0⟩ [] [] := .inl ⟨rfl, rfl, rfl⟩
theorem blk_a {s s' : Sl} (h : s'.a = s.a) : blk s' = blk s := by unfold blk; rw [h]
/-- A bag while one is taken out. -/
def BagT (bb c0 : Nat) (s0 s : Sl) (last : Int) (c : Cnt) (fl fl1 fl2 : List Flt) (l1 l2 : List Pk) (ow1 ow2 : List Nat) (d : Sl) (dl : List Int) (o : List Nat) (S : St) : Prop :=
  At S bb (bagO s0 last c) ∧ Fls (bb + 1) S s fl ∧ Pks S fl1 l1 ow1 ∧ DatB S d dl o ∧ Pks S fl2 l2 ow2 ∧ At S c0 (.cells [.pointer (some ⟨bb, 0, none⟩)] none false none)
theorem BagT.frm {bb c0 : Nat} {s0 s : Sl} {last : Int} {c : Cnt} {fl fl1 fl2 : List Flt} {l1 l2 : List Pk} {ow1 ow2 : List Nat} {d : Sl} {dl : List Int} {o : List Nat} {O : Nat → Prop}
    (h1 : O bb) (h2 : O c0) (h3 : ∀ c ∈ blk s, O c) (h4 : ∀ c ∈ ow1, O c) (h5 : ∀ c ∈ o, O c) (h6 : ∀ c ∈ ow2, O c) : Frm O (BagT bb c0 s0 s last c fl fl1 fl2 l1 l2 ow1 ow2 d dl o) :=
  Frm.conj (Frm.at h1) (Frm.conj (Frm.fls h3) (Frm.conj (Frm.pks h4) (Frm.conj (Frm.dat h5) (Frm.conj (Frm.pks h6) (Frm.at h2)))))
theorem b53 {S : St} {bb m g c0 : Nat} {st : BagS} {own : List Nat} {n : Int} {f : Cnt → Cnt} {k : Value → St → Prop} (h : BagIs S bb st own) (ok : BagOk m st)
    (h0 : At S c0 (.cells [.pointer (some ⟨bb, 0, none⟩)] none false none))
    (hg : ∀ S1 (s' : Sl) (k : Value → St → Prop), At S1 c0 (.cells [.pointer (some ⟨bb, 0, none⟩)] none false none) → At S1 bb (bagO s' st.last st.c) → (∀ S', At S' bb (bagO s' st.last (f st.c)) → Mod (fun b => b = bb) S1 S' → k (.tuple #[]) S') → WC E0 g [.pointer (some ⟨c0, 0, none⟩)] S1 k)
    (hk : ∀ own' d o S', BagIs S' bb (takeS st n f).2 own' → DatB S' d (takeS st n f).1.1.2.2.2.1 o → (∀ c ∈ own', c ∈ own ∨ S.next ≤ c) → (∀ c ∈ o, c ∈ own ∧ c ∉ own') → Mod (fun b => b ∈ own) S S' → k (.tuple #[sv G66 (fltOf (takeS st n f).1.1 d), .int .i64 (takeS st n f).1.2]) S') :
    WC E0 53 [.pointer (some ⟨bb, 0, none⟩), .int .i64 n, .func (.func g) #[] #[.pointer (some ⟨c0, 0, none⟩)]] S k := by
  have hB := h
  obtain ⟨s, fl, ow, h1, h2, h3, h4, rfl⟩ := h
  have hlen := h3.len
  have o1 := ok.len
  refine w53 _ n _ ?_
  unfold c53
  unfold takeS at hk
  cases hi : idxS st.l n with
  | none =>
    rw [hi] at hk
    have hL := Cx.start noB hB BagIs.frm (fun c hc => hB.lt hc)
    refine hL.new fun b1 S1 hL hb1 hn1 => ?_
    have hm1 := hL.mod
    refine evC_of (s56 (hm1.at h1 (fun h => h)) (hm1.slOf (h2.of fun _ => rfl) fun _ _ _ _ h => h) (by omega) fun S2 e2 => ⟨placeF fl n, rfl, ?_⟩)
    have hL := hL.ext e2
    rw [h3.place n, hi]
    refine ifW_ndec (fun _ => ?_) fun h => by cases h
    (first | refine hL.st 0 _ rfl (by kernel_rfl) rfl (Nat.le_of_ble_eq_true rfl) rfl rfl fun S' hL hn' => ?_ | refine hL.st 1 _ rfl (by kernel_rfl) rfl (Nat.le_of_ble_eq_true rfl) rfl rfl fun S' hL hn' => ?_ | refine hL.st 2 _ rfl (by kernel_rfl) rfl (Nat.le_of_ble_eq_true rfl) rfl rfl fun S' hL hn' => ?_ | refine hL.st 3 _ rfl (by kernel_rfl) rfl (Nat.le_of_ble_eq_true rfl) rfl rfl fun S' hL hn' => ?_ | refine hL.st 4 _ rfl (by kernel_rfl) rfl (Nat.le_of_ble_eq_true rfl) rfl rfl fun S' hL hn' => ?_ | refine hL.st 5 _ rfl (by kernel_rfl) rfl (Nat.le_of_ble_eq_true rfl) rfl rfl fun S' hL hn' => ?_ | refine hL.st 6 _ rfl (by kernel_rfl) rfl (Nat.le_of_ble_eq_true rfl) rfl rfl fun S' hL hn' => ?_ | refine hL.st 7 _ rfl (by kernel_rfl) rfl (Nat.le_of_ble_eq_true rfl) rfl rfl fun S' hL hn' => ?_)
    (first | refine hL.ld 0 rfl (by kernel_rfl) _ rfl ?_ | refine hL.ld 1 rfl (by kernel_rfl) _ rfl ?_ | refine hL.ld 2 rfl (by kernel_rfl) _ rfl ?_ | refine hL.ld 3 rfl (by kernel_rfl) _ rfl ?_ | refine hL.ld 4 rfl (by kernel_rfl) _ rfl ?_ | refine hL.ld 5 rfl (by kernel_rfl) _ rfl ?_ | refine hL.ld 6 rfl (by kernel_rfl) _ rfl ?_ | refine hL.ld 7 rfl (by kernel_rfl) _ rfl ?_ | refine hL.lda 0 rfl (by kernel_rfl) _ rfl ?_ | refine hL.lda 1 rfl (by kernel_rfl) _ rfl ?_ | refine hL.lda 2 rfl (by kernel_rfl) _ rfl ?_ | refine hL.lda 3 rfl (by kernel_rfl) _ rfl ?_ | refine hL.lda 4 rfl (by kernel_rfl) _ rfl ?_ | refine hL.lda 5 rfl (by kernel_rfl) _ rfl ?_ | refine hL.lda 6 rfl (by kernel_rfl) _ rfl ?_ | refine hL.lda 7 rfl (by kernel_rfl) _ rfl ?_)
    exact hk _ ⟨none, 0, 0⟩ [] _ hL.p dat_nil (fun c hc => .inl hc) (fun _ h => by cases h) (hL.mod.mono fun _ h _ => h.elim)
  | some i =>
    rw [hi] at hk
    obtain ⟨hil, _, _⟩ := idxS_lt hi
    obtain ⟨fl1, p, d, fl2, l1, l2, ow1, o, ow2, q1, q2, q3, q4, q5, g1, g2, g3⟩ := h3.at i hil
    have ep : st.l.getD i noPk = p := by rw [q4]; simp [← q2]
    have ex : fl[i]'(by omega) = fltOf p d := by simp only [q3]; rw [List.getElem_append_right (by omega)]; simp [q1]
    have el : st.l.eraseIdx i = l1 ++ l2 := by rw [q4, List.eraseIdx_append_of_length_le (by omega)]; simp [← q2]
    have ef : fl.eraseIdx i = fl1 ++ fl2 := by rw [q3, List.eraseIdx_append_of_length_le (by omega)]; simp [← q1]
    simp only [ep, el] at hk
    have hbb := h1.lt
    have hc0 := h0.lt
    have o1l := fun c (hc : c ∈ ow1) => hB.lt (c := c) (by simp [q5, hc])
    have o2l := fun c (hc : c ∈ ow2) => hB.lt (c := c) (by simp [q5, hc])
    have ol := fun c (hc : c ∈ o) => hB.lt (c := c) (by simp [q5, hc])
    have sl := fun c (hc : c ∈ blk s) => hB.lt (c := c) (by simp [hc])
    have hO : ∀ c, (c = c0 ∨ c ∈ bb :: (blk s ++ ow)) → c < S.next := fun c hc => hc.elim (fun e => by omega) fun h => hB.lt h
    have hL := Cx.start (O := fun c => c = c0 ∨ c ∈ bb :: (blk s ++ ow)) (P := BagT bb c0 s s st.last st.c fl fl1 fl2 l1 l2 ow1 ow2 d p.2.2.2.1 o) (fun c => c ∈ bb :: (blk s ++ ow)) ⟨h1, h2, g1, g2, g3, h0⟩
      (BagT.frm (by simp) (by simp) (fun c hc => by simp [hc]) (fun c hc => by simp [q5, hc]) (fun c hc => by simp [q5, hc]) (fun c hc => by simp [q5, hc])) hO
    refine hL.new fun b1 S1 hL hb1 hn1 => ?_
    obtain ⟨p1, p2, p3, p4, p5, p6⟩ := hL.p
    refine evC_of (s56 p1 (p2.of fun _ => rfl) (by omega) fun S2 e2 => ⟨placeF fl n, rfl, ?_⟩)
    have hL := hL.ext e2
    rw [h3.place n, hi]
    refine ifW_ndec (fun h => (h rfl).elim) fun _ => ?_
    obtain ⟨p1, p2, p3, p4, p5, p6⟩ := hL.p
    refine ptrW_of (ptrW_of ?_)
    refine evV_of s (load_one p1 (by kernel_rfl)) ?_
    have hlt2 : (i : Int) < (fl.length : Int) := by omega
    have h00i : (0 : Int) ≤ (i : Int) := by omega
    refine (GrX.of (f := cellsF) (sz := 5) (fun _ => rfl) p2).idx (f := cellsF) (sz := 5) (fun _ => rfl) h00i hlt2 fun b4' o4 cs4 m4 r4 f4 at4 _ hv4 => ?_
    refine ⟨fl[i], load_agg at4 (n := 5) (by kernel_rfl) hv4 rfl, ?_⟩
    rw [ex]
    refine hL.new fun b8 S4 hL hb8 hn4 => ?_
    (first | refine hL.st 0 _ rfl (by kernel_rfl) rfl (Nat.le_of_ble_eq_true rfl) rfl rfl fun S' hL hn' => ?_ | refine hL.st 1 _ rfl (by kernel_rfl) rfl (Nat.le_of_ble_eq_true rfl) rfl rfl fun S' hL hn' => ?_ | refine hL.st 2 _ rfl (by kernel_rfl) rfl (Nat.le_of_ble_eq_true rfl) rfl rfl fun S' hL hn' => ?_ | refine hL.st 3 _ rfl (by kernel_rfl) rfl (Nat.le_of_ble_eq_true rfl) rfl rfl fun S' hL hn' => ?_ | refine hL.st 4 _ rfl (by kernel_rfl) rfl (Nat.le_of_ble_eq_true rfl) rfl rfl fun S' hL hn' => ?_ | refine hL.st 5 _ rfl (by kernel_rfl) rfl (Nat.le_of_ble_eq_true rfl) rfl rfl fun S' hL hn' => ?_ | refine hL.st 6 _ rfl (by kernel_rfl) rfl (Nat.le_of_ble_eq_true rfl) rfl rfl fun S' hL hn' => ?_ | refine hL.st 7 _ rfl (by kernel_rfl) rfl (Nat.le_of_ble_eq_true rfl) rfl rfl fun S' hL hn' => ?_)
    obtain ⟨p1, p2, p3, p4, p5, p6⟩ := hL.p
    refine ptrW_of (ptrW_of ?_)
    refine evV_of s (load_one p1 (by kernel_rfl)) ?_
    rw [wrap_succ (by omega)]
    refine evC_of (s68 p2 (by omega) (by omega) fun s' S6 t1 t2 t3 t4 => ⟨s', rfl, ?_⟩)
    have en := e2.next
    have hne1 : ∀ b ∈ ow1, ¬ (bb + 1 ≤ b ∧ s.a = some ⟨b, 0, none⟩) := fun b hb e => list_ne h1 h2 h3 (b := b) (by simp [q5, hb]) (.inr e)
    have hne2 : ∀ b ∈ ow2, ¬ (bb + 1 ≤ b ∧ s.a = some ⟨b, 0, none⟩) := fun b hb e => list_ne h1 h2 h3 (b := b) (by simp [q5, hb]) (.inr e)
    have hneo : ∀ b ∈ o, ¬ (bb + 1 ≤ b ∧ s.a = some ⟨b, 0, none⟩) := fun b hb e => list_ne h1 h2 h3 (b := b) (by simp [q5, hb]) (.inr e)
    have hne0 : ¬ (bb + 1 ≤ c0 ∧ s.a = some ⟨c0, 0, none⟩) := fun e => by
      obtain ⟨cs', h', _⟩ := h2.bk (h2.bk_mem e.2)
      have := at_inj h0 h'; simp at this
    rw [ef] at t1
    have hL := hL.op (O' := fun c => c = c0 ∨ c ∈ bb :: (blk s ++ ow)) (P' := BagT bb c0 s s' st.last st.c (fl1 ++ fl2) fl1 fl2 l1 l2 ow1 ow2 d p.2.2.2.1 o) t2 (fun c hc => .inr (by simp [h2.bk_mem hc.2])) (fun c hc _ => by simp [h2.bk_mem hc.2])
      ⟨t2.at p1 (fun h => by omega), t1, p3.mod t2.kp hne1, mod_datB t2.kp p4 hneo, p5.mod t2.kp hne2, t2.at p6 hne0⟩
      (BagT.frm (by simp) (by simp) (fun c hc => by rw [blk_a t3] at hc; simp [hc]) (fun c hc => by simp [q5, hc]) (fun c hc => by simp [q5, hc]) (fun c hc => by simp [q5, hc])) (fun c hc => .inl hc) (fun c hc => by have := hO c hc; omega)
    obtain ⟨p1, p2, p3, p4, p5, p6⟩ := hL.p
    refine ptrW_of (ptrW_of ?_)
    have hm7 : Mod (fun c => c = bb) S6 (S6.upd bb (bagO s' st.last st.c)) := upd_mod
    have h17 : At (S6.upd bb (bagO s' st.last st.c)) bb (bagO s' st.last st.c) := upd_at p1
    refine ⟨_, store_cells p1 (n := 1) (by kernel_rfl) rfl (Nat.le_of_ble_eq_true rfl) rfl, ?_⟩
    show evY E0 (TT.tup []) _ [] (S6.upd bb (bagO s' st.last st.c)) _
    have hn7 : (S6.upd bb (bagO s' st.last st.c)).next = S6.next := rfl
    generalize S6.upd bb (bagO s' st.last st.c) = S7 at hm7 h17 hn7 ⊢
    have hnb1 : ∀ b ∈ ow1, b ≠ bb := fun b hb e => list_ne h1 h2 h3 (b := b) (by simp [q5, hb]) (.inl e)
    have hnb2 : ∀ b ∈ ow2, b ≠ bb := fun b hb e => list_ne h1 h2 h3 (b := b) (by simp [q5, hb]) (.inl e)
    have hnbo : ∀ b ∈ o, b ≠ bb := fun b hb e => list_ne h1 h2 h3 (b := b) (by simp [q5, hb]) (.inl e)
    have hnb0 : c0 ≠ bb := at_ne h0 h1 (by simp)
    have hL := hL.op (O' := fun c => c = c0 ∨ c ∈ bb :: (blk s ++ ow)) (P' := BagT bb c0 s' s' st.last st.c (fl1 ++ fl2) fl1 fl2 l1 l2 ow1 ow2 d p.2.2.2.1 o) hm7 (fun c hc => .inr (by simp [hc])) (fun c hc _ => by simp [hc])
      ⟨h17, hm7.grX p2 (fun b h _ e => by omega), p3.mod hm7.kp hnb1, mod_datB hm7.kp p4 hnbo, p5.mod hm7.kp hnb2, hm7.at p6 hnb0⟩
      (BagT.frm (by simp) (by simp) (fun c hc => by rw [blk_a t3] at hc; simp [hc]) (fun c hc => by simp [q5, hc]) (fun c hc => by simp [q5, hc]) (fun c hc => by simp [q5, hc])) (fun c hc => .inl hc) (fun c hc => by have := hO c hc; omega)
    obtain ⟨p1, p2, p3, p4, p5, p6⟩ := hL.p
    refine evY_func (evC_of (hg S7 s' _ p6 p1 fun S8 h18 m8 => ⟨(), rfl, ?_⟩))
    have hn8 := m8.next
    have hL := hL.op (O' := fun c => c = c0 ∨ c ∈ bb :: (blk s ++ ow)) (P' := BagT bb c0 s' s' st.last (f st.c) (fl1 ++ fl2) fl1 fl2 l1 l2 ow1 ow2 d p.2.2.2.1 o) m8 (fun c hc => .inr (by simp [hc])) (fun c hc _ => by simp [hc])
      ⟨h18, m8.grX p2 (fun b h _ e => by omega), p3.mod m8.kp hnb1, mod_datB m8.kp p4 hnbo, p5.mod m8.kp hnb2, m8.at p6 hnb0⟩
      (BagT.frm (by simp) (by simp) (fun c hc => by rw [blk_a t3] at hc; simp [hc]) (fun c hc => by simp [q5, hc]) (fun c hc => by simp [q5, hc]) (fun c hc => by simp [q5, hc])) (fun c hc => .inl hc) (fun c hc => by have := hO c hc; omega)
    (first | refine hL.ld 0 rfl (by kernel_rfl) _ rfl ?_ | refine hL.ld 1 rfl (by kernel_rfl) _ rfl ?_ | refine hL.ld 2 rfl (by kernel_rfl) _ rfl ?_ | refine hL.ld 3 rfl (by kernel_rfl) _ rfl ?_ | refine hL.ld 4 rfl (by kernel_rfl) _ rfl ?_ | refine hL.ld 5 rfl (by kernel_rfl) _ rfl ?_ | refine hL.ld 6 rfl (by kernel_rfl) _ rfl ?_ | refine hL.ld 7 rfl (by kernel_rfl) _ rfl ?_ | refine hL.lda 0 rfl (by kernel_rfl) _ rfl ?_ | refine hL.lda 1 rfl (by kernel_rfl) _ rfl ?_ | refine hL.lda 2 rfl (by kernel_rfl) _ rfl ?_ | refine hL.lda 3 rfl (by kernel_rfl) _ rfl ?_ | refine hL.lda 4 rfl (by kernel_rfl) _ rfl ?_ | refine hL.lda 5 rfl (by kernel_rfl) _ rfl ?_ | refine hL.lda 6 rfl (by kernel_rfl) _ rfl ?_ | refine hL.lda 7 rfl (by kernel_rfl) _ rfl ?_)
    (first | refine hL.st 0 _ rfl (by kernel_rfl) rfl (Nat.le_of_ble_eq_true rfl) rfl rfl fun S' hL hn' => ?_ | refine hL.st 1 _ rfl (by kernel_rfl) rfl (Nat.le_of_ble_eq_true rfl) rfl rfl fun S' hL hn' => ?_ | refine hL.st 2 _ rfl (by kernel_rfl) rfl (Nat.le_of_ble_eq_true rfl) rfl rfl fun S' hL hn' => ?_ | refine hL.st 3 _ rfl (by kernel_rfl) rfl (Nat.le_of_ble_eq_true rfl) rfl rfl fun S' hL hn' => ?_ | refine hL.st 4 _ rfl (by kernel_rfl) rfl (Nat.le_of_ble_eq_true rfl) rfl rfl fun S' hL hn' => ?_ | refine hL.st 5 _ rfl (by kernel_rfl) rfl (Nat.le_of_ble_eq_true rfl) rfl rfl fun S' hL hn' => ?_ | refine hL.st 6 _ rfl (by kernel_rfl) rfl (Nat.le_of_ble_eq_true rfl) rfl rfl fun S' hL hn' => ?_ | refine hL.st 7 _ rfl (by kernel_rfl) rfl (Nat.le_of_ble_eq_true rfl) rfl rfl fun S' hL hn' => ?_)
    (first | refine hL.ld 0 rfl (by kernel_rfl) _ rfl ?_ | refine hL.ld 1 rfl (by kernel_rfl) _ rfl ?_ | refine hL.ld 2 rfl (by kernel_rfl) _ rfl ?_ | refine hL.ld 3 rfl (by kernel_rfl) _ rfl ?_ | refine hL.ld 4 rfl (by kernel_rfl) _ rfl ?_ | refine hL.ld 5 rfl (by kernel_rfl) _ rfl ?_ | refine hL.ld 6 rfl (by kernel_rfl) _ rfl ?_ | refine hL.ld 7 rfl (by kernel_rfl) _ rfl ?_ | refine hL.lda 0 rfl (by kernel_rfl) _ rfl ?_ | refine hL.lda 1 rfl (by kernel_rfl) _ rfl ?_ | refine hL.lda 2 rfl (by kernel_rfl) _ rfl ?_ | refine hL.lda 3 rfl (by kernel_rfl) _ rfl ?_ | refine hL.lda 4 rfl (by kernel_rfl) _ rfl ?_ | refine hL.lda 5 rfl (by kernel_rfl) _ rfl ?_ | refine hL.lda 6 rfl (by kernel_rfl) _ rfl ?_ | refine hL.lda 7 rfl (by kernel_rfl) _ rfl ?_)
    obtain ⟨p1, p2, p3, p4, p5, p6⟩ := hL.p
    have hno := h4
    rw [q5, List.nodup_append] at hno
    obtain ⟨n1, n2, n3⟩ := hno
    rw [List.nodup_append] at n2
    refine hk (bb :: (blk s' ++ (ow1 ++ ow2))) d o _ ⟨s', fl1 ++ fl2, ow1 ++ ow2, p1, p2, p3.app p5, ?_, rfl⟩ p4 ?_ ?_ hL.mod
    · rw [List.nodup_append]
      exact ⟨n1, n2.2.1, fun a ha b hb => n3 a ha b (by simp [hb])⟩
    · intro c hc
      rw [blk_a t3] at hc
      simp only [List.mem_cons, List.mem_append, q5] at hc ⊢
      rcases hc with hc | hc | hc | hc <;> simp [hc]
    · intro c hc
      refine ⟨by simp [q5, hc], fun hm => ?_⟩
      rw [blk_a t3] at hm
      simp only [List.mem_cons, List.mem_append] at hm
      rcases hm with hm | hm | hm | hm
      · exact hnbo c hc hm
      · obtain ⟨cs, hx, hy, hz⟩ := h2.bk hm
        exact hneo c hc ⟨hy, hz⟩
      · exact n3 c hm c (by simp [hc]) rfl
      · exact n2.2.2 c hc c hm rfl
end
end Go.Proofs.Ytcookjolkhcjhaa

/- Bags: delivered, dropped, found, all. -/
namespace Go.Proofs.Ytcookjolkhcjhaa
open Go Go.Proofs.Ytcookjolkhcjhaa.D
set_option linter.unusedVariables false
set_option linter.unusedSimpArgs false
noncomputable section

/-- A bag, and bytes that were in it. -/
def BagD (bb : Nat) (st : BagS) (own : List Nat) (d : Sl) (dl : List Int) (o : List Nat) (S : St) : Prop := BagIs S bb st own ∧ DatB S d dl o
theorem BagD.frm {bb : Nat} {st : BagS} {own : List Nat} {d : Sl} {dl : List Int} {o : List Nat} : Frm (fun c => c ∈ own ∨ c ∈ o) (BagD bb st own d dl o) :=
  fun F S S' m hF h => ⟨h.1.mod m fun c hc => hF c (.inl hc), mod_datB m h.2 fun c hc => hF c (.inr hc)⟩
theorem DatB.lt {S : St} {d : Sl} {l : List Int} {o : List Nat} (h : DatB S d l o) {c : Nat} (hc : c ∈ o) : c < S.next := by
  obtain ⟨x, h, _⟩ := h.blk hc; exact h.lt
theorem b27 {S : St} {bb m : Nat} {st : BagS} {own : List Nat} {n : Int} {k : Value → St → Prop} (h : BagIs S bb st own) (ok : BagOk m st) (hm : m < 1000000)
    (hk : ∀ own' d o S', BagIs S' bb (takeS st n cDel).2 own' → DatB S' d (takeS st n cDel).1.1.2.2.2.1 o → (∀ c ∈ own', c ∈ own ∨ S.next ≤ c) → (∀ c ∈ o, c ∈ own ∧ c ∉ own') → Mod (fun b => b ∈ own) S S' → k (.tuple #[sv G66 (fltOf (takeS st n cDel).1.1 d), .int .i64 (takeS st n cDel).1.2]) S') :
    WC E0 27 [.pointer (some ⟨bb, 0, none⟩), .int .i64 n] S k := by
  refine w27 _ n ?_
  unfold c27
  have hlt := fun c (hc : c ∈ own) => h.lt hc
  have hL := Cx.start (fun c => c ∈ own) h BagIs.frm hlt
  refine hL.new fun c0 S1 hL hb1 hn1 => ?_
  refine hL.new fun b2 S2 hL hb2 hn2 => ?_
  (first | refine hL.ld 0 rfl (by kernel_rfl) _ rfl ?_ | refine hL.ld 1 rfl (by kernel_rfl) _ rfl ?_ | refine hL.ld 2 rfl (by kernel_rfl) _ rfl ?_ | refine hL.ld 3 rfl (by kernel_rfl) _ rfl ?_ | refine hL.ld 4 rfl (by kernel_rfl) _ rfl ?_ | refine hL.ld 5 rfl (by kernel_rfl) _ rfl ?_ | refine hL.ld 6 rfl (by kernel_rfl) _ rfl ?_ | refine hL.ld 7 rfl (by kernel_rfl) _ rfl ?_ | refine hL.lda 0 rfl (by kernel_rfl) _ rfl ?_ | refine hL.lda 1 rfl (by kernel_rfl) _ rfl ?_ | refine hL.lda 2 rfl (by kernel_rfl) _ rfl ?_ | refine hL.lda 3 rfl (by kernel_rfl) _ rfl ?_ | refine hL.lda 4 rfl (by kernel_rfl) _ rfl ?_ | refine hL.lda 5 rfl (by kernel_rfl) _ rfl ?_ | refine hL.lda 6 rfl (by kernel_rfl) _ rfl ?_ | refine hL.lda 7 rfl (by kernel_rfl) _ rfl ?_)
  have o2 := ok.c2
  refine evC_of (b53 (f := cDel) hL.p ok (hL.at 1 rfl) (fun S1 s' k a1 a2 hk => s54 a1 a2 ⟨o2.1, by omega⟩ fun S' g1 g2 => hk S' g1 g2) fun own' d o S3 t1 t2 t3 t4 t5 => ⟨(_, _), rfl, ?_⟩)
  have n5 := t5.next
  have hL := hL.op (P' := BagD bb (takeS st n cDel).2 own' d (takeS st n cDel).1.1.2.2.2.1 o) t5 (fun c hc => hc) (fun c hc _ => hc) ⟨t1, t2⟩ BagD.frm (fun c hc => hc.elim (fun hc => t3 c hc) fun hc => .inl (t4 c hc).1) (fun c hc => hc.elim (fun hc => t1.lt hc) fun hc => t2.lt hc)
  generalize takeS st n cDel = r at *
  obtain ⟨⟨⟨p1, p2, p3, p4, p5⟩, e⟩, st'⟩ := r
  (first | refine hL.st 0 _ rfl (by kernel_rfl) rfl (Nat.le_of_ble_eq_true rfl) rfl rfl fun S' hL hn' => ?_ | refine hL.st 1 _ rfl (by kernel_rfl) rfl (Nat.le_of_ble_eq_true rfl) rfl rfl fun S' hL hn' => ?_ | refine hL.st 2 _ rfl (by kernel_rfl) rfl (Nat.le_of_ble_eq_true rfl) rfl rfl fun S' hL hn' => ?_ | refine hL.st 3 _ rfl (by kernel_rfl) rfl (Nat.le_of_ble_eq_true rfl) rfl rfl fun S' hL hn' => ?_ | refine hL.st 4 _ rfl (by kernel_rfl) rfl (Nat.le_of_ble_eq_true rfl) rfl rfl fun S' hL hn' => ?_ | refine hL.st 5 _ rfl (by kernel_rfl) rfl (Nat.le_of_ble_eq_true rfl) rfl rfl fun S' hL hn' => ?_ | refine hL.st 6 _ rfl (by kernel_rfl) rfl (Nat.le_of_ble_eq_true rfl) rfl rfl fun S' hL hn' => ?_ | refine hL.st 7 _ rfl (by kernel_rfl) rfl (Nat.le_of_ble_eq_true rfl) rfl rfl fun S' hL hn' => ?_)
  (first | refine hL.ld 0 rfl (by kernel_rfl) _ rfl ?_ | refine hL.ld 1 rfl (by kernel_rfl) _ rfl ?_ | refine hL.ld 2 rfl (by kernel_rfl) _ rfl ?_ | refine hL.ld 3 rfl (by kernel_rfl) _ rfl ?_ | refine hL.ld 4 rfl (by kernel_rfl) _ rfl ?_ | refine hL.ld 5 rfl (by kernel_rfl) _ rfl ?_ | refine hL.ld 6 rfl (by kernel_rfl) _ rfl ?_ | refine hL.ld 7 rfl (by kernel_rfl) _ rfl ?_ | refine hL.lda 0 rfl (by kernel_rfl) _ rfl ?_ | refine hL.lda 1 rfl (by kernel_rfl) _ rfl ?_ | refine hL.lda 2 rfl (by kernel_rfl) _ rfl ?_ | refine hL.lda 3 rfl (by kernel_rfl) _ rfl ?_ | refine hL.lda 4 rfl (by kernel_rfl) _ rfl ?_ | refine hL.lda 5 rfl (by kernel_rfl) _ rfl ?_ | refine hL.lda 6 rfl (by kernel_rfl) _ rfl ?_ | refine hL.lda 7 rfl (by kernel_rfl) _ rfl ?_)
  exact hk own' d o _ hL.p.1 hL.p.2 (fun c hc => (t3 c hc).imp id fun h => by omega) t4 hL.mod
theorem b29 {S : St} {bb m : Nat} {st : BagS} {own : List Nat} {n : Int} {k : Value → St → Prop} (h : BagIs S bb st own) (ok : BagOk m st) (hm : m < 1000000)
    (hk : ∀ own' S', BagIs S' bb (takeS st n cDrop).2 own' → (∀ c ∈ own', c ∈ own ∨ S.next ≤ c) → Mod (fun b => b ∈ own) S S' → k (.int .i64 (takeS st n cDrop).1.2) S') :
    WC E0 29 [.pointer (some ⟨bb, 0, none⟩), .int .i64 n] S k := by
  refine w29 _ n ?_
  unfold c29
  have hlt := fun c (hc : c ∈ own) => h.lt hc
  have hL := Cx.start (fun c => c ∈ own) h BagIs.frm hlt
  refine hL.new fun c0 S1 hL hb1 hn1 => ?_
  (first | refine hL.ld 0 rfl (by kernel_rfl) _ rfl ?_ | refine hL.ld 1 rfl (by kernel_rfl) _ rfl ?_ | refine hL.ld 2 rfl (by kernel_rfl) _ rfl ?_ | refine hL.ld 3 rfl (by kernel_rfl) _ rfl ?_ | refine hL.ld 4 rfl (by kernel_rfl) _ rfl ?_ | refine hL.ld 5 rfl (by kernel_rfl) _ rfl ?_ | refine hL.ld 6 rfl (by kernel_rfl) _ rfl ?_ | refine hL.ld 7 rfl (by kernel_rfl) _ rfl ?_ | refine hL.lda 0 rfl (by kernel_rfl) _ rfl ?_ | refine hL.lda 1 rfl (by kernel_rfl) _ rfl ?_ | refine hL.lda 2 rfl (by kernel_rfl) _ rfl ?_ | refine hL.lda 3 rfl (by kernel_rfl) _ rfl ?_ | refine hL.lda 4 rfl (by kernel_rfl) _ rfl ?_ | refine hL.lda 5 rfl (by kernel_rfl) _ rfl ?_ | refine hL.lda 6 rfl (by kernel_rfl) _ rfl ?_ | refine hL.lda 7 rfl (by kernel_rfl) _ rfl ?_)
  have o2 := ok.c3
  refine evC_of (b53 (f := cDrop) hL.p ok (hL.at 0 rfl) (fun S1 s' k a1 a2 hk => s55 a1 a2 ⟨o2.1, by omega⟩ fun S' g1 g2 => hk S' g1 g2) fun own' d o S3 t1 t2 t3 t4 t5 => ⟨(_, _), rfl, ?_⟩)
  have n5 := t5.next
  have hL := hL.op (P' := fun S => BagIs S bb (takeS st n cDrop).2 own') t5 (fun c hc => hc) (fun c hc _ => hc) t1 BagIs.frm (fun c hc => t3 c hc) (fun c hc => t1.lt hc)
  refine hL.new fun b2 S4 hL hb2 hn2 => ?_
  generalize takeS st n cDrop = r at *
  obtain ⟨⟨⟨p1, p2, p3, p4, p5⟩, e⟩, st'⟩ := r
  (first | refine hL.st 0 _ rfl (by kernel_rfl) rfl (Nat.le_of_ble_eq_true rfl) rfl rfl fun S' hL hn' => ?_ | refine hL.st 1 _ rfl (by kernel_rfl) rfl (Nat.le_of_ble_eq_true rfl) rfl rfl fun S' hL hn' => ?_ | refine hL.st 2 _ rfl (by kernel_rfl) rfl (Nat.le_of_ble_eq_true rfl) rfl rfl fun S' hL hn' => ?_ | refine hL.st 3 _ rfl (by kernel_rfl) rfl (Nat.le_of_ble_eq_true rfl) rfl rfl fun S' hL hn' => ?_ | refine hL.st 4 _ rfl (by kernel_rfl) rfl (Nat.le_of_ble_eq_true rfl) rfl rfl fun S' hL hn' => ?_ | refine hL.st 5 _ rfl (by kernel_rfl) rfl (Nat.le_of_ble_eq_true rfl) rfl rfl fun S' hL hn' => ?_ | refine hL.st 6 _ rfl (by kernel_rfl) rfl (Nat.le_of_ble_eq_true rfl) rfl rfl fun S' hL hn' => ?_ | refine hL.st 7 _ rfl (by kernel_rfl) rfl (Nat.le_of_ble_eq_true rfl) rfl rfl fun S' hL hn' => ?_)
  exact hk own' _ hL.p (fun c hc => (t3 c hc).imp id fun h => by omega) hL.mod
def findS (st : BagS) (n : Int) : Pk × Bool := match idxS st.l n with | some i => (st.l.getD i noPk, true) | none => (noPk, false)
theorem b36 {S : St} {bb m : Nat} {st : BagS} {own : List Nat} {n : Int} {k : Value → St → Prop} (h : BagIs S bb st own) (ok : BagOk m st)
    (hk : ∀ d o S', DatB S' d (findS st n).1.2.2.2.1 o → (∀ c ∈ o, S.next ≤ c) → Ext S S' → k (.tuple #[sv G66 (fltOf (findS st n).1 d), .bool (findS st n).2]) S') :
    WC E0 36 [.pointer (some ⟨bb, 0, none⟩), .int .i64 n] S k := by
  obtain ⟨s, fl, ow, h1, h2, h3, h4, rfl⟩ := h
  have hlen := h3.len
  have o1 := ok.len
  refine s36 (ds := fun i => (st.l.getD i noPk).2.2.2.1) h1 (h2.of fun _ => rfl) (by omega) (fun i hi => ?_) (fun hno S' e => ?_) (fun i hi hlt heq d N S' hN hd e => ?_)
  · obtain ⟨d, o, e1, e2, e3⟩ := h3.get i (by omega)
    have ed : st.l.getD i noPk = st.l[i] := by simp [show i < st.l.length by omega]
    rw [e1, ed]
    have := ok.dat st.l[i] (List.getElem_mem _)
    exact ⟨e2.of, e2.sp, by omega⟩
  · have hi : idxS st.l n = none := by
      rw [← h3.idx n, List.findIdx?_eq_none_iff]
      intro x hx
      simpa using hno x hx
    unfold findS at hk
    rw [hi] at hk
    exact hk ⟨none, 0, 0⟩ [] S' dat_nil (fun _ h => by cases h) e
  · have hi2 : idxS st.l n = some i := by
      rw [← h3.idx n, List.findIdx?_eq_some_iff_getElem]
      exact ⟨hi, by simpa using heq, fun j hj => by simpa using hlt j hj⟩
    have ed : st.l.getD i noPk = st.l[i]'(by omega) := by simp [show i < st.l.length by omega]
    unfold findS at hk
    rw [hi2] at hk
    simp only [ed] at hk hd
    obtain ⟨o, d1, d2, d3⟩ := hd.b
    obtain ⟨d', o', e1, _⟩ := h3.get i (by omega)
    rw [e1]
    exact hk d o S' d1 (fun c hc => by have := d2 c hc; omega) e
theorem b33 {S : St} {bb : Nat} {st : BagS} {own : List Nat} {k : Value → St → Prop} (h : BagIs S bb st own) (hk : k (.int .i64 (st.l.length : Int)) S) : WC E0 33 [.pointer (some ⟨bb, 0, none⟩)] S k := by
  obtain ⟨s, fl, ow, h1, h2, h3, h4, rfl⟩ := h
  refine s33 h1 ?_
  rw [h2.len, h3.len]
  exact hk
theorem b32 {S : St} {bb : Nat} {st : BagS} {own : List Nat} {k : Value → St → Prop} (h : BagIs S bb st own) (hk : ∀ S', Ext S S' → k (sv G56 st.c) S') : WC E0 32 [.pointer (some ⟨bb, 0, none⟩)] S k := by
  obtain ⟨s, fl, ow, h1, h2, h3, h4, rfl⟩ := h
  exact s32 h1 hk
/-- A list of packets, and their bytes, all in blocks of their own from N on. -/
def LsIs (N : Nat) (S : St) (s : Sl) (l : List Pk) : Prop := ∃ fl ow, Fls N S s fl ∧ Pks S fl l ow ∧ ow.Nodup ∧ ∀ c ∈ ow, N ≤ c
end
end Go.Proofs.Ytcookjolkhcjhaa

/- Bags: all packets. -/
namespace Go.Proofs.Ytcookjolkhcjhaa
open Go Go.Proofs.Ytcookjolkhcjhaa.D
set_option linter.unusedVariables false
set_option linter.unusedSimpArgs false
noncomputable section

def LsR (N : Nat) (s : Sl) (fl : List Flt) (l : List Pk) (ow : List Nat) (S : St) : Prop := Fls N S s fl ∧ Pks S fl l ow
theorem LsR.frm {N : Nat} {s : Sl} {fl : List Flt} {l : List Pk} {ow : List Nat} : Frm (fun c => c ∈ blk s ∨ c ∈ ow) (LsR N s fl l ow) :=
  Frm.conj (Frm.fls fun c hc => .inl hc) (Frm.pks fun c hc => .inr hc)
def LsRD (N : Nat) (s : Sl) (fl : List Flt) (l : List Pk) (ow : List Nat) (d : Sl) (dl : List Int) (o : List Nat) (S : St) : Prop := Fls N S s fl ∧ Pks S fl l ow ∧ DatB S d dl o
theorem LsRD.frm {N : Nat} {s : Sl} {fl : List Flt} {l : List Pk} {ow : List Nat} {d : Sl} {dl : List Int} {o : List Nat} : Frm (fun c => c ∈ blk s ∨ c ∈ ow ∨ c ∈ o) (LsRD N s fl l ow d dl o) :=
  Frm.conj (Frm.fls fun c hc => .inl hc) (Frm.conj (Frm.pks fun c hc => .inr (.inl hc)) (Frm.dat fun c hc => .inr (.inr hc)))
theorem LsRD.lt {N : Nat} {s : Sl} {fl : List Flt} {l : List Pk} {ow : List Nat} {d : Sl} {dl : List Int} {o : List Nat} {S : St} (h : LsRD N s fl l ow d dl o S) {c : Nat} (hc : c ∈ blk s ∨ c ∈ ow ∨ c ∈ o) : c < S.next := by
  rcases hc with hc | hc | hc
  · obtain ⟨cs, h, _⟩ := h.1.bk hc; exact h.lt
  · obtain ⟨x, h, _⟩ := h.2.1.blk hc; exact h.lt
  · exact h.2.2.lt hc
theorem take_succ' {α : Type} {l : List α} {i : Nat} (hi : i < l.length) : l.take (i + 1) = l.take i ++ [l[i]] := by
  rw [List.take_add_one, List.getElem?_eq_getElem hi]; rfl
theorem b34 {S : St} {bb m : Nat} {st : BagS} {own : List Nat} {k : Value → St → Prop} (h : BagIs S bb st own) (ok : BagOk m st)
    (hk : ∀ s S', LsIs S.next S' s st.l → Ext S S' → k (.slice s.a s.len s.cap) S') :
    WC E0 34 [.pointer (some ⟨bb, 0, none⟩)] S k := by
  obtain ⟨s, fl, ow, h1, h2, h3, h4, rfl⟩ := h
  have hlen := h3.len
  have o1 := ok.len
  refine w34 _ ?_
  unfold c34
  have hL := Cx.start (S := S) (O := fun c => c ∈ blk ⟨none, 0, 0⟩ ∨ c ∈ ([] : List Nat)) (P := LsR S.next ⟨none, 0, 0⟩ [] [] []) noB ⟨.inl ⟨rfl, rfl⟩, .nil⟩ LsR.frm (by simp [blk])
  refine hL.new fun b1 S1 hL hb1 hn1 => ?_
  refine evC_of (w57 _ ?_)
  unfold c57
  refine hL.new fun c1 S2 hL hb2 hn2 => ?_
  refine ⟨_, rfl, ?_⟩
  refine hL.new fun b2 S3 hL hb3 hn3 => ?_
  rintro b3 S4 L rfl rfl hLL hR
  have hL := hL.record (o := L .ready none)
  have hn4 : (S3.alloc (L .ready none)).2.next = S3.next + 1 := rfl
  generalize (S3.alloc (L .ready none)).2 = S4 at hL hn4 ⊢
  generalize hb4 : S3.next = b3 at hL hR ⊢
  refine WG_of rfl (s69 (bb := bb) (s := s) (fl := fl) (last := st.last) (c := st.c) (by omega) (fun i S' => ∃ s' fl' ow', Cx noB S S' [(b3, L .ready none), (b2, .deferred), (c1, .cells [.pointer (some ⟨bb, 0, none⟩)] none false none), (b1, .cells [.slice s'.a s'.len s'.cap] none false none)] (fun c => c ∈ blk s' ∨ c ∈ ow') (LsR S.next s' fl' (st.l.take i) ow') ∧ ow'.Nodup ∧ ∀ c ∈ ow', S.next ≤ c) ?_ ?_ ?_ ?_ ?_)
  · rintro i S' ⟨s', fl', ow', hL, _⟩
    have hm := hL.mod
    exact ⟨hL.at 2 rfl, hm.at h1 (fun h => h), hm.slOf (h2.of fun _ => rfl) fun _ _ _ _ h => h⟩
  · rintro i S' S'' ⟨s', fl', ow', hL, h2⟩ e
    exact ⟨s', fl', ow', hL.ext e, h2⟩
  · exact ⟨⟨none, 0, 0⟩, [], [], hL, by simp, by simp⟩
  · rintro i hi S' ⟨s', fl', ow', hL, hnd, hge⟩
    refine hR ((i : Int), fl[i]) S' _ ?_
    have hil : i < st.l.length := by omega
    (first | refine hL.has 0 rfl ?_ | refine hL.has 1 rfl ?_ | refine hL.has 2 rfl ?_ | refine hL.has 3 rfl ?_ | refine hL.has 4 rfl ?_ | refine hL.has 5 rfl ?_ | refine hL.has 6 rfl ?_ | refine hL.has 7 rfl ?_)
    refine hL.new fun b4 S6 hL hb5 hn6 => ?_
    (first | refine hL.st 0 _ rfl (by kernel_rfl) rfl (Nat.le_of_ble_eq_true rfl) rfl rfl fun S7 hL hn7 => ?_ | refine hL.st 1 _ rfl (by kernel_rfl) rfl (Nat.le_of_ble_eq_true rfl) rfl rfl fun S7 hL hn7 => ?_ | refine hL.st 2 _ rfl (by kernel_rfl) rfl (Nat.le_of_ble_eq_true rfl) rfl rfl fun S7 hL hn7 => ?_ | refine hL.st 3 _ rfl (by kernel_rfl) rfl (Nat.le_of_ble_eq_true rfl) rfl rfl fun S7 hL hn7 => ?_ | refine hL.st 4 _ rfl (by kernel_rfl) rfl (Nat.le_of_ble_eq_true rfl) rfl rfl fun S7 hL hn7 => ?_ | refine hL.st 5 _ rfl (by kernel_rfl) rfl (Nat.le_of_ble_eq_true rfl) rfl rfl fun S7 hL hn7 => ?_ | refine hL.st 6 _ rfl (by kernel_rfl) rfl (Nat.le_of_ble_eq_true rfl) rfl rfl fun S7 hL hn7 => ?_ | refine hL.st 7 _ rfl (by kernel_rfl) rfl (Nat.le_of_ble_eq_true rfl) rfl rfl fun S7 hL hn7 => ?_)
    (first | refine hL.has 0 rfl ?_ | refine hL.has 1 rfl ?_ | refine hL.has 2 rfl ?_ | refine hL.has 3 rfl ?_ | refine hL.has 4 rfl ?_ | refine hL.has 5 rfl ?_ | refine hL.has 6 rfl ?_ | refine hL.has 7 rfl ?_)
    (first | refine hL.upd 0 rfl fun S8 hL hn8 => ?_ | refine hL.upd 1 rfl fun S8 hL hn8 => ?_ | refine hL.upd 2 rfl fun S8 hL hn8 => ?_ | refine hL.upd 3 rfl fun S8 hL hn8 => ?_ | refine hL.upd 4 rfl fun S8 hL hn8 => ?_ | refine hL.upd 5 rfl fun S8 hL hn8 => ?_ | refine hL.upd 6 rfl fun S8 hL hn8 => ?_ | refine hL.upd 7 rfl fun S8 hL hn8 => ?_)
    (first | refine hL.ld 0 rfl (by kernel_rfl) _ rfl ?_ | refine hL.ld 1 rfl (by kernel_rfl) _ rfl ?_ | refine hL.ld 2 rfl (by kernel_rfl) _ rfl ?_ | refine hL.ld 3 rfl (by kernel_rfl) _ rfl ?_ | refine hL.ld 4 rfl (by kernel_rfl) _ rfl ?_ | refine hL.ld 5 rfl (by kernel_rfl) _ rfl ?_ | refine hL.ld 6 rfl (by kernel_rfl) _ rfl ?_ | refine hL.ld 7 rfl (by kernel_rfl) _ rfl ?_ | refine hL.lda 0 rfl (by kernel_rfl) _ rfl ?_ | refine hL.lda 1 rfl (by kernel_rfl) _ rfl ?_ | refine hL.lda 2 rfl (by kernel_rfl) _ rfl ?_ | refine hL.lda 3 rfl (by kernel_rfl) _ rfl ?_ | refine hL.lda 4 rfl (by kernel_rfl) _ rfl ?_ | refine hL.lda 5 rfl (by kernel_rfl) _ rfl ?_ | refine hL.lda 6 rfl (by kernel_rfl) _ rfl ?_ | refine hL.lda 7 rfl (by kernel_rfl) _ rfl ?_)
    (first | refine hL.ld 0 rfl (by kernel_rfl) _ rfl ?_ | refine hL.ld 1 rfl (by kernel_rfl) _ rfl ?_ | refine hL.ld 2 rfl (by kernel_rfl) _ rfl ?_ | refine hL.ld 3 rfl (by kernel_rfl) _ rfl ?_ | refine hL.ld 4 rfl (by kernel_rfl) _ rfl ?_ | refine hL.ld 5 rfl (by kernel_rfl) _ rfl ?_ | refine hL.ld 6 rfl (by kernel_rfl) _ rfl ?_ | refine hL.ld 7 rfl (by kernel_rfl) _ rfl ?_ | refine hL.lda 0 rfl (by kernel_rfl) _ rfl ?_ | refine hL.lda 1 rfl (by kernel_rfl) _ rfl ?_ | refine hL.lda 2 rfl (by kernel_rfl) _ rfl ?_ | refine hL.lda 3 rfl (by kernel_rfl) _ rfl ?_ | refine hL.lda 4 rfl (by kernel_rfl) _ rfl ?_ | refine hL.lda 5 rfl (by kernel_rfl) _ rfl ?_ | refine hL.lda 6 rfl (by kernel_rfl) _ rfl ?_ | refine hL.lda 7 rfl (by kernel_rfl) _ rfl ?_)
    have hL8 := hL
    obtain ⟨d0, o0, e0, d1, _⟩ := h3.get i hil
    have hm9 := hL.mod
    have en9 := hL.mod.next
    have hd9 : SlOf cellB 1 S8 fl[i].2.2.2.1 st.l[i].2.2.2.1 := by rw [e0]; exact hm9.slOf d1.of fun _ _ _ _ h => h
    have hdl := ok.dat st.l[i] (List.getElem_mem _)
    refine evC_of (s58 hd9 (by rw [e0]; exact d1.sp) (by omega) fun d N2 S10 hN2 hdat e10 => ⟨_, rfl, ?_⟩)
    obtain ⟨o, q1, q2, q3⟩ := hdat.b
    have en := e10.next
    obtain ⟨p1, p2⟩ := hL.p
    have hP : LsRD S.next s' fl' (st.l.take i) ow' d st.l[i].2.2.2.1 o S10 := ⟨e10.grX p1 fun _ _ _ h => h, p2.mod e10.kp fun _ _ h => h, q1⟩
    have hL := hL.op (P' := LsRD S.next s' fl' (st.l.take i) ow' d st.l[i].2.2.2.1 o) e10 (fun _ h => h.elim) (fun _ h => h.elim) hP LsRD.frm (fun c hc => by
      rcases hc with hc | hc | hc
      · exact .inl (.inl hc)
      · exact .inl (.inr hc)
      · exact .inr (by have := q2 c hc; omega)) (fun c hc => hP.lt hc)
    (first | refine hL.ld 0 rfl (by kernel_rfl) _ rfl ?_ | refine hL.ld 1 rfl (by kernel_rfl) _ rfl ?_ | refine hL.ld 2 rfl (by kernel_rfl) _ rfl ?_ | refine hL.ld 3 rfl (by kernel_rfl) _ rfl ?_ | refine hL.ld 4 rfl (by kernel_rfl) _ rfl ?_ | refine hL.ld 5 rfl (by kernel_rfl) _ rfl ?_ | refine hL.ld 6 rfl (by kernel_rfl) _ rfl ?_ | refine hL.ld 7 rfl (by kernel_rfl) _ rfl ?_ | refine hL.lda 0 rfl (by kernel_rfl) _ rfl ?_ | refine hL.lda 1 rfl (by kernel_rfl) _ rfl ?_ | refine hL.lda 2 rfl (by kernel_rfl) _ rfl ?_ | refine hL.lda 3 rfl (by kernel_rfl) _ rfl ?_ | refine hL.lda 4 rfl (by kernel_rfl) _ rfl ?_ | refine hL.lda 5 rfl (by kernel_rfl) _ rfl ?_ | refine hL.lda 6 rfl (by kernel_rfl) _ rfl ?_ | refine hL.lda 7 rfl (by kernel_rfl) _ rfl ?_)
    refine sameV_of ?_
    refine hL.newX fun b5 S14 hL hb13 hn13 e13 => ?_
    (first | refine hL.ld 0 rfl (by kernel_rfl) _ rfl ?_ | refine hL.ld 1 rfl (by kernel_rfl) _ rfl ?_ | refine hL.ld 2 rfl (by kernel_rfl) _ rfl ?_ | refine hL.ld 3 rfl (by kernel_rfl) _ rfl ?_ | refine hL.ld 4 rfl (by kernel_rfl) _ rfl ?_ | refine hL.ld 5 rfl (by kernel_rfl) _ rfl ?_ | refine hL.ld 6 rfl (by kernel_rfl) _ rfl ?_ | refine hL.ld 7 rfl (by kernel_rfl) _ rfl ?_ | refine hL.lda 0 rfl (by kernel_rfl) _ rfl ?_ | refine hL.lda 1 rfl (by kernel_rfl) _ rfl ?_ | refine hL.lda 2 rfl (by kernel_rfl) _ rfl ?_ | refine hL.lda 3 rfl (by kernel_rfl) _ rfl ?_ | refine hL.lda 4 rfl (by kernel_rfl) _ rfl ?_ | refine hL.lda 5 rfl (by kernel_rfl) _ rfl ?_ | refine hL.lda 6 rfl (by kernel_rfl) _ rfl ?_ | refine hL.lda 7 rfl (by kernel_rfl) _ rfl ?_)
    refine sameV_of ?_
    obtain ⟨p1, p2, p3⟩ := hL.p
    have hlf : fl'.length ≤ 256 := by rw [p2.len]; simp; omega
    have hfr := fun c (hc : c ∈ blk s' ∨ c ∈ ow' ∨ c ∈ o) => hL.lt c hc
    refine p1.add (v := (fl[i].1, fl[i].2.1, fl[i].2.2.1, d, fl[i].2.2.2.2)) (hL.at 0 rfl) hlf (fun s2 S15 g15 m15 f15 => ?_) (by omega)
    have hnw : ∀ b, b ∈ ow' ∨ b ∈ o → ¬ (S.next ≤ b ∧ s'.a = some ⟨b, 0, none⟩) := fun b hb hc => by
      obtain ⟨cs, h, _⟩ := p1.bk (p1.bk_mem hc.2)
      rcases hb with hb | hb
      · obtain ⟨x, h', hx⟩ := p2.blk hb
        rw [at_inj h' h] at hx; cases hx
      · obtain ⟨x, h', hx⟩ := p3.blk hb
        rw [at_inj h' h] at hx; cases hx
    have ev : fl[i] = fltOf st.l[i] d0 := e0
    have hp2 := p2.mod m15.kp fun b hb => hnw b (.inl hb)
    have hp3 := mod_datB m15.kp p3 fun b hb => hnw b (.inr hb)
    have e15 : (fl[i].1, fl[i].2.1, fl[i].2.2.1, d, fl[i].2.2.2.2) = fltOf st.l[i] d := by rw [ev]
    rw [e15] at g15
    have hP : LsR S.next s2 (fl' ++ [fltOf st.l[i] d]) (st.l.take (i + 1)) (ow' ++ o) S15 := ⟨g15, by rw [take_succ' hil]; exact hp2.app (.one hp3)⟩
    have hblk2 : ∀ c ∈ blk s2, c ∈ blk s' ∨ S14.next ≤ c := fun c hc => by
      rcases f15 with f | ⟨b, f, hb⟩
      · left; rw [← blk_a f]; exact hc
      · right; unfold blk at hc; rw [f] at hc; simp only [List.mem_cons, List.not_mem_nil, or_false] at hc; omega
    have hL := hL.op (P' := LsR S.next s2 (fl' ++ [fltOf st.l[i] d]) (st.l.take (i + 1)) (ow' ++ o)) m15 (fun c hc => .inl (p1.bk_mem hc.2)) (fun c hc hlt => by omega) hP LsR.frm (fun c hc => by
      rcases hc with hc | hc
      · exact (hblk2 c hc).imp (.inl) id
      · rcases List.mem_append.1 hc with hc | hc
        · exact .inl (.inr (.inl hc))
        · exact .inl (.inr (.inr hc))) (fun c hc => by
      rcases hc with hc | hc
      · obtain ⟨cs, h, _⟩ := hP.1.bk hc; exact h.lt
      · obtain ⟨x, h, _⟩ := hP.2.blk hc; exact h.lt)
    (first | refine hL.st 0 _ rfl (by kernel_rfl) rfl (Nat.le_of_ble_eq_true rfl) rfl rfl fun S' hL hn' => ?_ | refine hL.st 1 _ rfl (by kernel_rfl) rfl (Nat.le_of_ble_eq_true rfl) rfl rfl fun S' hL hn' => ?_ | refine hL.st 2 _ rfl (by kernel_rfl) rfl (Nat.le_of_ble_eq_true rfl) rfl rfl fun S' hL hn' => ?_ | refine hL.st 3 _ rfl (by kernel_rfl) rfl (Nat.le_of_ble_eq_true rfl) rfl rfl fun S' hL hn' => ?_ | refine hL.st 4 _ rfl (by kernel_rfl) rfl (Nat.le_of_ble_eq_true rfl) rfl rfl fun S' hL hn' => ?_ | refine hL.st 5 _ rfl (by kernel_rfl) rfl (Nat.le_of_ble_eq_true rfl) rfl rfl fun S' hL hn' => ?_ | refine hL.st 6 _ rfl (by kernel_rfl) rfl (Nat.le_of_ble_eq_true rfl) rfl rfl fun S' hL hn' => ?_ | refine hL.st 7 _ rfl (by kernel_rfl) rfl (Nat.le_of_ble_eq_true rfl) rfl rfl fun S' hL hn' => ?_)
    (first | refine hL.has 0 rfl ?_ | refine hL.has 1 rfl ?_ | refine hL.has 2 rfl ?_ | refine hL.has 3 rfl ?_ | refine hL.has 4 rfl ?_ | refine hL.has 5 rfl ?_ | refine hL.has 6 rfl ?_ | refine hL.has 7 rfl ?_)
    (first | refine hL.upd 0 rfl fun S' hL hn' => ?_ | refine hL.upd 1 rfl fun S' hL hn' => ?_ | refine hL.upd 2 rfl fun S' hL hn' => ?_ | refine hL.upd 3 rfl fun S' hL hn' => ?_ | refine hL.upd 4 rfl fun S' hL hn' => ?_ | refine hL.upd 5 rfl fun S' hL hn' => ?_ | refine hL.upd 6 rfl fun S' hL hn' => ?_ | refine hL.upd 7 rfl fun S' hL hn' => ?_)
    refine ⟨fun _ => ⟨s2, fl' ++ [fltOf st.l[i] d], ow' ++ o, hL.tl 2, ?_, ?_⟩, fun h => by cases h⟩
    · rw [List.nodup_append]
      refine ⟨hnd, q3, fun a ha b hb e => ?_⟩
      subst e
      have h1 := q2 a hb
      have h2 := hL8.lt a (.inr ha)
      omega
    · intro c hc
      rcases List.mem_append.1 hc with hc | hc
      · exact hge c hc
      · have := q2 c hc; omega
  · rintro S' ⟨s', fl', ow', hL, hnd, hge⟩
    refine .inl ?_
    rw [hlen, List.take_length] at hL
    repeat (first | refine ptrW_of ?_ | refine sameV_of ?_ | refine hL.new fun bk S' hL hbk hnk => ?_ | (first | refine hL.ld 0 rfl (by kernel_rfl) _ rfl ?_ | refine hL.ld 1 rfl (by kernel_rfl) _ rfl ?_ | refine hL.ld 2 rfl (by kernel_rfl) _ rfl ?_ | refine hL.ld 3 rfl (by kernel_rfl) _ rfl ?_ | refine hL.ld 4 rfl (by kernel_rfl) _ rfl ?_ | refine hL.ld 5 rfl (by kernel_rfl) _ rfl ?_ | refine hL.ld 6 rfl (by kernel_rfl) _ rfl ?_ | refine hL.ld 7 rfl (by kernel_rfl) _ rfl ?_ | refine hL.lda 0 rfl (by kernel_rfl) _ rfl ?_ | refine hL.lda 1 rfl (by kernel_rfl) _ rfl ?_ | refine hL.lda 2 rfl (by kernel_rfl) _ rfl ?_ | refine hL.lda 3 rfl (by kernel_rfl) _ rfl ?_ | refine hL.lda 4 rfl (by kernel_rfl) _ rfl ?_ | refine hL.lda 5 rfl (by kernel_rfl) _ rfl ?_ | refine hL.lda 6 rfl (by kernel_rfl) _ rfl ?_ | refine hL.lda 7 rfl (by kernel_rfl) _ rfl ?_) | (first | refine hL.st 0 _ rfl (by kernel_rfl) rfl (Nat.le_of_ble_eq_true rfl) rfl rfl fun S' hL hn' => ?_ | refine hL.st 1 _ rfl (by kernel_rfl) rfl (Nat.le_of_ble_eq_true rfl) rfl rfl fun S' hL hn' => ?_ | refine hL.st 2 _ rfl (by kernel_rfl) rfl (Nat.le_of_ble_eq_true rfl) rfl rfl fun S' hL hn' => ?_ | refine hL.st 3 _ rfl (by kernel_rfl) rfl (Nat.le_of_ble_eq_true rfl) rfl rfl fun S' hL hn' => ?_ | refine hL.st 4 _ rfl (by kernel_rfl) rfl (Nat.le_of_ble_eq_true rfl) rfl rfl fun S' hL hn' => ?_ | refine hL.st 5 _ rfl (by kernel_rfl) rfl (Nat.le_of_ble_eq_true rfl) rfl rfl fun S' hL hn' => ?_ | refine hL.st 6 _ rfl (by kernel_rfl) rfl (Nat.le_of_ble_eq_true rfl) rfl rfl fun S' hL hn' => ?_ | refine hL.st 7 _ rfl (by kernel_rfl) rfl (Nat.le_of_ble_eq_true rfl) rfl rfl fun S' hL hn' => ?_) | (first | refine hL.has 0 rfl ?_ | refine hL.has 1 rfl ?_ | refine hL.has 2 rfl ?_ | refine hL.has 3 rfl ?_ | refine hL.has 4 rfl ?_ | refine hL.has 5 rfl ?_ | refine hL.has 6 rfl ?_ | refine hL.has 7 rfl ?_) | (first | refine hL.upd 0 rfl fun S' hL hn' => ?_ | refine hL.upd 1 rfl fun S' hL hn' => ?_ | refine hL.upd 2 rfl fun S' hL hn' => ?_ | refine hL.upd 3 rfl fun S' hL hn' => ?_ | refine hL.upd 4 rfl fun S' hL hn' => ?_ | refine hL.upd 5 rfl fun S' hL hn' => ?_ | refine hL.upd 6 rfl fun S' hL hn' => ?_ | refine hL.upd 7 rfl fun S' hL hn' => ?_))
    exact hk s' _ ⟨fl', ow', hL.p.1, hL.p.2, hnd, hge⟩ hL.mod
end
end Go.Proofs.Ytcookjolkhcjhaa

/- Bags: a byte is spoilt. -/
namespace Go.Proofs.Ytcookjolkhcjhaa
open Go Go.Proofs.Ytcookjolkhcjhaa.D
set_option linter.unusedVariables false
set_option linter.unusedSimpArgs false
noncomputable section

theorem flatB (l : List Int) : l.flatMap cellB = l.map (fun n => Value.int .u8 n) := by
  induction l with
  | nil => rfl
  | cons x r ih => rw [List.flatMap_cons, ih]; rfl
theorem setB {dl : List Int} {i : Nat} (hi : i < dl.length) (v : Int) : (dl.flatMap cellB).take (0 + i * 1) ++ ([Value.int .u8 v] ++ (dl.flatMap cellB).drop (0 + i * 1 + 1)) = (dl.set i v).flatMap cellB := by
  rw [flatB, flatB, List.set_eq_take_append_cons_drop, if_pos hi]
  simp
theorem getB {dl : List Int} {i : Nat} (hi : i < dl.length) : (dl.flatMap cellB)[0 + i * 1]? = some (Value.int .u8 (dl.getD i 0)) := by
  rw [flatB]
  simp [hi]
theorem cell_get {A v B : List Value} {n j : Nat} (hA : A.length = n) (hj : j < v.length) : (A ++ (v ++ B))[0 + n + j]? = v[j]? := by
  rw [List.getElem?_append_right (by omega), List.getElem?_append_left (by omega)]
  congr 1; omega
theorem cell_set {A v B : List Value} {n j : Nat} {w : Value} (hA : A.length = n) (hj : j < v.length) : (A ++ (v ++ B)).take (0 + n + j) ++ ([w] ++ (A ++ (v ++ B)).drop (0 + n + j + 1)) = A ++ (v.set j w ++ B) := by
  have e1 : (A ++ (v ++ B)).take (0 + n + j) = A ++ v.take j := by
    rw [List.take_append, List.take_of_length_le (by omega), List.take_append_of_le_length (by omega)]
    congr 2; omega
  have e2 : (A ++ (v ++ B)).drop (0 + n + j + 1) = v.drop (j + 1) ++ B := by
    rw [List.drop_append, List.drop_of_length_le (by omega), List.nil_append, List.drop_append_of_le_length (by omega)]
    congr 2; omega
  rw [e1, e2, List.set_eq_take_append_cons_drop, if_pos hj]
  simp
/-- A bag while a byte of one is spoilt. -/
def BagU (bb lb : Nat) (s : Sl) (last : Int) (c : Cnt) (n : Nat) (A B : List Value) (X : Flt) (fl1 fl2 : List Flt) (l1 l2 : List Pk) (ow1 ow2 : List Nat) (d : Sl) (dl : List Int) (o : List Nat) (S : St) : Prop :=
  At S bb (bagO s last c) ∧ At S lb (.cells (A ++ (cellsF X ++ B)) (some 5) false none) ∧ Pks S fl1 l1 ow1 ∧ DatB S d dl o ∧ Pks S fl2 l2 ow2
theorem BagU.frm {bb lb : Nat} {s : Sl} {last : Int} {c : Cnt} {n : Nat} {A B : List Value} {X : Flt} {fl1 fl2 : List Flt} {l1 l2 : List Pk} {ow1 ow2 : List Nat} {d : Sl} {dl : List Int} {o : List Nat} {O : Nat → Prop}
    (h1 : O bb) (h2 : O lb) (h4 : ∀ c ∈ ow1, O c) (h5 : ∀ c ∈ o, O c) (h6 : ∀ c ∈ ow2, O c) : Frm O (BagU bb lb s last c n A B X fl1 fl2 l1 l2 ow1 ow2 d dl o) :=
  Frm.conj (Frm.at h1) (Frm.conj (Frm.at h2) (Frm.conj (Frm.pks h4) (Frm.conj (Frm.dat h5) (Frm.pks h6))))
theorem b31 {S : St} {bb m : Nat} {st : BagS} {own : List Nat} {n a w : Int} {k : Value → St → Prop} (h : BagIs S bb st own) (ok : BagOk m st) (hm : m < 1000000)
    (hk : ∀ own' S', BagIs S' bb (spoilS st n a w).2 own' → (∀ c ∈ own', c ∈ own ∨ S.next ≤ c) → Mod (fun b => b ∈ own) S S' → k (.int .i64 (spoilS st n a w).1) S') :
    WC E0 31 [.pointer (some ⟨bb, 0, none⟩), .int .i64 n, .int .i64 a, .int .u8 w] S k := by
  have hB := h
  obtain ⟨s, fl, ow, h1, h2, h3, h4, rfl⟩ := h
  have hlen := h3.len
  have o1 := ok.len
  have o5 := ok.c5
  refine w31 _ n a w ?_
  unfold c31
  unfold spoilS at hk
  refine evC_of (s56 h1 (h2.of fun _ => rfl) (by omega) fun S1 e1 => ⟨placeF fl n, rfl, ?_⟩)
  rw [h3.place n]
  cases hi : idxS st.l n with
  | none =>
    rw [hi] at hk
    refine ifW_ndec (fun _ => ?_) fun h => by cases h
    exact hk _ S1 (hB.ext e1) (fun c hc => .inl hc) (e1.mono fun _ h _ => h.elim)
  | some i =>
    rw [hi] at hk
    obtain ⟨hil, _, _⟩ := idxS_lt hi
    refine ifW_ndec (fun h => (h rfl).elim) fun _ => ?_
    obtain ⟨fl1, p, d, fl2, l1, l2, ow1, o, ow2, q1, q2, q3, q4, q5, g1, g2, g3⟩ := h3.at i hil
    have ep : st.l[i]? = some p := by rw [q4]; simp [← q2]
    have es : ∀ x, st.l.set i x = l1 ++ x :: l2 := fun x => by rw [q4, List.set_append_right _ _ (by omega)]; simp [← q2]
    simp only [ep, es] at hk
    have hfull := hk
    rcases h2 with ⟨hnil, _⟩ | ⟨lb, rest, hlb, rfl, hat, hrest⟩
    · rw [hnil] at hlen; simp at hlen; omega
    have eA : (fl1.flatMap cellsF).length = i * 5 := by rw [flat_len (sz := 5) fun _ => rfl, q1]
    have ecs : fl.flatMap cellsF ++ rest = fl1.flatMap cellsF ++ (cellsF (fltOf p d) ++ (fl2.flatMap cellsF ++ rest)) := by rw [q3]; simp
    have hbl : blk ⟨some ⟨lb, 0, none⟩, fl.length, inex⟩ = [lb] := rfl
    rw [hbl] at hfull hk hB
    have hlt := fun c (hc : c ∈ bb :: ([lb] ++ ow)) => hB.lt hc
    have hat0 := hat
    rw [ecs] at hat
    have hL := Cx.start (S := S1) (O := fun c => c ∈ bb :: ([lb] ++ ow)) (P := BagU bb lb ⟨some ⟨lb, 0, none⟩, fl.length, inex⟩ st.last st.c i (fl1.flatMap cellsF) (fl2.flatMap cellsF ++ rest) (fltOf p d) fl1 fl2 l1 l2 ow1 ow2 d p.2.2.2.1 o) (fun c => c ∈ bb :: ([lb] ++ ow))
      ⟨e1.at h1, e1.at hat, g1.mod e1.kp fun _ _ h => h, mod_datB e1.kp g2 fun _ _ h => h, g3.mod e1.kp fun _ _ h => h⟩
      (BagU.frm (by simp) (by simp) (fun c hc => by simp [q5, hc]) (fun c hc => by simp [q5, hc]) (fun c hc => by simp [q5, hc])) (fun c hc => by have := hlt c hc; have := e1.next; omega)
    obtain ⟨p1, p2, p3, p4, p5⟩ := hL.p
    have hi0 : (0 : Int) ≤ (i : Int) := by omega
    have hi1 : (i : Int) < ((⟨some ⟨lb, 0, none⟩, fl.length, inex⟩ : Sl).len : Int) := by simp only; omega
    have hno : (p.2.2.2.2 = true ∨ a < 0 ∨ (p.2.2.2.1.length : Int) ≤ a ∨ w = 0) → k (.int .i64 80) S1 := fun hc => by
      rw [if_pos hc] at hk
      exact hk _ S1 (hB.ext e1) (fun c hc => .inl hc) (e1.mono fun _ h _ => h.elim)
    refine ptrW_of (ptrW_of ?_)
    refine evV_of ⟨some ⟨lb, 0, none⟩, fl.length, inex⟩ (load_one p1 (by kernel_rfl)) ?_
    refine ⟨lb, 0, rfl, hi0, hi1, ptrW_of ?_⟩
    refine evV_of p.2.2.2.2 ((load_one p2 (by kernel_rfl)).trans (cell_get (j := 4) eA (by simp))) ?_
    refine ifW_of (fun hs => hno (.inl hs)) fun hs => ?_
    refine ifW_dec (fun ha => hno (.inr (.inl ha))) fun ha => ?_
    refine ptrW_of (ptrW_of ?_)
    refine evV_of ⟨some ⟨lb, 0, none⟩, fl.length, inex⟩ (load_one p1 (by kernel_rfl)) ?_
    refine ⟨lb, 0, rfl, hi0, hi1, ptrW_of ?_⟩
    refine evV_of d ((load_one p2 (by kernel_rfl)).trans (cell_get (j := 3) eA (by simp))) ?_
    have hdl : d.len = p.2.2.2.1.length := p4.of.len
    rw [hdl]
    refine ifW_dec (fun hb => hno (.inr (.inr (.inl hb)))) fun hb => ?_
    refine ifW_dec (fun hw => hno (.inr (.inr (.inr hw)))) fun hw => ?_
    rw [if_neg (by rintro (h | h | h | h) <;> simp_all)] at hfull
    clear hk
    refine ptrW_of (ptrW_of ?_)
    refine evV_of ⟨some ⟨lb, 0, none⟩, fl.length, inex⟩ (load_one p1 (by kernel_rfl)) ?_
    refine ⟨lb, 0, rfl, hi0, hi1, ptrW_of ?_⟩
    refine evV_of d ((load_one p2 (by kernel_rfl)).trans (cell_get (j := 3) eA (by simp))) ?_
    obtain ⟨j, rfl⟩ : ∃ j : Nat, a = j := ⟨a.toNat, by omega⟩
    have hj : j < p.2.2.2.1.length := by omega
    rcases p4 with ⟨hnil, _⟩ | ⟨db, cap, more, rfl, hd, hdat, hmo⟩
    · rw [hnil] at hj; cases hj
    subst hd
    have hne : p.2.2.2.1 ≠ [] := by intro h; rw [h] at hj; cases hj
    obtain rfl : more = some 1 := hmo.resolve_right fun h => hne h.1
    refine ⟨db, 0, rfl, ha |> fun _ => by omega, by simp only; omega, ?_⟩
    refine evV_of (p.2.2.2.1.getD j 0) ((load_one hdat (by kernel_rfl)).trans (getB hj)) ?_
    refine ⟨db, 0, rfl, by omega, by simp only; omega, ?_⟩
    have hst : storeV E0 S1 5 (.pointer (some ⟨db, 0 + Int.toNat (j : Int) * 1, none⟩)) (.int .u8 (xorI .u8 (p.2.2.2.1.getD j 0) w)) = some (S1.upd db (.cells ((p.2.2.2.1.set j (byteX (p.2.2.2.1.getD j 0) w)).flatMap cellB) (some 1) false none)) :=
      (store_cells (n := 1) hdat (by kernel_rfl) rfl (by rw [flatB, List.length_map]; show 0 + j * 1 + 1 ≤ _; omega) rfl).trans (by rw [← setB hj]; rfl)
    refine ⟨_, hst, ?_⟩
    have m2 : Mod (fun c => c = db) S1 (S1.upd db (.cells ((p.2.2.2.1.set j (byteX (p.2.2.2.1.getD j 0) w)).flatMap cellB) (some 1) false none)) := upd_mod
    have a2 := upd_at (o' := .cells ((p.2.2.2.1.set j (byteX (p.2.2.2.1.getD j 0) w)).flatMap cellB) (some 1) false none) hdat
    generalize S1.upd db (.cells ((p.2.2.2.1.set j (byteX (p.2.2.2.1.getD j 0) w)).flatMap cellB) (some 1) false none) = S2 at m2 a2 ⊢
    have hnod := h4
    rw [q5, List.nodup_append] at hnod
    obtain ⟨n1, n2, n3⟩ := hnod
    rw [List.nodup_append] at n2
    have hd1 : ∀ b ∈ ow1, b ≠ db := fun b hb e => n3 b hb db (by simp) e
    have hd2 : ∀ b ∈ ow2, b ≠ db := fun b hb e => n2.2.2 db (by simp) b hb e.symm
    have hdb : bb ≠ db := at_ne p1 hdat (by simp)
    have hdl2 : lb ≠ db := at_ne p2 hdat (by simp)
    have hn2 := m2.next
    have hL := hL.op (O' := fun c => c ∈ bb :: ([lb] ++ ow)) (P' := BagU bb lb ⟨some ⟨lb, 0, none⟩, fl.length, inex⟩ st.last st.c i (fl1.flatMap cellsF) (fl2.flatMap cellsF ++ rest) (fltOf p ⟨some ⟨db, 0, none⟩, p.2.2.2.1.length, cap⟩) fl1 fl2 l1 l2 ow1 ow2 ⟨some ⟨db, 0, none⟩, p.2.2.2.1.length, cap⟩ (p.2.2.2.1.set j (byteX (p.2.2.2.1.getD j 0) w)) [db]) m2
      (fun c hc => by subst hc; simp [q5]) (fun c hc _ => by subst hc; simp [q5])
      ⟨m2.at p1 hdb, m2.at p2 hdl2, p3.mod m2.kp hd1, .inr ⟨db, cap, some 1, rfl, by simp, a2, .inl rfl⟩, p5.mod m2.kp hd2⟩
      (BagU.frm (by simp) (by simp) (fun c hc => by simp [q5, hc]) (fun c hc => by simp only [List.mem_cons, List.not_mem_nil, or_false] at hc; subst hc; simp [q5]) (fun c hc => by simp [q5, hc])) (fun c hc => .inl hc) (fun c hc => by have := hlt c hc; have := e1.next; omega)
    obtain ⟨p1, p2, p3, p4, p5⟩ := hL.p
    refine ptrW_of (ptrW_of ?_)
    refine evV_of ⟨some ⟨lb, 0, none⟩, fl.length, inex⟩ (load_one p1 (by kernel_rfl)) ?_
    refine ⟨lb, 0, rfl, hi0, hi1, ptrW_of ?_⟩
    have hst : storeV E0 S2 4 (.pointer (some ⟨lb, 0 + Int.toNat (i : Int) * 5 + 4, none⟩)) (.bool true) = some (S2.upd lb (.cells (fl1.flatMap cellsF ++ (cellsF (p.1, p.2.1, p.2.2.1, ⟨some ⟨db, 0, none⟩, p.2.2.2.1.length, cap⟩, true) ++ (fl2.flatMap cellsF ++ rest))) (some 5) false none)) :=
      (store_cells (n := 1) p2 (by kernel_rfl) rfl (by simp only [List.length_append, eA]; show 0 + i * 5 + 4 + 1 ≤ i * 5 + (5 + _); omega) rfl).trans (by
        have := cell_set (A := fl1.flatMap cellsF) (v := cellsF (fltOf p ⟨some ⟨db, 0, none⟩, p.2.2.2.1.length, cap⟩)) (B := fl2.flatMap cellsF ++ rest) (j := 4) (w := .bool true) eA (by simp)
        exact congrArg (fun x => some (S2.upd lb (.cells x (some 5) false none))) this)
    refine ⟨_, hst, ?_⟩
    have m3 : Mod (fun c => c = lb) S2 (S2.upd lb (.cells (fl1.flatMap cellsF ++ (cellsF (p.1, p.2.1, p.2.2.1, ⟨some ⟨db, 0, none⟩, p.2.2.2.1.length, cap⟩, true) ++ (fl2.flatMap cellsF ++ rest))) (some 5) false none)) := upd_mod
    have a3 := upd_at (o' := .cells (fl1.flatMap cellsF ++ (cellsF (p.1, p.2.1, p.2.2.1, ⟨some ⟨db, 0, none⟩, p.2.2.2.1.length, cap⟩, true) ++ (fl2.flatMap cellsF ++ rest))) (some 5) false none) p2
    generalize S2.upd lb (.cells (fl1.flatMap cellsF ++ (cellsF (p.1, p.2.1, p.2.2.1, ⟨some ⟨db, 0, none⟩, p.2.2.2.1.length, cap⟩, true) ++ (fl2.flatMap cellsF ++ rest))) (some 5) false none) = S3 at m3 a3 ⊢
    have hl1 : ∀ b ∈ ow1, b ≠ lb := fun b hb e => by
      obtain ⟨x, h, hx⟩ := p3.blk hb
      rw [at_inj h (e ▸ p2)] at hx; cases hx
    have hl2 : ∀ b ∈ ow2, b ≠ lb := fun b hb e => by
      obtain ⟨x, h, hx⟩ := p5.blk hb
      rw [at_inj h (e ▸ p2)] at hx; cases hx
    have hl3 : ∀ b ∈ [db], b ≠ lb := fun b hb => by simp only [List.mem_cons, List.not_mem_nil, or_false] at hb; subst hb; exact hdl2.symm
    have hn3 := m3.next
    have hL := hL.op (O' := fun c => c ∈ bb :: ([lb] ++ ow)) (P' := BagU bb lb ⟨some ⟨lb, 0, none⟩, fl.length, inex⟩ st.last st.c i (fl1.flatMap cellsF) (fl2.flatMap cellsF ++ rest) (p.1, p.2.1, p.2.2.1, ⟨some ⟨db, 0, none⟩, p.2.2.2.1.length, cap⟩, true) fl1 fl2 l1 l2 ow1 ow2 ⟨some ⟨db, 0, none⟩, p.2.2.2.1.length, cap⟩ (p.2.2.2.1.set j (byteX (p.2.2.2.1.getD j 0) w)) [db]) m3
      (fun c hc => by subst hc; simp) (fun c hc _ => by subst hc; simp)
      ⟨m3.at p1 (fun h => by omega), a3, p3.mod m3.kp hl1, mod_datB m3.kp p4 hl3, p5.mod m3.kp hl2⟩
      (BagU.frm (by simp) (by simp) (fun c hc => by simp [q5, hc]) (fun c hc => by simp only [List.mem_cons, List.not_mem_nil, or_false] at hc; subst hc; simp [q5]) (fun c hc => by simp [q5, hc])) (fun c hc => .inl hc) (fun c hc => by have := hlt c hc; have := e1.next; omega)
    obtain ⟨p1, p2, p3, p4, p5⟩ := hL.p
    refine ptrW_of (ptrW_of (ptrW_of ?_))
    refine evV_of st.c.2.2.2.2.1 (load_one p1 (by kernel_rfl)) ?_
    refine ptrW_of (ptrW_of (ptrW_of ?_))
    rw [wrap_i64 (by omega) (by omega)]
    refine ⟨_, store_cells p1 (n := 1) (by kernel_rfl) rfl (Nat.le_of_ble_eq_true rfl) rfl, ?_⟩
    have m4 : Mod (fun c => c = bb) S3 (S3.upd bb (bagO ⟨some ⟨lb, 0, none⟩, fl.length, inex⟩ st.last (st.c.1, st.c.2.1, st.c.2.2.1, st.c.2.2.2.1, st.c.2.2.2.2.1 + 1, st.c.2.2.2.2.2))) := upd_mod
    have a4 := upd_at (o' := bagO ⟨some ⟨lb, 0, none⟩, fl.length, inex⟩ st.last (st.c.1, st.c.2.1, st.c.2.2.1, st.c.2.2.2.1, st.c.2.2.2.2.1 + 1, st.c.2.2.2.2.2)) p1
    show k _ (S3.upd bb (bagO ⟨some ⟨lb, 0, none⟩, fl.length, inex⟩ st.last (st.c.1, st.c.2.1, st.c.2.2.1, st.c.2.2.2.1, st.c.2.2.2.2.1 + 1, st.c.2.2.2.2.2)))
    generalize S3.upd bb (bagO ⟨some ⟨lb, 0, none⟩, fl.length, inex⟩ st.last (st.c.1, st.c.2.1, st.c.2.2.1, st.c.2.2.2.1, st.c.2.2.2.2.1 + 1, st.c.2.2.2.2.2)) = S4 at m4 a4 ⊢
    have hb1 : ∀ b ∈ ow1, b ≠ bb := fun b hb e => by
      obtain ⟨x, h, hx⟩ := p3.blk hb
      rw [at_inj h (e ▸ p1)] at hx; cases hx
    have hb2 : ∀ b ∈ ow2, b ≠ bb := fun b hb e => by
      obtain ⟨x, h, hx⟩ := p5.blk hb
      rw [at_inj h (e ▸ p1)] at hx; cases hx
    have hb3 : ∀ b ∈ [db], b ≠ bb := fun b hb => by simp only [List.mem_cons, List.not_mem_nil, or_false] at hb; subst hb; exact hdb.symm
    have hm4 : Mod (fun b => b ∈ bb :: ([lb] ++ ow)) S1 S4 := hL.mod.trans (m4.mono fun c hc _ => by subst hc; simp) fun b h _ => h
    refine hfull (bb :: ([lb] ++ (ow1 ++ ([db] ++ ow2)))) S4 ⟨⟨some ⟨lb, 0, none⟩, fl.length, inex⟩, fl1 ++ (fltOf (p.1, p.2.1, p.2.2.1, p.2.2.2.1.set j (byteX (p.2.2.2.1.getD j 0) w), true) ⟨some ⟨db, 0, none⟩, p.2.2.2.1.length, cap⟩) :: fl2, ow1 ++ ([db] ++ ow2), a4, ?_, ?_, ?_, rfl⟩ (fun c hc => .inl ?_) ?_
    · refine .inr ⟨lb, rest, hlb, ?_, ?_, ?_⟩
      · rw [q3]; simp
      · have := m4.at p2 (fun h => by omega)
        simpa using this
      · have : fl.length = fl1.length + (fl2.length + 1) := by rw [q3]; simp
        simp only [List.length_append, List.length_cons]; omega
    · exact (p3.mod m4.kp hb1).app (.cons (mod_datB m4.kp p4 hb3) (p5.mod m4.kp hb2))
    · rw [← q5]; exact h4
    · rw [q5]; exact hc
    · refine Mod.trans (F := fun b => b ∈ bb :: ([lb] ++ ow)) (e1.mono fun _ h _ => h.elim) hm4 fun b h _ => h
end
end Go.Proofs.Ytcookjolkhcjhaa

/- Bags: packets are compared. -/
namespace Go.Proofs.Ytcookjolkhcjhaa
open Go Go.Proofs.Ytcookjolkhcjhaa.D
set_option linter.unusedVariables false
set_option linter.unusedSimpArgs false
noncomputable section

theorem und9 : E0.und 9 = some .string := by kernel_rfl
theorem und5b : E0.und 5 = some (.int .u8) := by kernel_rfl
/-- Bytes, in a block or none. -/
def Tx (S : St) (s : Sl) (l : List Int) : Prop :=
  s.len = l.length ∧ ((s.a = none ∧ l = []) ∨ ∃ b o cs more ro fz, s.a = some ⟨b, o, none⟩ ∧ At S b (.cells cs more ro fz) ∧ (cs.drop o).take l.length = l.flatMap cellB)
def byU (l : List Int) : List UInt8 := l.map fun n => UInt8.ofNat n.toNat
theorem DatB.tx {S : St} {s : Sl} {l : List Int} {o : List Nat} (h : DatB S s l o) : Tx S s l := by
  rcases h with ⟨rfl, rfl, _⟩ | ⟨b, cap, more, _, rfl, h2, _⟩
  · exact ⟨rfl, .inl ⟨rfl, rfl⟩⟩
  · refine ⟨rfl, .inr ⟨b, 0, _, _, _, _, rfl, h2, ?_⟩⟩
    rw [List.drop_zero, List.take_of_length_le]
    rw [flat_len (sz := 1) fun _ => rfl]; omega
theorem Kp.tx {F : Nat → Prop} {S S' : St} {s : Sl} {l : List Int} (m : Kp F S S') (h : Tx S s l) (hn : ∀ b o, s.a = some ⟨b, o, none⟩ → ¬ F b) : Tx S' s l :=
  ⟨h.1, h.2.imp id fun ⟨b, o, cs, more, ro, fz, e, ha, hv⟩ => ⟨b, o, cs, more, ro, fz, e, m.at ha (hn b o e), hv⟩⟩
theorem Ext.tx {S S' : St} {s : Sl} {l : List Int} (m : Ext S S') (h : Tx S s l) : Tx S' s l := Kp.tx m.kp h fun _ _ _ h => h
theorem mapM_byte (l : List Int) : (l.flatMap cellB).mapM byteOfV = some (byU l) := by
  rw [flatB]
  induction l with
  | nil => rfl
  | cons x r ih => rw [List.map_cons, List.mapM_cons, ih]; rfl
theorem conv_tx {S : St} {s : Sl} {l : List Int} (h : Tx S s l) : convertD E0 S 42 9 (.slice s.a s.len s.cap) = some (.string ⟨(byU l).toArray⟩, S) := by
  obtain ⟨h1, ⟨h2, rfl⟩ | ⟨b, o, cs, more, ro, fz, h2, h3, h4⟩⟩ := h
  · rw [h2]
    simp only [convertD, und42b, und9, und5b]
    rfl
  · rw [h2, h1]
    have hl : Nat.beq (l.flatMap cellB).length l.length = true := by rw [flat_len (sz := 1) fun _ => rfl, Nat.mul_one, Nat.beq_refl]
    cases l with
    | nil => simp only [convertD, und42b, und9, und5b]; rfl
    | cons x r =>
      have h0 : Nat.beq (x :: r).length 0 = false := rfl
      simp only [h0, cond_false, convertD, und42b, und9, und5b, St.loadN, h3.get, h4, hl, cond_true, Option.bind_some, mapM_byte, Option.map_some]
theorem b37 {S : St} {p : Pk} {d d' : Sl} {k : Value → St → Prop} (h1 : Tx S d p.2.2.2.1) (h2 : Tx S d' p.2.2.2.1) (hk : ∀ S', Ext S S' → k (.bool true) S') : WC E0 37 [sv G66 (fltOf p d), sv G66 (fltOf p d')] S k := by
  refine w37 _ _ ?_
  unfold c37
  obtain ⟨p1, p2, p3, p4, p5⟩ := p
  have hL := Hld.start noB S
  refine hL.new fun b1 S1 hL hb1 hn1 => ?_
  refine hL.new fun b2 S2 hL hb2 hn2 => ?_
  have e2 := hL.mod
  repeat (first | refine ptrW_of ?_ | refine sameV_of ?_ | refine hL.new fun bk S' hL hbk hnk => ?_ | (first | refine hL.ld 0 rfl (by kernel_rfl) _ rfl ?_ | refine hL.ld 1 rfl (by kernel_rfl) _ rfl ?_ | refine hL.ld 2 rfl (by kernel_rfl) _ rfl ?_ | refine hL.ld 3 rfl (by kernel_rfl) _ rfl ?_ | refine hL.ld 4 rfl (by kernel_rfl) _ rfl ?_ | refine hL.ld 5 rfl (by kernel_rfl) _ rfl ?_ | refine hL.ld 6 rfl (by kernel_rfl) _ rfl ?_ | refine hL.ld 7 rfl (by kernel_rfl) _ rfl ?_ | refine hL.lda 0 rfl (by kernel_rfl) _ rfl ?_ | refine hL.lda 1 rfl (by kernel_rfl) _ rfl ?_ | refine hL.lda 2 rfl (by kernel_rfl) _ rfl ?_ | refine hL.lda 3 rfl (by kernel_rfl) _ rfl ?_ | refine hL.lda 4 rfl (by kernel_rfl) _ rfl ?_ | refine hL.lda 5 rfl (by kernel_rfl) _ rfl ?_ | refine hL.lda 6 rfl (by kernel_rfl) _ rfl ?_ | refine hL.lda 7 rfl (by kernel_rfl) _ rfl ?_) | (first | refine hL.st 0 _ rfl (by kernel_rfl) rfl (Nat.le_of_ble_eq_true rfl) rfl rfl fun S' hL hn' => ?_ | refine hL.st 1 _ rfl (by kernel_rfl) rfl (Nat.le_of_ble_eq_true rfl) rfl rfl fun S' hL hn' => ?_ | refine hL.st 2 _ rfl (by kernel_rfl) rfl (Nat.le_of_ble_eq_true rfl) rfl rfl fun S' hL hn' => ?_ | refine hL.st 3 _ rfl (by kernel_rfl) rfl (Nat.le_of_ble_eq_true rfl) rfl rfl fun S' hL hn' => ?_ | refine hL.st 4 _ rfl (by kernel_rfl) rfl (Nat.le_of_ble_eq_true rfl) rfl rfl fun S' hL hn' => ?_ | refine hL.st 5 _ rfl (by kernel_rfl) rfl (Nat.le_of_ble_eq_true rfl) rfl rfl fun S' hL hn' => ?_ | refine hL.st 6 _ rfl (by kernel_rfl) rfl (Nat.le_of_ble_eq_true rfl) rfl rfl fun S' hL hn' => ?_ | refine hL.st 7 _ rfl (by kernel_rfl) rfl (Nat.le_of_ble_eq_true rfl) rfl rfl fun S' hL hn' => ?_) | (first | refine hL.has 0 rfl ?_ | refine hL.has 1 rfl ?_ | refine hL.has 2 rfl ?_ | refine hL.has 3 rfl ?_ | refine hL.has 4 rfl ?_ | refine hL.has 5 rfl ?_ | refine hL.has 6 rfl ?_ | refine hL.has 7 rfl ?_) | (first | refine hL.upd 0 rfl fun S' hL hn' => ?_ | refine hL.upd 1 rfl fun S' hL hn' => ?_ | refine hL.upd 2 rfl fun S' hL hn' => ?_ | refine hL.upd 3 rfl fun S' hL hn' => ?_ | refine hL.upd 4 rfl fun S' hL hn' => ?_ | refine hL.upd 5 rfl fun S' hL hn' => ?_ | refine hL.upd 6 rfl fun S' hL hn' => ?_ | refine hL.upd 7 rfl fun S' hL hn' => ?_))
  refine ifW_pos rfl ?_
  repeat (first | refine ptrW_of ?_ | refine sameV_of ?_ | refine hL.new fun bk S' hL hbk hnk => ?_ | (first | refine hL.ld 0 rfl (by kernel_rfl) _ rfl ?_ | refine hL.ld 1 rfl (by kernel_rfl) _ rfl ?_ | refine hL.ld 2 rfl (by kernel_rfl) _ rfl ?_ | refine hL.ld 3 rfl (by kernel_rfl) _ rfl ?_ | refine hL.ld 4 rfl (by kernel_rfl) _ rfl ?_ | refine hL.ld 5 rfl (by kernel_rfl) _ rfl ?_ | refine hL.ld 6 rfl (by kernel_rfl) _ rfl ?_ | refine hL.ld 7 rfl (by kernel_rfl) _ rfl ?_ | refine hL.lda 0 rfl (by kernel_rfl) _ rfl ?_ | refine hL.lda 1 rfl (by kernel_rfl) _ rfl ?_ | refine hL.lda 2 rfl (by kernel_rfl) _ rfl ?_ | refine hL.lda 3 rfl (by kernel_rfl) _ rfl ?_ | refine hL.lda 4 rfl (by kernel_rfl) _ rfl ?_ | refine hL.lda 5 rfl (by kernel_rfl) _ rfl ?_ | refine hL.lda 6 rfl (by kernel_rfl) _ rfl ?_ | refine hL.lda 7 rfl (by kernel_rfl) _ rfl ?_) | (first | refine hL.st 0 _ rfl (by kernel_rfl) rfl (Nat.le_of_ble_eq_true rfl) rfl rfl fun S' hL hn' => ?_ | refine hL.st 1 _ rfl (by kernel_rfl) rfl (Nat.le_of_ble_eq_true rfl) rfl rfl fun S' hL hn' => ?_ | refine hL.st 2 _ rfl (by kernel_rfl) rfl (Nat.le_of_ble_eq_true rfl) rfl rfl fun S' hL hn' => ?_ | refine hL.st 3 _ rfl (by kernel_rfl) rfl (Nat.le_of_ble_eq_true rfl) rfl rfl fun S' hL hn' => ?_ | refine hL.st 4 _ rfl (by kernel_rfl) rfl (Nat.le_of_ble_eq_true rfl) rfl rfl fun S' hL hn' => ?_ | refine hL.st 5 _ rfl (by kernel_rfl) rfl (Nat.le_of_ble_eq_true rfl) rfl rfl fun S' hL hn' => ?_ | refine hL.st 6 _ rfl (by kernel_rfl) rfl (Nat.le_of_ble_eq_true rfl) rfl rfl fun S' hL hn' => ?_ | refine hL.st 7 _ rfl (by kernel_rfl) rfl (Nat.le_of_ble_eq_true rfl) rfl rfl fun S' hL hn' => ?_) | (first | refine hL.has 0 rfl ?_ | refine hL.has 1 rfl ?_ | refine hL.has 2 rfl ?_ | refine hL.has 3 rfl ?_ | refine hL.has 4 rfl ?_ | refine hL.has 5 rfl ?_ | refine hL.has 6 rfl ?_ | refine hL.has 7 rfl ?_) | (first | refine hL.upd 0 rfl fun S' hL hn' => ?_ | refine hL.upd 1 rfl fun S' hL hn' => ?_ | refine hL.upd 2 rfl fun S' hL hn' => ?_ | refine hL.upd 3 rfl fun S' hL hn' => ?_ | refine hL.upd 4 rfl fun S' hL hn' => ?_ | refine hL.upd 5 rfl fun S' hL hn' => ?_ | refine hL.upd 6 rfl fun S' hL hn' => ?_ | refine hL.upd 7 rfl fun S' hL hn' => ?_))
  refine ifW_pos rfl ?_
  repeat (first | refine ptrW_of ?_ | refine sameV_of ?_ | refine hL.new fun bk S' hL hbk hnk => ?_ | (first | refine hL.ld 0 rfl (by kernel_rfl) _ rfl ?_ | refine hL.ld 1 rfl (by kernel_rfl) _ rfl ?_ | refine hL.ld 2 rfl (by kernel_rfl) _ rfl ?_ | refine hL.ld 3 rfl (by kernel_rfl) _ rfl ?_ | refine hL.ld 4 rfl (by kernel_rfl) _ rfl ?_ | refine hL.ld 5 rfl (by kernel_rfl) _ rfl ?_ | refine hL.ld 6 rfl (by kernel_rfl) _ rfl ?_ | refine hL.ld 7 rfl (by kernel_rfl) _ rfl ?_ | refine hL.lda 0 rfl (by kernel_rfl) _ rfl ?_ | refine hL.lda 1 rfl (by kernel_rfl) _ rfl ?_ | refine hL.lda 2 rfl (by kernel_rfl) _ rfl ?_ | refine hL.lda 3 rfl (by kernel_rfl) _ rfl ?_ | refine hL.lda 4 rfl (by kernel_rfl) _ rfl ?_ | refine hL.lda 5 rfl (by kernel_rfl) _ rfl ?_ | refine hL.lda 6 rfl (by kernel_rfl) _ rfl ?_ | refine hL.lda 7 rfl (by kernel_rfl) _ rfl ?_) | (first | refine hL.st 0 _ rfl (by kernel_rfl) rfl (Nat.le_of_ble_eq_true rfl) rfl rfl fun S' hL hn' => ?_ | refine hL.st 1 _ rfl (by kernel_rfl) rfl (Nat.le_of_ble_eq_true rfl) rfl rfl fun S' hL hn' => ?_ | refine hL.st 2 _ rfl (by kernel_rfl) rfl (Nat.le_of_ble_eq_true rfl) rfl rfl fun S' hL hn' => ?_ | refine hL.st 3 _ rfl (by kernel_rfl) rfl (Nat.le_of_ble_eq_true rfl) rfl rfl fun S' hL hn' => ?_ | refine hL.st 4 _ rfl (by kernel_rfl) rfl (Nat.le_of_ble_eq_true rfl) rfl rfl fun S' hL hn' => ?_ | refine hL.st 5 _ rfl (by kernel_rfl) rfl (Nat.le_of_ble_eq_true rfl) rfl rfl fun S' hL hn' => ?_ | refine hL.st 6 _ rfl (by kernel_rfl) rfl (Nat.le_of_ble_eq_true rfl) rfl rfl fun S' hL hn' => ?_ | refine hL.st 7 _ rfl (by kernel_rfl) rfl (Nat.le_of_ble_eq_true rfl) rfl rfl fun S' hL hn' => ?_) | (first | refine hL.has 0 rfl ?_ | refine hL.has 1 rfl ?_ | refine hL.has 2 rfl ?_ | refine hL.has 3 rfl ?_ | refine hL.has 4 rfl ?_ | refine hL.has 5 rfl ?_ | refine hL.has 6 rfl ?_ | refine hL.has 7 rfl ?_) | (first | refine hL.upd 0 rfl fun S' hL hn' => ?_ | refine hL.upd 1 rfl fun S' hL hn' => ?_ | refine hL.upd 2 rfl fun S' hL hn' => ?_ | refine hL.upd 3 rfl fun S' hL hn' => ?_ | refine hL.upd 4 rfl fun S' hL hn' => ?_ | refine hL.upd 5 rfl fun S' hL hn' => ?_ | refine hL.upd 6 rfl fun S' hL hn' => ?_ | refine hL.upd 7 rfl fun S' hL hn' => ?_))
  refine ifW_pos rfl ?_
  repeat (first | refine ptrW_of ?_ | refine sameV_of ?_ | refine hL.new fun bk S' hL hbk hnk => ?_ | (first | refine hL.ld 0 rfl (by kernel_rfl) _ rfl ?_ | refine hL.ld 1 rfl (by kernel_rfl) _ rfl ?_ | refine hL.ld 2 rfl (by kernel_rfl) _ rfl ?_ | refine hL.ld 3 rfl (by kernel_rfl) _ rfl ?_ | refine hL.ld 4 rfl (by kernel_rfl) _ rfl ?_ | refine hL.ld 5 rfl (by kernel_rfl) _ rfl ?_ | refine hL.ld 6 rfl (by kernel_rfl) _ rfl ?_ | refine hL.ld 7 rfl (by kernel_rfl) _ rfl ?_ | refine hL.lda 0 rfl (by kernel_rfl) _ rfl ?_ | refine hL.lda 1 rfl (by kernel_rfl) _ rfl ?_ | refine hL.lda 2 rfl (by kernel_rfl) _ rfl ?_ | refine hL.lda 3 rfl (by kernel_rfl) _ rfl ?_ | refine hL.lda 4 rfl (by kernel_rfl) _ rfl ?_ | refine hL.lda 5 rfl (by kernel_rfl) _ rfl ?_ | refine hL.lda 6 rfl (by kernel_rfl) _ rfl ?_ | refine hL.lda 7 rfl (by kernel_rfl) _ rfl ?_) | (first | refine hL.st 0 _ rfl (by kernel_rfl) rfl (Nat.le_of_ble_eq_true rfl) rfl rfl fun S' hL hn' => ?_ | refine hL.st 1 _ rfl (by kernel_rfl) rfl (Nat.le_of_ble_eq_true rfl) rfl rfl fun S' hL hn' => ?_ | refine hL.st 2 _ rfl (by kernel_rfl) rfl (Nat.le_of_ble_eq_true rfl) rfl rfl fun S' hL hn' => ?_ | refine hL.st 3 _ rfl (by kernel_rfl) rfl (Nat.le_of_ble_eq_true rfl) rfl rfl fun S' hL hn' => ?_ | refine hL.st 4 _ rfl (by kernel_rfl) rfl (Nat.le_of_ble_eq_true rfl) rfl rfl fun S' hL hn' => ?_ | refine hL.st 5 _ rfl (by kernel_rfl) rfl (Nat.le_of_ble_eq_true rfl) rfl rfl fun S' hL hn' => ?_ | refine hL.st 6 _ rfl (by kernel_rfl) rfl (Nat.le_of_ble_eq_true rfl) rfl rfl fun S' hL hn' => ?_ | refine hL.st 7 _ rfl (by kernel_rfl) rfl (Nat.le_of_ble_eq_true rfl) rfl rfl fun S' hL hn' => ?_) | (first | refine hL.has 0 rfl ?_ | refine hL.has 1 rfl ?_ | refine hL.has 2 rfl ?_ | refine hL.has 3 rfl ?_ | refine hL.has 4 rfl ?_ | refine hL.has 5 rfl ?_ | refine hL.has 6 rfl ?_ | refine hL.has 7 rfl ?_) | (first | refine hL.upd 0 rfl fun S' hL hn' => ?_ | refine hL.upd 1 rfl fun S' hL hn' => ?_ | refine hL.upd 2 rfl fun S' hL hn' => ?_ | refine hL.upd 3 rfl fun S' hL hn' => ?_ | refine hL.upd 4 rfl fun S' hL hn' => ?_ | refine hL.upd 5 rfl fun S' hL hn' => ?_ | refine hL.upd 6 rfl fun S' hL hn' => ?_ | refine hL.upd 7 rfl fun S' hL hn' => ?_))
  refine ⟨byU p4, S2, conv_tx (s := d) (Ext.tx e2 h1), ?_⟩
  repeat (first | refine ptrW_of ?_ | refine sameV_of ?_ | refine hL.new fun bk S' hL hbk hnk => ?_ | (first | refine hL.ld 0 rfl (by kernel_rfl) _ rfl ?_ | refine hL.ld 1 rfl (by kernel_rfl) _ rfl ?_ | refine hL.ld 2 rfl (by kernel_rfl) _ rfl ?_ | refine hL.ld 3 rfl (by kernel_rfl) _ rfl ?_ | refine hL.ld 4 rfl (by kernel_rfl) _ rfl ?_ | refine hL.ld 5 rfl (by kernel_rfl) _ rfl ?_ | refine hL.ld 6 rfl (by kernel_rfl) _ rfl ?_ | refine hL.ld 7 rfl (by kernel_rfl) _ rfl ?_ | refine hL.lda 0 rfl (by kernel_rfl) _ rfl ?_ | refine hL.lda 1 rfl (by kernel_rfl) _ rfl ?_ | refine hL.lda 2 rfl (by kernel_rfl) _ rfl ?_ | refine hL.lda 3 rfl (by kernel_rfl) _ rfl ?_ | refine hL.lda 4 rfl (by kernel_rfl) _ rfl ?_ | refine hL.lda 5 rfl (by kernel_rfl) _ rfl ?_ | refine hL.lda 6 rfl (by kernel_rfl) _ rfl ?_ | refine hL.lda 7 rfl (by kernel_rfl) _ rfl ?_) | (first | refine hL.st 0 _ rfl (by kernel_rfl) rfl (Nat.le_of_ble_eq_true rfl) rfl rfl fun S' hL hn' => ?_ | refine hL.st 1 _ rfl (by kernel_rfl) rfl (Nat.le_of_ble_eq_true rfl) rfl rfl fun S' hL hn' => ?_ | refine hL.st 2 _ rfl (by kernel_rfl) rfl (Nat.le_of_ble_eq_true rfl) rfl rfl fun S' hL hn' => ?_ | refine hL.st 3 _ rfl (by kernel_rfl) rfl (Nat.le_of_ble_eq_true rfl) rfl rfl fun S' hL hn' => ?_ | refine hL.st 4 _ rfl (by kernel_rfl) rfl (Nat.le_of_ble_eq_true rfl) rfl rfl fun S' hL hn' => ?_ | refine hL.st 5 _ rfl (by kernel_rfl) rfl (Nat.le_of_ble_eq_true rfl) rfl rfl fun S' hL hn' => ?_ | refine hL.st 6 _ rfl (by kernel_rfl) rfl (Nat.le_of_ble_eq_true rfl) rfl rfl fun S' hL hn' => ?_ | refine hL.st 7 _ rfl (by kernel_rfl) rfl (Nat.le_of_ble_eq_true rfl) rfl rfl fun S' hL hn' => ?_) | (first | refine hL.has 0 rfl ?_ | refine hL.has 1 rfl ?_ | refine hL.has 2 rfl ?_ | refine hL.has 3 rfl ?_ | refine hL.has 4 rfl ?_ | refine hL.has 5 rfl ?_ | refine hL.has 6 rfl ?_ | refine hL.has 7 rfl ?_) | (first | refine hL.upd 0 rfl fun S' hL hn' => ?_ | refine hL.upd 1 rfl fun S' hL hn' => ?_ | refine hL.upd 2 rfl fun S' hL hn' => ?_ | refine hL.upd 3 rfl fun S' hL hn' => ?_ | refine hL.upd 4 rfl fun S' hL hn' => ?_ | refine hL.upd 5 rfl fun S' hL hn' => ?_ | refine hL.upd 6 rfl fun S' hL hn' => ?_ | refine hL.upd 7 rfl fun S' hL hn' => ?_))
  refine ⟨byU p4, S2, conv_tx (s := d') (Ext.tx e2 h2), ?_⟩
  refine ifW_of (fun _ => ?_) fun h => absurd (beq_self_eq_true _) (by rw [h]; simp)
  repeat (first | refine ptrW_of ?_ | refine sameV_of ?_ | refine hL.new fun bk S' hL hbk hnk => ?_ | (first | refine hL.ld 0 rfl (by kernel_rfl) _ rfl ?_ | refine hL.ld 1 rfl (by kernel_rfl) _ rfl ?_ | refine hL.ld 2 rfl (by kernel_rfl) _ rfl ?_ | refine hL.ld 3 rfl (by kernel_rfl) _ rfl ?_ | refine hL.ld 4 rfl (by kernel_rfl) _ rfl ?_ | refine hL.ld 5 rfl (by kernel_rfl) _ rfl ?_ | refine hL.ld 6 rfl (by kernel_rfl) _ rfl ?_ | refine hL.ld 7 rfl (by kernel_rfl) _ rfl ?_ | refine hL.lda 0 rfl (by kernel_rfl) _ rfl ?_ | refine hL.lda 1 rfl (by kernel_rfl) _ rfl ?_ | refine hL.lda 2 rfl (by kernel_rfl) _ rfl ?_ | refine hL.lda 3 rfl (by kernel_rfl) _ rfl ?_ | refine hL.lda 4 rfl (by kernel_rfl) _ rfl ?_ | refine hL.lda 5 rfl (by kernel_rfl) _ rfl ?_ | refine hL.lda 6 rfl (by kernel_rfl) _ rfl ?_ | refine hL.lda 7 rfl (by kernel_rfl) _ rfl ?_) | (first | refine hL.st 0 _ rfl (by kernel_rfl) rfl (Nat.le_of_ble_eq_true rfl) rfl rfl fun S' hL hn' => ?_ | refine hL.st 1 _ rfl (by kernel_rfl) rfl (Nat.le_of_ble_eq_true rfl) rfl rfl fun S' hL hn' => ?_ | refine hL.st 2 _ rfl (by kernel_rfl) rfl (Nat.le_of_ble_eq_true rfl) rfl rfl fun S' hL hn' => ?_ | refine hL.st 3 _ rfl (by kernel_rfl) rfl (Nat.le_of_ble_eq_true rfl) rfl rfl fun S' hL hn' => ?_ | refine hL.st 4 _ rfl (by kernel_rfl) rfl (Nat.le_of_ble_eq_true rfl) rfl rfl fun S' hL hn' => ?_ | refine hL.st 5 _ rfl (by kernel_rfl) rfl (Nat.le_of_ble_eq_true rfl) rfl rfl fun S' hL hn' => ?_ | refine hL.st 6 _ rfl (by kernel_rfl) rfl (Nat.le_of_ble_eq_true rfl) rfl rfl fun S' hL hn' => ?_ | refine hL.st 7 _ rfl (by kernel_rfl) rfl (Nat.le_of_ble_eq_true rfl) rfl rfl fun S' hL hn' => ?_) | (first | refine hL.has 0 rfl ?_ | refine hL.has 1 rfl ?_ | refine hL.has 2 rfl ?_ | refine hL.has 3 rfl ?_ | refine hL.has 4 rfl ?_ | refine hL.has 5 rfl ?_ | refine hL.has 6 rfl ?_ | refine hL.has 7 rfl ?_) | (first | refine hL.upd 0 rfl fun S' hL hn' => ?_ | refine hL.upd 1 rfl fun S' hL hn' => ?_ | refine hL.upd 2 rfl fun S' hL hn' => ?_ | refine hL.upd 3 rfl fun S' hL hn' => ?_ | refine hL.upd 4 rfl fun S' hL hn' => ?_ | refine hL.upd 5 rfl fun S' hL hn' => ?_ | refine hL.upd 6 rfl fun S' hL hn' => ?_ | refine hL.upd 7 rfl fun S' hL hn' => ?_))
  refine ⟨true, ?_, hk _ e2⟩
  cases p5 <;> kernel_rfl
/-- Lists of the same packets. -/
theorem b35 {N N' : Nat} {S : St} {s s' : Sl} {l : List Pk} {k : Value → St → Prop} (h1 : LsIs N S s l) (h2 : LsIs N' S s' l) (hl : l.length ≤ 1000000) (hk : ∀ S', Ext S S' → k (.bool true) S') : WC E0 35 [.slice s.a s.len s.cap, .slice s'.a s'.len s'.cap] S k := by
  obtain ⟨fl, ow, a1, a2, a3, a4⟩ := h1
  obtain ⟨fl', ow', c1, c2, c3, c4⟩ := h2
  refine w35 _ _ ?_
  unfold c35
  have e1 : s.len = l.length := by rw [a1.len, a2.len]
  have e2 : s'.len = l.length := by rw [c1.len, c2.len]
  rw [e1, e2]
  refine ifW_ndec (fun h => (h rfl).elim) fun _ => ?_
  refine loopW_ind (fun q (x : Int) S' => ∃ n : Nat, x = n ∧ n ≤ l.length ∧ q = l.length - n ∧ Ext S S') (m := l.length) ⟨0, rfl, by omega, rfl, Mod.refl _ _⟩ ?_
  rintro P q x S1 ⟨n, rfl, hn, rfl, e⟩ hP
  refine ifW_dec (fun hlt => ?_) fun hlt => ?_
  · have hlt3 : n < l.length := by omega
    have h00 : (0 : Int) ≤ (n : Int) := by omega
    have b1 := GrX.of (f := cellsF) (sz := 5) (fun _ => rfl) (e.grX a1 fun _ _ _ h => h)
    have b2 := GrX.of (f := cellsF) (sz := 5) (fun _ => rfl) (e.grX c1 fun _ _ _ h => h)
    have hfl := a2.len
    have hfl' := c2.len
    refine b1.idxL (f := cellsF) (sz := 5) (fun _ => rfl) (by omega) (by omega) fun b1' o1 cs1 m1 r1 f1 at1 _ hv1 => ?_
    refine ⟨fl[n]'(by omega), load_agg at1 (n := 5) (by kernel_rfl) hv1 rfl, ?_⟩
    refine b2.idxL (f := cellsF) (sz := 5) (fun _ => rfl) (by omega) (by omega) fun b2' o2 cs2 m2 r2 f2 at2 _ hv2 => ?_
    refine ⟨fl'[n]'(by omega), load_agg at2 (n := 5) (by kernel_rfl) hv2 rfl, ?_⟩
    obtain ⟨d, o, x1, x2, _⟩ := a2.get n hlt3
    obtain ⟨d', o', y1, y2, _⟩ := c2.get n hlt3
    rw [x1, y1]
    refine evC_of (b37 (Ext.tx e x2.tx) (Ext.tx e y2.tx) fun S2 e2 => ⟨_, rfl, ?_⟩)
    refine ifW_of (fun h => by cases h) fun _ => ?_
    rw [wrap_succ (by omega)]
    exact hP _ _ _ (by omega) ⟨n + 1, rfl, by omega, rfl, e.tr e2⟩
  · exact hk S1 e
end
end Go.Proofs.Ytcookjolkhcjhaa
