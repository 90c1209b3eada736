/- Bags: delivered, dropped, found, all. -/
import Derived.Test.YtcookjolkhcjhaaBag11
namespace Go.Proofs.Ytcookjolkhcjhaa
open Go Go.Proofs.Ytcookjolkhcjhaa.D
set_option linter.unusedVariables false
set_option linter.unusedSimpArgs false
noncomputable section

/-- A bag, and bytes that were in it. -/
def BagD (bb : Nat) (st : BagS) (own : List Nat) (d : Sl) (dl : List Int) (o : List Nat) (S : St) : Prop := BagIs S bb st own ∧ DatB S d dl o
theorem BagD.frm {bb : Nat} {st : BagS} {own : List Nat} {d : Sl} {dl : List Int} {o : List Nat} : Frm (fun c => c ∈ own ∨ c ∈ o) (BagD bb st own d dl o) :=
  fun F S S' m hF h => ⟨h.1.mod m fun c hc => hF c (.inl hc), mod_datB m h.2 fun c hc => hF c (.inr hc)⟩
theorem DatB.lt {S : St} {d : Sl} {l : List Int} {o : List Nat} (h : DatB S d l o) {c : Nat} (hc : c ∈ o) : c < S.next := by
  obtain ⟨x, h, _⟩ := h.blk hc; exact h.lt
theorem b27 {S : St} {bb m : Nat} {st : BagS} {own : List Nat} {n : Int} {k : Value → St → Prop} (h : BagIs S bb st own) (ok : BagOk m st) (hm : m < 1000000)
    (hk : ∀ own' d o S', BagIs S' bb (takeS st n cDel).2 own' → DatB S' d (takeS st n cDel).1.1.2.2.2.1 o → (∀ c ∈ own', c ∈ own ∨ S.next ≤ c) → (∀ c ∈ o, c ∈ own ∧ c ∉ own') → Mod (fun b => b ∈ own) S S' → k (.tuple #[sv G66 (fltOf (takeS st n cDel).1.1 d), .int .i64 (takeS st n cDel).1.2]) S') :
    WC E0 27 [.pointer (some ⟨bb, 0, none⟩), .int .i64 n] S k := by
  refine w27 _ n ?_
  unfold c27
  have hlt := fun c (hc : c ∈ own) => h.lt hc
  have hL := Cx.start (fun c => c ∈ own) h BagIs.frm hlt
  refine hL.new fun c0 S1 hL hb1 hn1 => ?_
  refine hL.new fun b2 S2 hL hb2 hn2 => ?_
  (first | refine hL.ld 0 rfl (by kernel_rfl) _ rfl ?_ | refine hL.ld 1 rfl (by kernel_rfl) _ rfl ?_ | refine hL.ld 2 rfl (by kernel_rfl) _ rfl ?_ | refine hL.ld 3 rfl (by kernel_rfl) _ rfl ?_ | refine hL.ld 4 rfl (by kernel_rfl) _ rfl ?_ | refine hL.ld 5 rfl (by kernel_rfl) _ rfl ?_ | refine hL.ld 6 rfl (by kernel_rfl) _ rfl ?_ | refine hL.ld 7 rfl (by kernel_rfl) _ rfl ?_ | refine hL.lda 0 rfl (by kernel_rfl) _ rfl ?_ | refine hL.lda 1 rfl (by kernel_rfl) _ rfl ?_ | refine hL.lda 2 rfl (by kernel_rfl) _ rfl ?_ | refine hL.lda 3 rfl (by kernel_rfl) _ rfl ?_ | refine hL.lda 4 rfl (by kernel_rfl) _ rfl ?_ | refine hL.lda 5 rfl (by kernel_rfl) _ rfl ?_ | refine hL.lda 6 rfl (by kernel_rfl) _ rfl ?_ | refine hL.lda 7 rfl (by kernel_rfl) _ rfl ?_)
  have o2 := ok.c2
  refine evC_of (b53 (f := cDel) hL.p ok (hL.at 1 rfl) (fun S1 s' k a1 a2 hk => s54 a1 a2 ⟨o2.1, by omega⟩ fun S' g1 g2 => hk S' g1 g2) fun own' d o S3 t1 t2 t3 t4 t5 => ⟨(_, _), rfl, ?_⟩)
  have n5 := t5.next
  have hL := hL.op (P' := BagD bb (takeS st n cDel).2 own' d (takeS st n cDel).1.1.2.2.2.1 o) t5 (fun c hc => hc) (fun c hc _ => hc) ⟨t1, t2⟩ BagD.frm (fun c hc => hc.elim (fun hc => t3 c hc) fun hc => .inl (t4 c hc).1) (fun c hc => hc.elim (fun hc => t1.lt hc) fun hc => t2.lt hc)
  generalize takeS st n cDel = r at *
  obtain ⟨⟨⟨p1, p2, p3, p4, p5⟩, e⟩, st'⟩ := r
  (first | refine hL.st 0 _ rfl (by kernel_rfl) rfl (Nat.le_of_ble_eq_true rfl) rfl rfl fun S' hL hn' => ?_ | refine hL.st 1 _ rfl (by kernel_rfl) rfl (Nat.le_of_ble_eq_true rfl) rfl rfl fun S' hL hn' => ?_ | refine hL.st 2 _ rfl (by kernel_rfl) rfl (Nat.le_of_ble_eq_true rfl) rfl rfl fun S' hL hn' => ?_ | refine hL.st 3 _ rfl (by kernel_rfl) rfl (Nat.le_of_ble_eq_true rfl) rfl rfl fun S' hL hn' => ?_ | refine hL.st 4 _ rfl (by kernel_rfl) rfl (Nat.le_of_ble_eq_true rfl) rfl rfl fun S' hL hn' => ?_ | refine hL.st 5 _ rfl (by kernel_rfl) rfl (Nat.le_of_ble_eq_true rfl) rfl rfl fun S' hL hn' => ?_ | refine hL.st 6 _ rfl (by kernel_rfl) rfl (Nat.le_of_ble_eq_true rfl) rfl rfl fun S' hL hn' => ?_ | refine hL.st 7 _ rfl (by kernel_rfl) rfl (Nat.le_of_ble_eq_true rfl) rfl rfl fun S' hL hn' => ?_)
  (first | refine hL.ld 0 rfl (by kernel_rfl) _ rfl ?_ | refine hL.ld 1 rfl (by kernel_rfl) _ rfl ?_ | refine hL.ld 2 rfl (by kernel_rfl) _ rfl ?_ | refine hL.ld 3 rfl (by kernel_rfl) _ rfl ?_ | refine hL.ld 4 rfl (by kernel_rfl) _ rfl ?_ | refine hL.ld 5 rfl (by kernel_rfl) _ rfl ?_ | refine hL.ld 6 rfl (by kernel_rfl) _ rfl ?_ | refine hL.ld 7 rfl (by kernel_rfl) _ rfl ?_ | refine hL.lda 0 rfl (by kernel_rfl) _ rfl ?_ | refine hL.lda 1 rfl (by kernel_rfl) _ rfl ?_ | refine hL.lda 2 rfl (by kernel_rfl) _ rfl ?_ | refine hL.lda 3 rfl (by kernel_rfl) _ rfl ?_ | refine hL.lda 4 rfl (by kernel_rfl) _ rfl ?_ | refine hL.lda 5 rfl (by kernel_rfl) _ rfl ?_ | refine hL.lda 6 rfl (by kernel_rfl) _ rfl ?_ | refine hL.lda 7 rfl (by kernel_rfl) _ rfl ?_)
  exact hk own' d o _ hL.p.1 hL.p.2 (fun c hc => (t3 c hc).imp id fun h => by omega) t4 hL.mod
theorem b29 {S : St} {bb m : Nat} {st : BagS} {own : List Nat} {n : Int} {k : Value → St → Prop} (h : BagIs S bb st own) (ok : BagOk m st) (hm : m < 1000000)
    (hk : ∀ own' S', BagIs S' bb (takeS st n cDrop).2 own' → (∀ c ∈ own', c ∈ own ∨ S.next ≤ c) → Mod (fun b => b ∈ own) S S' → k (.int .i64 (takeS st n cDrop).1.2) S') :
    WC E0 29 [.pointer (some ⟨bb, 0, none⟩), .int .i64 n] S k := by
  refine w29 _ n ?_
  unfold c29
  have hlt := fun c (hc : c ∈ own) => h.lt hc
  have hL := Cx.start (fun c => c ∈ own) h BagIs.frm hlt
  refine hL.new fun c0 S1 hL hb1 hn1 => ?_
  (first | refine hL.ld 0 rfl (by kernel_rfl) _ rfl ?_ | refine hL.ld 1 rfl (by kernel_rfl) _ rfl ?_ | refine hL.ld 2 rfl (by kernel_rfl) _ rfl ?_ | refine hL.ld 3 rfl (by kernel_rfl) _ rfl ?_ | refine hL.ld 4 rfl (by kernel_rfl) _ rfl ?_ | refine hL.ld 5 rfl (by kernel_rfl) _ rfl ?_ | refine hL.ld 6 rfl (by kernel_rfl) _ rfl ?_ | refine hL.ld 7 rfl (by kernel_rfl) _ rfl ?_ | refine hL.lda 0 rfl (by kernel_rfl) _ rfl ?_ | refine hL.lda 1 rfl (by kernel_rfl) _ rfl ?_ | refine hL.lda 2 rfl (by kernel_rfl) _ rfl ?_ | refine hL.lda 3 rfl (by kernel_rfl) _ rfl ?_ | refine hL.lda 4 rfl (by kernel_rfl) _ rfl ?_ | refine hL.lda 5 rfl (by kernel_rfl) _ rfl ?_ | refine hL.lda 6 rfl (by kernel_rfl) _ rfl ?_ | refine hL.lda 7 rfl (by kernel_rfl) _ rfl ?_)
  have o2 := ok.c3
  refine evC_of (b53 (f := cDrop) hL.p ok (hL.at 0 rfl) (fun S1 s' k a1 a2 hk => s55 a1 a2 ⟨o2.1, by omega⟩ fun S' g1 g2 => hk S' g1 g2) fun own' d o S3 t1 t2 t3 t4 t5 => ⟨(_, _), rfl, ?_⟩)
  have n5 := t5.next
  have hL := hL.op (P' := fun S => BagIs S bb (takeS st n cDrop).2 own') t5 (fun c hc => hc) (fun c hc _ => hc) t1 BagIs.frm (fun c hc => t3 c hc) (fun c hc => t1.lt hc)
  refine hL.new fun b2 S4 hL hb2 hn2 => ?_
  generalize takeS st n cDrop = r at *
  obtain ⟨⟨⟨p1, p2, p3, p4, p5⟩, e⟩, st'⟩ := r
  (first | refine hL.st 0 _ rfl (by kernel_rfl) rfl (Nat.le_of_ble_eq_true rfl) rfl rfl fun S' hL hn' => ?_ | refine hL.st 1 _ rfl (by kernel_rfl) rfl (Nat.le_of_ble_eq_true rfl) rfl rfl fun S' hL hn' => ?_ | refine hL.st 2 _ rfl (by kernel_rfl) rfl (Nat.le_of_ble_eq_true rfl) rfl rfl fun S' hL hn' => ?_ | refine hL.st 3 _ rfl (by kernel_rfl) rfl (Nat.le_of_ble_eq_true rfl) rfl rfl fun S' hL hn' => ?_ | refine hL.st 4 _ rfl (by kernel_rfl) rfl (Nat.le_of_ble_eq_true rfl) rfl rfl fun S' hL hn' => ?_ | refine hL.st 5 _ rfl (by kernel_rfl) rfl (Nat.le_of_ble_eq_true rfl) rfl rfl fun S' hL hn' => ?_ | refine hL.st 6 _ rfl (by kernel_rfl) rfl (Nat.le_of_ble_eq_true rfl) rfl rfl fun S' hL hn' => ?_ | refine hL.st 7 _ rfl (by kernel_rfl) rfl (Nat.le_of_ble_eq_true rfl) rfl rfl fun S' hL hn' => ?_)
  exact hk own' _ hL.p (fun c hc => (t3 c hc).imp id fun h => by omega) hL.mod
def findS (st : BagS) (n : Int) : Pk × Bool := match idxS st.l n with | some i => (st.l.getD i noPk, true) | none => (noPk, false)
theorem b36 {S : St} {bb m : Nat} {st : BagS} {own : List Nat} {n : Int} {k : Value → St → Prop} (h : BagIs S bb st own) (ok : BagOk m st)
    (hk : ∀ d o S', DatB S' d (findS st n).1.2.2.2.1 o → (∀ c ∈ o, S.next ≤ c) → Ext S S' → k (.tuple #[sv G66 (fltOf (findS st n).1 d), .bool (findS st n).2]) S') :
    WC E0 36 [.pointer (some ⟨bb, 0, none⟩), .int .i64 n] S k := by
  obtain ⟨s, fl, ow, h1, h2, h3, h4, rfl⟩ := h
  have hlen := h3.len
  have o1 := ok.len
  refine s36 (ds := fun i => (st.l.getD i noPk).2.2.2.1) h1 (h2.of fun _ => rfl) (by omega) (fun i hi => ?_) (fun hno S' e => ?_) (fun i hi hlt heq d N S' hN hd e => ?_)
  · obtain ⟨d, o, e1, e2, e3⟩ := h3.get i (by omega)
    have ed : st.l.getD i noPk = st.l[i] := by simp [show i < st.l.length by omega]
    rw [e1, ed]
    have := ok.dat st.l[i] (List.getElem_mem _)
    exact ⟨e2.of, e2.sp, by omega⟩
  · have hi : idxS st.l n = none := by
      rw [← h3.idx n, List.findIdx?_eq_none_iff]
      intro x hx
      simpa using hno x hx
    unfold findS at hk
    rw [hi] at hk
    exact hk ⟨none, 0, 0⟩ [] S' dat_nil (fun _ h => by cases h) e
  · have hi2 : idxS st.l n = some i := by
      rw [← h3.idx n, List.findIdx?_eq_some_iff_getElem]
      exact ⟨hi, by simpa using heq, fun j hj => by simpa using hlt j hj⟩
    have ed : st.l.getD i noPk = st.l[i]'(by omega) := by simp [show i < st.l.length by omega]
    unfold findS at hk
    rw [hi2] at hk
    simp only [ed] at hk hd
    obtain ⟨o, d1, d2, d3⟩ := hd.b
    obtain ⟨d', o', e1, _⟩ := h3.get i (by omega)
    rw [e1]
    exact hk d o S' d1 (fun c hc => by have := d2 c hc; omega) e
theorem b33 {S : St} {bb : Nat} {st : BagS} {own : List Nat} {k : Value → St → Prop} (h : BagIs S bb st own) (hk : k (.int .i64 (st.l.length : Int)) S) : WC E0 33 [.pointer (some ⟨bb, 0, none⟩)] S k := by
  obtain ⟨s, fl, ow, h1, h2, h3, h4, rfl⟩ := h
  refine s33 h1 ?_
  rw [h2.len, h3.len]
  exact hk
theorem b32 {S : St} {bb : Nat} {st : BagS} {own : List Nat} {k : Value → St → Prop} (h : BagIs S bb st own) (hk : ∀ S', Ext S S' → k (sv G56 st.c) S') : WC E0 32 [.pointer (some ⟨bb, 0, none⟩)] S k := by
  obtain ⟨s, fl, ow, h1, h2, h3, h4, rfl⟩ := h
  exact s32 h1 hk
/-- A list of packets, and their bytes, all in blocks of their own from N on. -/
def LsIs (N : Nat) (S : St) (s : Sl) (l : List Pk) : Prop := ∃ fl ow, Fls N S s fl ∧ Pks S fl l ow ∧ ow.Nodup ∧ ∀ c ∈ ow, N ≤ c
end
end Go.Proofs.Ytcookjolkhcjhaa
