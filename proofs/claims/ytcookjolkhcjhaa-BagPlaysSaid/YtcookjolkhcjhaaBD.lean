/- Parts of the proof, put together. -/
import Derived.Test.YtcookjolkhcjhaaBC
import Derived.Test.YtcookjolkhcjhaaCA
/- Bags: a call, on a bag and on the document's own. -/
namespace Go.Proofs.Ytcookjolkhcjhaa
open Go Go.Proofs.Ytcookjolkhcjhaa.D
set_option linter.unusedVariables false
set_option linter.unusedSimpArgs false
noncomputable section

theorem eqI_self (a : Int) : eqI a a = true := by rw [eqI_eq]; simp
/-- Two bags, and a fact beside them. -/
abbrev TwoP (bb rb : Nat) (st1 st2 : BagS) (own own2 : List Nat) (Q : St → Prop) (S : St) : Prop := (BagIs S bb st1 own ∧ BagIs S rb st2 own2) ∧ Q S
abbrev TwoO (own own2 : List Nat) (OQ : Nat → Prop) (c : Nat) : Prop := (c ∈ own ∨ c ∈ own2) ∨ OQ c
theorem TwoP.frm {bb rb : Nat} {st1 st2 : BagS} {own own2 : List Nat} {Q : St → Prop} {OQ : Nat → Prop} (fr : Frm OQ Q) : Frm (TwoO own own2 OQ) (TwoP bb rb st1 st2 own own2 Q) :=
  Frm.and (Frm.and BagIs.frm BagIs.frm) fr
/-- None of them is another one's. -/
structure Sep (own own2 : List Nat) (OQ : Nat → Prop) : Prop where
  two : ∀ c ∈ own, c ∉ own2
  l : ∀ c, OQ c → c ∉ own
  r : ∀ c, OQ c → c ∉ own2
section
variable {W : Nat → Prop} {S0 S S' : St} {L : List (Nat × DObj)} {bb rb : Nat} {st1 st2 st' : BagS} {own own2 own' : List Nat} {Q Q' : St → Prop} {OQ OQ' : Nat → Prop}
theorem two_l (hL : Cx W S0 S L (TwoO own own2 OQ) (TwoP bb rb st1 st2 own own2 Q)) (sep : Sep own own2 OQ) (hW : ∀ c ∈ own, c < S0.next → W c) (q1 : BagIs S' bb st' own') (q2 : ∀ c ∈ own', c ∈ own ∨ S.next ≤ c) (q3 : Mod (fun c => c ∈ own) S S')
    (fr : Frm OQ' Q') (hQ : Kp (fun c => c ∈ own) S S' → Q S → Q' S') (hO : ∀ c, OQ' c → OQ c ∨ (c ∈ own ∧ c ∉ own')) : Cx W S0 S' L (TwoO own' own2 OQ') (TwoP bb rb st' st2 own' own2 Q') ∧ Sep own' own2 OQ' := by
  obtain ⟨⟨p1, p2⟩, p3⟩ := hL.p
  have hn := q3.next
  have h2 := p2.mod q3.kp fun c hc h => sep.two c h hc
  refine ⟨hL.op (P' := TwoP bb rb st' st2 own' own2 Q') q3 (fun c hc => .inl (.inl hc)) (fun c hc hlt => hW c hc hlt) ⟨⟨q1, h2⟩, hQ q3.kp p3⟩ (TwoP.frm fr) (fun c hc => ?_) (fun c hc => ?_), ⟨fun c hc h => ?_, fun c hc h => ?_, fun c hc h => ?_⟩⟩
  · rcases hc with (hc | hc) | hc
    · exact (q2 c hc).imp (fun h => .inl (.inl h)) id
    · exact .inl (.inl (.inr hc))
    · exact .inl ((hO c hc).elim .inr fun h => .inl (.inl h.1))
  · rcases hc with (hc | hc) | hc
    · exact q1.lt hc
    · exact h2.lt hc
    · have : c < S.next := (hO c hc).elim (fun h => hL.lt c (.inr h)) fun h => p1.lt h.1
      omega
  · rcases q2 c hc with h' | h'
    · exact sep.two c h' h
    · have := p2.lt h; omega
  · rcases hO c hc with h' | h'
    · rcases q2 c h with h'' | h''
      · exact sep.l c h' h''
      · have := hL.lt c (.inr h'); omega
    · exact h'.2 h
  · rcases hO c hc with h' | h'
    · exact sep.r c h' h
    · exact sep.two c h'.1 h
theorem two_r (hL : Cx W S0 S L (TwoO own own2 OQ) (TwoP bb rb st1 st2 own own2 Q)) (sep : Sep own own2 OQ) (hW : ∀ c ∈ own2, c < S0.next → W c) (q1 : BagIs S' rb st' own') (q2 : ∀ c ∈ own', c ∈ own2 ∨ S.next ≤ c) (q3 : Mod (fun c => c ∈ own2) S S')
    (fr : Frm OQ' Q') (hQ : Kp (fun c => c ∈ own2) S S' → Q S → Q' S') (hO : ∀ c, OQ' c → OQ c ∨ (c ∈ own2 ∧ c ∉ own')) : Cx W S0 S' L (TwoO own own' OQ') (TwoP bb rb st1 st' own own' Q') ∧ Sep own own' OQ' := by
  obtain ⟨⟨p1, p2⟩, p3⟩ := hL.p
  have hn := q3.next
  have h1 := p1.mod q3.kp fun c hc h => sep.two c hc h
  refine ⟨hL.op (P' := TwoP bb rb st1 st' own own' Q') q3 (fun c hc => .inl (.inr hc)) (fun c hc hlt => hW c hc hlt) ⟨⟨h1, q1⟩, hQ q3.kp p3⟩ (TwoP.frm fr) (fun c hc => ?_) (fun c hc => ?_), ⟨fun c hc h => ?_, fun c hc h => ?_, fun c hc h => ?_⟩⟩
  · rcases hc with (hc | hc) | hc
    · exact .inl (.inl (.inl hc))
    · exact (q2 c hc).imp (fun h => .inl (.inr h)) id
    · exact .inl ((hO c hc).elim .inr fun h => .inl (.inr h.1))
  · rcases hc with (hc | hc) | hc
    · exact h1.lt hc
    · exact q1.lt hc
    · have : c < S.next := (hO c hc).elim (fun h => hL.lt c (.inr h)) fun h => p2.lt h.1
      omega
  · rcases q2 c h with h' | h'
    · exact sep.two c hc h'
    · have := p1.lt hc; omega
  · rcases hO c hc with h' | h'
    · exact sep.l c h' h
    · exact sep.two c h h'.1
  · rcases hO c hc with h' | h'
    · rcases q2 c h with h'' | h''
      · exact sep.r c h' h''
      · have := hL.lt c (.inr h'); omega
    · exact h'.2 h
end
/-- Bytes appended to none. -/
theorem app_dat0 {S : St} {b1 : Nat} {x : Sl} {l : List Int} (ha1 : At S b1 (.cells [] none false none)) (hv : SlOf cellB 1 S x l) (hsp : ∀ a, x.a = some a → a.spot = none) (hlen : l.length ≤ 1000000) {k : Sl → St → Prop} (hk : ∀ d S', Dat b1 S' d l → Ext S S' → k d S') :
    evP tS (appendD E0 S 42 42 (.slice (some ⟨b1, 0, none⟩) 0 0) (.slice x.a x.len x.cap)) k := by
  have hx := hv.first (f := cellB) (sz := 1) (fun _ => rfl) hsp
  have hl := hv.len
  have hlt := ha1.lt
  have g1 : Nat.beq (cellsOf (.int .u8 0)).length 1 = true := rfl
  have g5 : Nat.blt 0 1 = true := rfl
  by_cases h0 : l = []
  · subst h0
    have hl0 : x.len = 0 := hl
    rw [hl0] at hx ⊢
    have hx' : firstD S 1 0 (.slice x.a 0 x.cap) = some [] := hx
    refine ⟨⟨some ⟨b1, 0, none⟩, 0, 0⟩, S, ?_, hk ⟨some ⟨b1, 0, none⟩, 0, 0⟩ S (.inl ⟨rfl, b1, Nat.le_refl _, rfl, ha1⟩) (Mod.refl _ _)⟩
    have g2 : Nat.beq ([] : List Value).length (0 * 1) = true := rfl
    have g3 : Nat.ble ((0 + 0) * DEnv.i5.bytes) 17592186044416 = true := Nat.ble_eq_true_of_le (by omega)
    have g4 : Nat.ble (0 + 0) 17592186044416 = true := rfl
    simp only [appendD, und42b, inf5b, apK, cond_true, zero5, Option.bind_some, lenOfD, sizei5, hx', g1, g2, g3, g4, g5, Nat.beq_refl, Bool.and_true, TT.enc, Ty.enc, Sc.enc]
  · have hn0 : 0 < l.length := List.length_pos_iff.2 h0
    have hfl : (l.flatMap cellB).length = l.length * 1 := flat_len (f := cellB) (sz := 1) (fun _ => rfl) l
    have g00 : Nat.beq l.length 0 = false := Bool.eq_false_iff.2 fun hh => by have := Nat.eq_of_beq_eq_true hh; omega
    have g2 : Nat.beq (l.flatMap cellB).length (l.length * 1) = true := by rw [hfl, Nat.beq_refl]
    have g3 : Nat.ble ((0 + l.length) * DEnv.i5.bytes) 17592186044416 = true := Nat.ble_eq_true_of_le (by rw [bytes5]; omega)
    have g4 : Nat.ble (0 + l.length) 17592186044416 = true := Nat.ble_eq_true_of_le (by omega)
    have g6 : Nat.beq 0 inex = false := rfl
    have g7 : Nat.ble (0 + l.length) 0 = false := Bool.eq_false_iff.2 fun hh => by have := Nat.le_of_ble_eq_true hh; omega
    have g8 : St.loadN S b1 0 (0 * 1) = some [] := by simp only [St.loadN, ha1.get]; rfl
    rw [hl] at hx ⊢
    refine ⟨⟨some ⟨S.next, 0, none⟩, 0 + l.length, inex⟩, (S.alloc (.cells ([] ++ l.flatMap cellB) (some 1) false none)).2, ?_, hk ⟨some ⟨S.next, 0, none⟩, 0 + l.length, inex⟩ _ (.inr (.inr ⟨S.next, by omega, by simp, ?_⟩)) alloc_ext⟩
    · simp only [appendD, und42b, inf5b, apK, cond_true, zero5, Option.bind_some, lenOfD, sizei5, hx, g00, g1, g2, g3, g4, g5, g6, g7, g8, cond_false, Bool.and_true, TT.enc, Ty.enc, Sc.enc, Option.map_some]
    · rw [List.nil_append]; exact alloc_at
theorem DatB.ne {S : St} {s : Sl} {l : List Int} {o own : List Nat} {bb : Nat} (h : DatB S s l o) (hno : ∀ c ∈ o, c ∉ own) (hb : bb ∈ own) : l ≠ [] → ∀ b o', s.a = some ⟨b, o', none⟩ → b ≠ bb := by
  rintro hl b o' e rfl
  rcases h with ⟨h, _⟩ | ⟨b', cap, more, rfl, h', _⟩
  · exact hl h
  · rw [h'] at e; cases e; exact hno b (by simp) hb
theorem s38 {S : St} {bb rb m : Nat} {st : BagS} {own own2 : List Nat} {x : OpR} {d : List Int} {k : Value → St → Prop} (h1 : BagIs S bb st own) (h2 : BagIs S rb st own2) (hs : ∀ c ∈ own, c ∉ own2) (ok : BagOk m st) (hm : m < 900000) (srt : Srt st)
    (hx : OpD S x d) (hd60 : d.length ≤ 60) (hmany : x.2.2.2.2.2 ≤ 300) (hE : ∀ c, SlB x.2.2.2.1 d c → c ∉ own ∧ c ∉ own2)
    (hk : ∀ S' st' own' own2', BagIs S' bb st' own' → BagIs S' rb st' own2' → (∀ c ∈ own', c ∉ own2') → BagOk (m + 700) st' → Srt st' → (∀ c ∈ own', c ∈ own ∨ S.next ≤ c) → (∀ c ∈ own2', c ∈ own2 ∨ S.next ≤ c) → Mod (fun c => c ∈ own ∨ c ∈ own2) S S' → k (.bool true) S') :
    WC E0 38 [.pointer (some ⟨bb, 0, none⟩), .pointer (some ⟨rb, 0, none⟩), sv G61 x] S k := by
  obtain ⟨x1, x2, x3, x4, x5, x6⟩ := x
  obtain ⟨y1, y2, y3, y4, y5⟩ := hx
  dsimp only at y1 y2 hmany hE
  refine w38 _ _ _ ?_
  unfold c38
  dsimp only
  have hbb := h1.lt h1.own
  have hrb := h2.lt h2.own
  have sep0 : Sep own own2 (SlB x4 d) := ⟨hs, fun c hc => (hE c hc).1, fun c hc => (hE c hc).2⟩
  have hL : Cx (fun c => c ∈ own ∨ c ∈ own2) S S [] (TwoO own own2 (SlB x4 d)) (TwoP bb rb st st own own2 (fun S => SlOf cellB 1 S x4 d)) :=
    Cx.start _ ⟨⟨h1, h2⟩, y1⟩ (TwoP.frm Frm.sl) (fun c hc => by
      rcases hc with (hc | hc) | hc
      · exact h1.lt hc
      · exact h2.lt hc
      · exact y1.lt hc)
  refine hL.new fun b1 S1 hL hb1 hn1 => ?_
  refine newW_of fun b2 S2 hb2 ha2 e2 hn2 => ?_
  have hLa := hL
  have hL := hL.ext e2
  refine ptrW_of ?_
  (first | refine hL.ld 0 rfl (by kernel_rfl) _ rfl ?_ | refine hL.ld 1 rfl (by kernel_rfl) _ rfl ?_ | refine hL.ld 2 rfl (by kernel_rfl) _ rfl ?_ | refine hL.ld 3 rfl (by kernel_rfl) _ rfl ?_ | refine hL.ld 4 rfl (by kernel_rfl) _ rfl ?_ | refine hL.ld 5 rfl (by kernel_rfl) _ rfl ?_ | refine hL.ld 6 rfl (by kernel_rfl) _ rfl ?_ | refine hL.ld 7 rfl (by kernel_rfl) _ rfl ?_ | refine hL.lda 0 rfl (by kernel_rfl) _ rfl ?_ | refine hL.lda 1 rfl (by kernel_rfl) _ rfl ?_ | refine hL.lda 2 rfl (by kernel_rfl) _ rfl ?_ | refine hL.lda 3 rfl (by kernel_rfl) _ rfl ?_ | refine hL.lda 4 rfl (by kernel_rfl) _ rfl ?_ | refine hL.lda 5 rfl (by kernel_rfl) _ rfl ?_ | refine hL.lda 6 rfl (by kernel_rfl) _ rfl ?_ | refine hL.lda 7 rfl (by kernel_rfl) _ rfl ?_)
  refine app_dat0 ha2 hL.p.2 y2 (by omega) fun d2 S3 hdat e3 => ?_
  obtain ⟨o, z1, z2, z3⟩ := hdat.b
  have e23 := e2.tr e3
  have n23 := e23.next
  have hL : Cx (fun c => c ∈ own ∨ c ∈ own2) S S3 [(b1, _)] (TwoO own own2 (fun c => SlB x4 d c ∨ c ∈ o)) (TwoP bb rb st st own own2 (fun S => SlOf cellB 1 S x4 d ∧ DatB S d2 d o)) :=
    hLa.op e23 (fun _ h => h.elim) (fun _ h => h.elim) ⟨⟨hLa.p.1.1.ext e23, hLa.p.1.2.ext e23⟩, e23.slOf hLa.p.2, z1⟩ (TwoP.frm (Frm.and Frm.sl (Frm.dat fun c hc => hc))) (fun c hc => by
      rcases hc with hc | hc | hc
      · exact .inl (.inl hc)
      · exact .inl (.inr hc)
      · exact .inr (by have := z2 c hc; omega)) (fun c hc => by
      rcases hc with (hc | hc) | hc | hc
      · have := h1.lt hc; have := hLa.mod.next; omega
      · have := h2.lt hc; have := hLa.mod.next; omega
      · have := y1.lt hc; have := hLa.mod.next; omega
      · exact z1.lt hc)
  have hoS : ∀ c ∈ o, S.next ≤ c := fun c hc => by have := z2 c hc; have := hLa.mod.next; omega
  have sep : Sep own own2 (fun c => SlB x4 d c ∨ c ∈ o) := ⟨hs, fun c hc h => hc.elim (fun hc => sep0.l c hc h) fun hc => by have := hoS c hc; have := h1.lt h; omega, fun c hc h => hc.elim (fun hc => sep0.r c hc h) fun hc => by have := hoS c hc; have := h2.lt h; omega⟩
  have hW : ∀ (own' own2' : List Nat), (∀ c ∈ own', c ∈ own ∨ S.next ≤ c) → (∀ c ∈ own2', c ∈ own2 ∨ S.next ≤ c) → (∀ c ∈ own', c < S.next → c ∈ own ∨ c ∈ own2) ∧ (∀ c ∈ own2', c < S.next → c ∈ own ∨ c ∈ own2) :=
    fun own' own2' g1 g2 => ⟨fun c hc hlt => .inl ((g1 c hc).resolve_right (by omega)), fun c hc hlt => .inr ((g2 c hc).resolve_right (by omega))⟩
  refine ptrW_of ?_
  (first | refine hL.ld 0 rfl (by kernel_rfl) _ rfl ?_ | refine hL.ld 1 rfl (by kernel_rfl) _ rfl ?_ | refine hL.ld 2 rfl (by kernel_rfl) _ rfl ?_ | refine hL.ld 3 rfl (by kernel_rfl) _ rfl ?_ | refine hL.ld 4 rfl (by kernel_rfl) _ rfl ?_ | refine hL.ld 5 rfl (by kernel_rfl) _ rfl ?_ | refine hL.ld 6 rfl (by kernel_rfl) _ rfl ?_ | refine hL.ld 7 rfl (by kernel_rfl) _ rfl ?_ | refine hL.lda 0 rfl (by kernel_rfl) _ rfl ?_ | refine hL.lda 1 rfl (by kernel_rfl) _ rfl ?_ | refine hL.lda 2 rfl (by kernel_rfl) _ rfl ?_ | refine hL.lda 3 rfl (by kernel_rfl) _ rfl ?_ | refine hL.lda 4 rfl (by kernel_rfl) _ rfl ?_ | refine hL.lda 5 rfl (by kernel_rfl) _ rfl ?_ | refine hL.lda 6 rfl (by kernel_rfl) _ rfl ?_ | refine hL.lda 7 rfl (by kernel_rfl) _ rfl ?_)
  refine ifW_dec (fun h0 => ?_) fun h0 => ?_
  · refine loopW_ind (fun q (j : Int) S1 => ∃ n : Nat, j = n ∧ n ≤ 300 ∧ q = 301 - n ∧ ∃ st' own' own2', Cx (fun c => c ∈ own ∨ c ∈ own2) S S1 [(b1, .cells [.int .i64 x1, .int .i64 x2, .int .i64 x3, .slice x4.a x4.len x4.cap, .int .u8 x5, .int .i64 x6] none false none)] (TwoO own' own2' (fun c => SlB x4 d c ∨ c ∈ o)) (TwoP bb rb st' st' own' own2' (fun S => SlOf cellB 1 S x4 d ∧ DatB S d2 d o)) ∧
        Sep own' own2' (fun c => SlB x4 d c ∨ c ∈ o) ∧ BagOk (m + 2 * n) st' ∧ Srt st' ∧ (∀ c ∈ own', c ∈ own ∨ S.next ≤ c) ∧ (∀ c ∈ own2', c ∈ own2 ∨ S.next ≤ c)) (m := 301)
      ⟨0, rfl, by omega, rfl, st, own, own2, hL, sep, ok, srt, fun c hc => .inl hc, fun c hc => .inl hc⟩ ?_
    rintro P q j S4 ⟨n, rfl, hn, rfl, st', own', own2', hL, sep, ok', srt', f1, f2⟩ hP
    refine ptrW_of ?_
    (first | refine hL.ld 0 rfl (by kernel_rfl) _ rfl ?_ | refine hL.ld 1 rfl (by kernel_rfl) _ rfl ?_ | refine hL.ld 2 rfl (by kernel_rfl) _ rfl ?_ | refine hL.ld 3 rfl (by kernel_rfl) _ rfl ?_ | refine hL.ld 4 rfl (by kernel_rfl) _ rfl ?_ | refine hL.ld 5 rfl (by kernel_rfl) _ rfl ?_ | refine hL.ld 6 rfl (by kernel_rfl) _ rfl ?_ | refine hL.ld 7 rfl (by kernel_rfl) _ rfl ?_ | refine hL.lda 0 rfl (by kernel_rfl) _ rfl ?_ | refine hL.lda 1 rfl (by kernel_rfl) _ rfl ?_ | refine hL.lda 2 rfl (by kernel_rfl) _ rfl ?_ | refine hL.lda 3 rfl (by kernel_rfl) _ rfl ?_ | refine hL.lda 4 rfl (by kernel_rfl) _ rfl ?_ | refine hL.lda 5 rfl (by kernel_rfl) _ rfl ?_ | refine hL.lda 6 rfl (by kernel_rfl) _ rfl ?_ | refine hL.lda 7 rfl (by kernel_rfl) _ rfl ?_)
    rw [minmax_max]
    refine ifW_dec (fun hlt => ?_) fun hlt => ?_
    · have hn3 : n < 300 := by omega
      obtain ⟨⟨p1, p2⟩, p3, p4⟩ := hL.p
      repeat (first | refine ptrW_of ?_ | refine sameV_of ?_ | (first | refine hL.ld 0 rfl (by kernel_rfl) _ rfl ?_ | refine hL.ld 1 rfl (by kernel_rfl) _ rfl ?_ | refine hL.ld 2 rfl (by kernel_rfl) _ rfl ?_ | refine hL.ld 3 rfl (by kernel_rfl) _ rfl ?_ | refine hL.ld 4 rfl (by kernel_rfl) _ rfl ?_ | refine hL.ld 5 rfl (by kernel_rfl) _ rfl ?_ | refine hL.ld 6 rfl (by kernel_rfl) _ rfl ?_ | refine hL.ld 7 rfl (by kernel_rfl) _ rfl ?_ | refine hL.lda 0 rfl (by kernel_rfl) _ rfl ?_ | refine hL.lda 1 rfl (by kernel_rfl) _ rfl ?_ | refine hL.lda 2 rfl (by kernel_rfl) _ rfl ?_ | refine hL.lda 3 rfl (by kernel_rfl) _ rfl ?_ | refine hL.lda 4 rfl (by kernel_rfl) _ rfl ?_ | refine hL.lda 5 rfl (by kernel_rfl) _ rfl ?_ | refine hL.lda 6 rfl (by kernel_rfl) _ rfl ?_ | refine hL.lda 7 rfl (by kernel_rfl) _ rfl ?_) | (first | refine hLo.ld 0 rfl (by kernel_rfl) _ rfl ?_ | refine hLo.ld 1 rfl (by kernel_rfl) _ rfl ?_ | refine hLo.ld 2 rfl (by kernel_rfl) _ rfl ?_ | refine hLo.ld 3 rfl (by kernel_rfl) _ rfl ?_ | refine hLo.ld 4 rfl (by kernel_rfl) _ rfl ?_ | refine hLo.ld 5 rfl (by kernel_rfl) _ rfl ?_ | refine hLo.ld 6 rfl (by kernel_rfl) _ rfl ?_ | refine hLo.ld 7 rfl (by kernel_rfl) _ rfl ?_ | refine hLo.lda 0 rfl (by kernel_rfl) _ rfl ?_ | refine hLo.lda 1 rfl (by kernel_rfl) _ rfl ?_ | refine hLo.lda 2 rfl (by kernel_rfl) _ rfl ?_ | refine hLo.lda 3 rfl (by kernel_rfl) _ rfl ?_ | refine hLo.lda 4 rfl (by kernel_rfl) _ rfl ?_ | refine hLo.lda 5 rfl (by kernel_rfl) _ rfl ?_ | refine hLo.lda 6 rfl (by kernel_rfl) _ rfl ?_ | refine hLo.lda 7 rfl (by kernel_rfl) _ rfl ?_))
      refine evC_of (b26 p1 ok' (by omega) p4.of p4.sp (p4.ne (fun c hc => sep.l c (.inr hc)) p1.own) hd60 fun own3 S5 q1 q2 q3 => ⟨_, rfl, ?_⟩)
      have hLo := hL
      obtain ⟨w1, w2⟩ := hW own' own2' f1 f2
      obtain ⟨hL, sep⟩ := two_l hL sep w1 q1 q2 q3 (Frm.and Frm.sl (Frm.dat fun c hc => hc)) (fun kp hq => ⟨kp.slOf hq.1 fun hl b o' e _ h => sep.l b (.inl ⟨hl, o', e⟩) h, mod_datB kp hq.2 fun c hc h => sep.l c (.inr hc) h⟩) (fun c hc => .inl hc)
      have f3 : ∀ c ∈ own3, c ∈ own ∨ S.next ≤ c := fun c hc => (q2 c hc).elim (f1 c) fun h => .inr (by have := hLo.mod.next; omega)
      repeat (first | refine ptrW_of ?_ | refine sameV_of ?_ | (first | refine hL.ld 0 rfl (by kernel_rfl) _ rfl ?_ | refine hL.ld 1 rfl (by kernel_rfl) _ rfl ?_ | refine hL.ld 2 rfl (by kernel_rfl) _ rfl ?_ | refine hL.ld 3 rfl (by kernel_rfl) _ rfl ?_ | refine hL.ld 4 rfl (by kernel_rfl) _ rfl ?_ | refine hL.ld 5 rfl (by kernel_rfl) _ rfl ?_ | refine hL.ld 6 rfl (by kernel_rfl) _ rfl ?_ | refine hL.ld 7 rfl (by kernel_rfl) _ rfl ?_ | refine hL.lda 0 rfl (by kernel_rfl) _ rfl ?_ | refine hL.lda 1 rfl (by kernel_rfl) _ rfl ?_ | refine hL.lda 2 rfl (by kernel_rfl) _ rfl ?_ | refine hL.lda 3 rfl (by kernel_rfl) _ rfl ?_ | refine hL.lda 4 rfl (by kernel_rfl) _ rfl ?_ | refine hL.lda 5 rfl (by kernel_rfl) _ rfl ?_ | refine hL.lda 6 rfl (by kernel_rfl) _ rfl ?_ | refine hL.lda 7 rfl (by kernel_rfl) _ rfl ?_) | (first | refine hLo.ld 0 rfl (by kernel_rfl) _ rfl ?_ | refine hLo.ld 1 rfl (by kernel_rfl) _ rfl ?_ | refine hLo.ld 2 rfl (by kernel_rfl) _ rfl ?_ | refine hLo.ld 3 rfl (by kernel_rfl) _ rfl ?_ | refine hLo.ld 4 rfl (by kernel_rfl) _ rfl ?_ | refine hLo.ld 5 rfl (by kernel_rfl) _ rfl ?_ | refine hLo.ld 6 rfl (by kernel_rfl) _ rfl ?_ | refine hLo.ld 7 rfl (by kernel_rfl) _ rfl ?_ | refine hLo.lda 0 rfl (by kernel_rfl) _ rfl ?_ | refine hLo.lda 1 rfl (by kernel_rfl) _ rfl ?_ | refine hLo.lda 2 rfl (by kernel_rfl) _ rfl ?_ | refine hLo.lda 3 rfl (by kernel_rfl) _ rfl ?_ | refine hLo.lda 4 rfl (by kernel_rfl) _ rfl ?_ | refine hLo.lda 5 rfl (by kernel_rfl) _ rfl ?_ | refine hLo.lda 6 rfl (by kernel_rfl) _ rfl ?_ | refine hLo.lda 7 rfl (by kernel_rfl) _ rfl ?_))
      obtain ⟨⟨p1, p2⟩, p3, p4⟩ := hL.p
      refine evC_of (b59 p2 ok' (by omega) p3 y2 (fun hl b o' e hb => sep.r b (.inl ⟨hl, o', e⟩) (hb ▸ p2.own)) hd60 fun own4 S6 q4 q5 q6 => ⟨_, rfl, ?_⟩)
      obtain ⟨w3, w4⟩ := hW own3 own2' f3 f2
      have hLo := hL
      obtain ⟨hL, sep⟩ := two_r hL sep w4 q4 q5 q6 (Frm.and Frm.sl (Frm.dat fun c hc => hc)) (fun kp hq => ⟨kp.slOf hq.1 fun hl b o' e _ h => sep.r b (.inl ⟨hl, o', e⟩) h, mod_datB kp hq.2 fun c hc h => sep.r c (.inr hc) h⟩) (fun c hc => .inl hc)
      have f4 : ∀ c ∈ own4, c ∈ own2 ∨ S.next ≤ c := fun c hc => (q5 c hc).elim (f2 c) fun h => .inr (by have := hLo.mod.next; omega)
      refine ifW_ndec (fun h => (h rfl).elim) fun _ => ?_
      rw [wrap_succ (by omega)]
      refine hP _ _ _ (by omega) ⟨n + 1, rfl, by omega, rfl, _, own3, own4, hL, sep, ?_, sendS_srt srt' _ _ _, f3, f4⟩
      rw [show m + 2 * (n + 1) = m + 2 * n + 2 by omega]
      exact sendS_ok ok' _ _ _ hd60
    · refine loopW_ind (fun q (j : Int) S1 => ∃ i : Nat, j = i ∧ i ≤ d.length ∧ q = d.length - i ∧ ∃ l', l'.length = d.length ∧ Cx (fun c => c ∈ own ∨ c ∈ own2) S S1 [] (TwoO own' own2' (fun c => c ∈ o)) (TwoP bb rb st' st' own' own2' (fun S => DatB S d2 l' o))) (m := d.length)
        ⟨0, rfl, by omega, rfl, d, rfl, (hL.tl 1).as ⟨hL.p.1, hL.p.2.2⟩ (TwoP.frm (Frm.dat fun c hc => hc)) (fun c hc => hc.imp id .inr)⟩ ?_
      rintro P2 q2 y S7 ⟨i, rfl, hi, rfl, l', hl', hL⟩ hP2
      obtain ⟨⟨p1, p2⟩, p3⟩ := hL.p
      have hd2 : d2.len = l'.length := p3.of.len
      rw [hd2]
      refine ifW_dec (fun hlt => ?_) fun hlt => ?_
      · have hi3 : i < l'.length := by omega
        rcases p3 with ⟨hnil, _⟩ | ⟨db, cap, more, rfl, hd, hcat, hmo⟩
        · rw [hnil] at hi3; cases hi3
        subst hd
        refine ⟨db, 0, rfl, by omega, by omega, ?_⟩
        refine evV_of (l'.getD i 0) ((load_one hcat (by kernel_rfl)).trans (getB hi3)) ?_
        refine ⟨db, 0, rfl, by omega, by omega, ?_⟩
        have hst : storeV E0 S7 5 (.pointer (some ⟨db, 0 + Int.toNat (i : Int) * 1, none⟩)) (.int .u8 (wrapI .u8 (l'.getD i 0 + 1))) = some (S7.upd db (.cells ((l'.set i (wrapI .u8 (l'.getD i 0 + 1))).flatMap cellB) more false none)) :=
          (store_cells (n := 1) hcat (by kernel_rfl) rfl (by rw [flatB, List.length_map]; show 0 + i * 1 + 1 ≤ _; omega) rfl).trans (by rw [← setB hi3]; rfl)
        refine ⟨_, hst, ?_⟩
        have m8 : Mod (fun c => c = db) S7 (S7.upd db (.cells ((l'.set i (wrapI .u8 (l'.getD i 0 + 1))).flatMap cellB) more false none)) := upd_mod
        have a8 := upd_at (o' := .cells ((l'.set i (wrapI .u8 (l'.getD i 0 + 1))).flatMap cellB) more false none) hcat
        have hn8 : (S7.upd db (.cells ((l'.set i (wrapI .u8 (l'.getD i 0 + 1))).flatMap cellB) more false none)).next = S7.next := rfl
        generalize S7.upd db (.cells ((l'.set i (wrapI .u8 (l'.getD i 0 + 1))).flatMap cellB) more false none) = S8 at m8 a8 hn8 ⊢
        rw [wrap_succ (by omega)]
        have hdb := hoS db (by simp)
        refine hP2 _ _ _ (by omega) ⟨i + 1, rfl, by omega, rfl, l'.set i (wrapI .u8 (l'.getD i 0 + 1)), by simpa using hl', ?_⟩
        refine hL.op m8 (fun c hc => .inr (by simp [hc])) (fun c hc h => by omega) ⟨⟨p1.mod m8.kp fun c hc e => sep.l c (.inr (by simp [e])) hc, p2.mod m8.kp fun c hc e => sep.r c (.inr (by simp [e])) hc⟩, .inr ⟨db, cap, more, rfl, by simp, a8, ?_⟩⟩ (TwoP.frm (Frm.dat fun c hc => hc)) (fun c hc => .inl hc) (fun c hc => by have := hL.lt c hc; omega)
        rcases hmo with h | ⟨h, _⟩
        · exact .inl h
        · rw [h] at hi3; cases hi3
      · exact hk S7 st' own' own2' p1 p2 sep.two (ok'.mono (by omega)) srt' f1 f2 hL.mod
  have fin : ∀ {S' : St} {st' : BagS} {own' own2' : List Nat} {L : List (Nat × DObj)} {OQ : Nat → Prop} {Q : St → Prop} {e e' : Int}, Cx (fun c => c ∈ own ∨ c ∈ own2) S S' L (TwoO own' own2' OQ) (TwoP bb rb st' st' own' own2' Q) → Sep own' own2' OQ → BagOk (m + 2) st' → Srt st' → (∀ c ∈ own', c ∈ own ∨ S.next ≤ c) → (∀ c ∈ own2', c ∈ own2 ∨ S.next ≤ c) → e = e' → k (.bool (eqI e e')) S' := by
    intro S' st' own' own2' L OQ Q e e' hL sep ok' srt' f1 f2 he
    subst he
    rw [eqI_self]
    exact hk S' st' own' own2' hL.p.1.1 hL.p.1.2 sep.two (ok'.mono (by omega)) srt' f1 f2 hL.mod
  have n3 := hL.mod.next
  have hw1 : ∀ c ∈ own, c < S.next → c ∈ own ∨ c ∈ own2 := fun c hc _ => .inl hc
  have hw2 : ∀ c ∈ own2, c < S.next → c ∈ own ∨ c ∈ own2 := fun c hc _ => .inr hc
  have hL : Cx (fun c => c ∈ own ∨ c ∈ own2) S S3 [(b1, .cells [.int .i64 x1, .int .i64 x2, .int .i64 x3, .slice x4.a x4.len x4.cap, .int .u8 x5, .int .i64 x6] none false none)] (TwoO own own2 noB) (TwoP bb rb st st own own2 (fun _ => True)) :=
    hL.as ⟨hL.p.1, trivial⟩ (TwoP.frm Frm.true) (fun c hc => hc.imp id fun h => h.elim)
  have sep : Sep own own2 noB := ⟨hs, fun c h => h.elim, fun c h => h.elim⟩
  refine ifW_dec (fun h0 => ?_) fun h0 => ?_
  · repeat (first | refine ptrW_of ?_ | refine sameV_of ?_ | (first | refine hL.ld 0 rfl (by kernel_rfl) _ rfl ?_ | refine hL.ld 1 rfl (by kernel_rfl) _ rfl ?_ | refine hL.ld 2 rfl (by kernel_rfl) _ rfl ?_ | refine hL.ld 3 rfl (by kernel_rfl) _ rfl ?_ | refine hL.ld 4 rfl (by kernel_rfl) _ rfl ?_ | refine hL.ld 5 rfl (by kernel_rfl) _ rfl ?_ | refine hL.ld 6 rfl (by kernel_rfl) _ rfl ?_ | refine hL.ld 7 rfl (by kernel_rfl) _ rfl ?_ | refine hL.lda 0 rfl (by kernel_rfl) _ rfl ?_ | refine hL.lda 1 rfl (by kernel_rfl) _ rfl ?_ | refine hL.lda 2 rfl (by kernel_rfl) _ rfl ?_ | refine hL.lda 3 rfl (by kernel_rfl) _ rfl ?_ | refine hL.lda 4 rfl (by kernel_rfl) _ rfl ?_ | refine hL.lda 5 rfl (by kernel_rfl) _ rfl ?_ | refine hL.lda 6 rfl (by kernel_rfl) _ rfl ?_ | refine hL.lda 7 rfl (by kernel_rfl) _ rfl ?_) | (first | refine hLo.ld 0 rfl (by kernel_rfl) _ rfl ?_ | refine hLo.ld 1 rfl (by kernel_rfl) _ rfl ?_ | refine hLo.ld 2 rfl (by kernel_rfl) _ rfl ?_ | refine hLo.ld 3 rfl (by kernel_rfl) _ rfl ?_ | refine hLo.ld 4 rfl (by kernel_rfl) _ rfl ?_ | refine hLo.ld 5 rfl (by kernel_rfl) _ rfl ?_ | refine hLo.ld 6 rfl (by kernel_rfl) _ rfl ?_ | refine hLo.ld 7 rfl (by kernel_rfl) _ rfl ?_ | refine hLo.lda 0 rfl (by kernel_rfl) _ rfl ?_ | refine hLo.lda 1 rfl (by kernel_rfl) _ rfl ?_ | refine hLo.lda 2 rfl (by kernel_rfl) _ rfl ?_ | refine hLo.lda 3 rfl (by kernel_rfl) _ rfl ?_ | refine hLo.lda 4 rfl (by kernel_rfl) _ rfl ?_ | refine hLo.lda 5 rfl (by kernel_rfl) _ rfl ?_ | refine hLo.lda 6 rfl (by kernel_rfl) _ rfl ?_ | refine hLo.lda 7 rfl (by kernel_rfl) _ rfl ?_))
    refine evC_of (b27 hL.p.1.1 ok (by omega) fun own3 d1 o1 S5 q1 qd q2 qo q3 => ⟨(_, _), rfl, ?_⟩)
    have hn5 := q3.next
    have f3 : ∀ c ∈ own3, c ∈ own ∨ S.next ≤ c := fun c hc => (q2 c hc).imp id fun h => by omega
    have okT := (takeS_ok ok x2 (f := cDel) (.inl rfl)).mono (show m + 1 ≤ m + 2 by omega)
    have srtT := takeS_srt srt x2 cDel
    obtain ⟨hL, sep⟩ := two_l (Q' := fun S => DatB S d1 (takeS st x2 cDel).1.1.2.2.2.1 o1) (OQ' := fun c => c ∈ o1) hL sep hw1 q1 q2 q3 (Frm.dat fun c hc => hc) (fun _ _ => qd) (fun c hc => .inr (qo c hc))
    have hb60 := fun (S : St) (k : Value → St → Prop) (h : BagIs S rb st own2) => @b60 S rb m st own2 x2 k h ok (by omega)
    generalize hT : takeS st x2 cDel = T at *
    obtain ⟨⟨p, e⟩, stT⟩ := T
    refine hL.new fun b25 S6 hL hb25 hn6 => ?_
    (first | refine hL.st 0 _ rfl (by kernel_rfl) rfl (Nat.le_of_ble_eq_true rfl) rfl rfl fun S7 hL hn7 => ?_ | refine hL.st 1 _ rfl (by kernel_rfl) rfl (Nat.le_of_ble_eq_true rfl) rfl rfl fun S7 hL hn7 => ?_ | refine hL.st 2 _ rfl (by kernel_rfl) rfl (Nat.le_of_ble_eq_true rfl) rfl rfl fun S7 hL hn7 => ?_ | refine hL.st 3 _ rfl (by kernel_rfl) rfl (Nat.le_of_ble_eq_true rfl) rfl rfl fun S7 hL hn7 => ?_ | refine hL.st 4 _ rfl (by kernel_rfl) rfl (Nat.le_of_ble_eq_true rfl) rfl rfl fun S7 hL hn7 => ?_ | refine hL.st 5 _ rfl (by kernel_rfl) rfl (Nat.le_of_ble_eq_true rfl) rfl rfl fun S7 hL hn7 => ?_ | refine hL.st 6 _ rfl (by kernel_rfl) rfl (Nat.le_of_ble_eq_true rfl) rfl rfl fun S7 hL hn7 => ?_ | refine hL.st 7 _ rfl (by kernel_rfl) rfl (Nat.le_of_ble_eq_true rfl) rfl rfl fun S7 hL hn7 => ?_)
    repeat (first | refine ptrW_of ?_ | refine sameV_of ?_ | (first | refine hL.ld 0 rfl (by kernel_rfl) _ rfl ?_ | refine hL.ld 1 rfl (by kernel_rfl) _ rfl ?_ | refine hL.ld 2 rfl (by kernel_rfl) _ rfl ?_ | refine hL.ld 3 rfl (by kernel_rfl) _ rfl ?_ | refine hL.ld 4 rfl (by kernel_rfl) _ rfl ?_ | refine hL.ld 5 rfl (by kernel_rfl) _ rfl ?_ | refine hL.ld 6 rfl (by kernel_rfl) _ rfl ?_ | refine hL.ld 7 rfl (by kernel_rfl) _ rfl ?_ | refine hL.lda 0 rfl (by kernel_rfl) _ rfl ?_ | refine hL.lda 1 rfl (by kernel_rfl) _ rfl ?_ | refine hL.lda 2 rfl (by kernel_rfl) _ rfl ?_ | refine hL.lda 3 rfl (by kernel_rfl) _ rfl ?_ | refine hL.lda 4 rfl (by kernel_rfl) _ rfl ?_ | refine hL.lda 5 rfl (by kernel_rfl) _ rfl ?_ | refine hL.lda 6 rfl (by kernel_rfl) _ rfl ?_ | refine hL.lda 7 rfl (by kernel_rfl) _ rfl ?_) | (first | refine hLo.ld 0 rfl (by kernel_rfl) _ rfl ?_ | refine hLo.ld 1 rfl (by kernel_rfl) _ rfl ?_ | refine hLo.ld 2 rfl (by kernel_rfl) _ rfl ?_ | refine hLo.ld 3 rfl (by kernel_rfl) _ rfl ?_ | refine hLo.ld 4 rfl (by kernel_rfl) _ rfl ?_ | refine hLo.ld 5 rfl (by kernel_rfl) _ rfl ?_ | refine hLo.ld 6 rfl (by kernel_rfl) _ rfl ?_ | refine hLo.ld 7 rfl (by kernel_rfl) _ rfl ?_ | refine hLo.lda 0 rfl (by kernel_rfl) _ rfl ?_ | refine hLo.lda 1 rfl (by kernel_rfl) _ rfl ?_ | refine hLo.lda 2 rfl (by kernel_rfl) _ rfl ?_ | refine hLo.lda 3 rfl (by kernel_rfl) _ rfl ?_ | refine hLo.lda 4 rfl (by kernel_rfl) _ rfl ?_ | refine hLo.lda 5 rfl (by kernel_rfl) _ rfl ?_ | refine hLo.lda 6 rfl (by kernel_rfl) _ rfl ?_ | refine hLo.lda 7 rfl (by kernel_rfl) _ rfl ?_))
    refine evC_of (hb60 _ _ hL.p.1.2 fun own4 d3 o3 S8 q4 qd4 q5 qo4 q6 => ⟨(_, _), rfl, ?_⟩)
    have f4 : ∀ c ∈ own4, c ∈ own2 ∨ S.next ≤ c := fun c hc => (q5 c hc).imp id fun h => by have := hL.mod.next; omega
    obtain ⟨hL, sep⟩ := two_r (Q' := fun S => DatB S d1 p.2.2.2.1 o1 ∧ DatB S d3 p.2.2.2.1 o3) (OQ' := fun c => c ∈ o1 ∨ c ∈ o3) hL sep hw2 q4 q5 q6 (Frm.and (Frm.dat fun c hc => hc) (Frm.dat fun c hc => hc)) (fun kp hq => ⟨mod_datB kp hq fun c hc h => sep.r c hc h, qd4⟩) (fun c hc => hc.imp id (qo4 c))
    obtain ⟨p1, p2, p3, p4, p5⟩ := p
    refine hL.new fun b28 S9 hL hb28 hn9 => ?_
    (first | refine hL.st 0 _ rfl (by kernel_rfl) rfl (Nat.le_of_ble_eq_true rfl) rfl rfl fun S10 hL hn10 => ?_ | refine hL.st 1 _ rfl (by kernel_rfl) rfl (Nat.le_of_ble_eq_true rfl) rfl rfl fun S10 hL hn10 => ?_ | refine hL.st 2 _ rfl (by kernel_rfl) rfl (Nat.le_of_ble_eq_true rfl) rfl rfl fun S10 hL hn10 => ?_ | refine hL.st 3 _ rfl (by kernel_rfl) rfl (Nat.le_of_ble_eq_true rfl) rfl rfl fun S10 hL hn10 => ?_ | refine hL.st 4 _ rfl (by kernel_rfl) rfl (Nat.le_of_ble_eq_true rfl) rfl rfl fun S10 hL hn10 => ?_ | refine hL.st 5 _ rfl (by kernel_rfl) rfl (Nat.le_of_ble_eq_true rfl) rfl rfl fun S10 hL hn10 => ?_ | refine hL.st 6 _ rfl (by kernel_rfl) rfl (Nat.le_of_ble_eq_true rfl) rfl rfl fun S10 hL hn10 => ?_ | refine hL.st 7 _ rfl (by kernel_rfl) rfl (Nat.le_of_ble_eq_true rfl) rfl rfl fun S10 hL hn10 => ?_)
    repeat (first | refine ptrW_of ?_ | refine sameV_of ?_ | (first | refine hL.ld 0 rfl (by kernel_rfl) _ rfl ?_ | refine hL.ld 1 rfl (by kernel_rfl) _ rfl ?_ | refine hL.ld 2 rfl (by kernel_rfl) _ rfl ?_ | refine hL.ld 3 rfl (by kernel_rfl) _ rfl ?_ | refine hL.ld 4 rfl (by kernel_rfl) _ rfl ?_ | refine hL.ld 5 rfl (by kernel_rfl) _ rfl ?_ | refine hL.ld 6 rfl (by kernel_rfl) _ rfl ?_ | refine hL.ld 7 rfl (by kernel_rfl) _ rfl ?_ | refine hL.lda 0 rfl (by kernel_rfl) _ rfl ?_ | refine hL.lda 1 rfl (by kernel_rfl) _ rfl ?_ | refine hL.lda 2 rfl (by kernel_rfl) _ rfl ?_ | refine hL.lda 3 rfl (by kernel_rfl) _ rfl ?_ | refine hL.lda 4 rfl (by kernel_rfl) _ rfl ?_ | refine hL.lda 5 rfl (by kernel_rfl) _ rfl ?_ | refine hL.lda 6 rfl (by kernel_rfl) _ rfl ?_ | refine hL.lda 7 rfl (by kernel_rfl) _ rfl ?_) | (first | refine hLo.ld 0 rfl (by kernel_rfl) _ rfl ?_ | refine hLo.ld 1 rfl (by kernel_rfl) _ rfl ?_ | refine hLo.ld 2 rfl (by kernel_rfl) _ rfl ?_ | refine hLo.ld 3 rfl (by kernel_rfl) _ rfl ?_ | refine hLo.ld 4 rfl (by kernel_rfl) _ rfl ?_ | refine hLo.ld 5 rfl (by kernel_rfl) _ rfl ?_ | refine hLo.ld 6 rfl (by kernel_rfl) _ rfl ?_ | refine hLo.ld 7 rfl (by kernel_rfl) _ rfl ?_ | refine hLo.lda 0 rfl (by kernel_rfl) _ rfl ?_ | refine hLo.lda 1 rfl (by kernel_rfl) _ rfl ?_ | refine hLo.lda 2 rfl (by kernel_rfl) _ rfl ?_ | refine hLo.lda 3 rfl (by kernel_rfl) _ rfl ?_ | refine hLo.lda 4 rfl (by kernel_rfl) _ rfl ?_ | refine hLo.lda 5 rfl (by kernel_rfl) _ rfl ?_ | refine hLo.lda 6 rfl (by kernel_rfl) _ rfl ?_ | refine hLo.lda 7 rfl (by kernel_rfl) _ rfl ?_))
    refine evC_of (b37 (p := (p1, p2, p3, p4, p5)) hL.p.2.1.tx hL.p.2.2.tx fun S11 e11 => ⟨_, rfl, ?_⟩)
    refine ifW_of (fun _ => ?_) fun h => by cases h
    exact fin (hL.ext e11) sep okT srtT f3 f4 rfl
  refine ifW_dec (fun h0 => ?_) fun h0 => ?_
  · repeat (first | refine ptrW_of ?_ | refine sameV_of ?_ | (first | refine hL.ld 0 rfl (by kernel_rfl) _ rfl ?_ | refine hL.ld 1 rfl (by kernel_rfl) _ rfl ?_ | refine hL.ld 2 rfl (by kernel_rfl) _ rfl ?_ | refine hL.ld 3 rfl (by kernel_rfl) _ rfl ?_ | refine hL.ld 4 rfl (by kernel_rfl) _ rfl ?_ | refine hL.ld 5 rfl (by kernel_rfl) _ rfl ?_ | refine hL.ld 6 rfl (by kernel_rfl) _ rfl ?_ | refine hL.ld 7 rfl (by kernel_rfl) _ rfl ?_ | refine hL.lda 0 rfl (by kernel_rfl) _ rfl ?_ | refine hL.lda 1 rfl (by kernel_rfl) _ rfl ?_ | refine hL.lda 2 rfl (by kernel_rfl) _ rfl ?_ | refine hL.lda 3 rfl (by kernel_rfl) _ rfl ?_ | refine hL.lda 4 rfl (by kernel_rfl) _ rfl ?_ | refine hL.lda 5 rfl (by kernel_rfl) _ rfl ?_ | refine hL.lda 6 rfl (by kernel_rfl) _ rfl ?_ | refine hL.lda 7 rfl (by kernel_rfl) _ rfl ?_) | (first | refine hLo.ld 0 rfl (by kernel_rfl) _ rfl ?_ | refine hLo.ld 1 rfl (by kernel_rfl) _ rfl ?_ | refine hLo.ld 2 rfl (by kernel_rfl) _ rfl ?_ | refine hLo.ld 3 rfl (by kernel_rfl) _ rfl ?_ | refine hLo.ld 4 rfl (by kernel_rfl) _ rfl ?_ | refine hLo.ld 5 rfl (by kernel_rfl) _ rfl ?_ | refine hLo.ld 6 rfl (by kernel_rfl) _ rfl ?_ | refine hLo.ld 7 rfl (by kernel_rfl) _ rfl ?_ | refine hLo.lda 0 rfl (by kernel_rfl) _ rfl ?_ | refine hLo.lda 1 rfl (by kernel_rfl) _ rfl ?_ | refine hLo.lda 2 rfl (by kernel_rfl) _ rfl ?_ | refine hLo.lda 3 rfl (by kernel_rfl) _ rfl ?_ | refine hLo.lda 4 rfl (by kernel_rfl) _ rfl ?_ | refine hLo.lda 5 rfl (by kernel_rfl) _ rfl ?_ | refine hLo.lda 6 rfl (by kernel_rfl) _ rfl ?_ | refine hLo.lda 7 rfl (by kernel_rfl) _ rfl ?_))
    refine evC_of (b29 hL.p.1.1 ok (by omega) fun own3 S5 q1 q2 q3 => ⟨_, rfl, ?_⟩)
    have hn5 := q3.next
    have f3 : ∀ c ∈ own3, c ∈ own ∨ S.next ≤ c := fun c hc => (q2 c hc).imp id fun h => by omega
    obtain ⟨hL, sep⟩ := two_l hL sep hw1 q1 q2 q3 Frm.true (fun _ _ => trivial) (fun c hc => .inl hc)
    repeat (first | refine ptrW_of ?_ | refine sameV_of ?_ | (first | refine hL.ld 0 rfl (by kernel_rfl) _ rfl ?_ | refine hL.ld 1 rfl (by kernel_rfl) _ rfl ?_ | refine hL.ld 2 rfl (by kernel_rfl) _ rfl ?_ | refine hL.ld 3 rfl (by kernel_rfl) _ rfl ?_ | refine hL.ld 4 rfl (by kernel_rfl) _ rfl ?_ | refine hL.ld 5 rfl (by kernel_rfl) _ rfl ?_ | refine hL.ld 6 rfl (by kernel_rfl) _ rfl ?_ | refine hL.ld 7 rfl (by kernel_rfl) _ rfl ?_ | refine hL.lda 0 rfl (by kernel_rfl) _ rfl ?_ | refine hL.lda 1 rfl (by kernel_rfl) _ rfl ?_ | refine hL.lda 2 rfl (by kernel_rfl) _ rfl ?_ | refine hL.lda 3 rfl (by kernel_rfl) _ rfl ?_ | refine hL.lda 4 rfl (by kernel_rfl) _ rfl ?_ | refine hL.lda 5 rfl (by kernel_rfl) _ rfl ?_ | refine hL.lda 6 rfl (by kernel_rfl) _ rfl ?_ | refine hL.lda 7 rfl (by kernel_rfl) _ rfl ?_) | (first | refine hLo.ld 0 rfl (by kernel_rfl) _ rfl ?_ | refine hLo.ld 1 rfl (by kernel_rfl) _ rfl ?_ | refine hLo.ld 2 rfl (by kernel_rfl) _ rfl ?_ | refine hLo.ld 3 rfl (by kernel_rfl) _ rfl ?_ | refine hLo.ld 4 rfl (by kernel_rfl) _ rfl ?_ | refine hLo.ld 5 rfl (by kernel_rfl) _ rfl ?_ | refine hLo.ld 6 rfl (by kernel_rfl) _ rfl ?_ | refine hLo.ld 7 rfl (by kernel_rfl) _ rfl ?_ | refine hLo.lda 0 rfl (by kernel_rfl) _ rfl ?_ | refine hLo.lda 1 rfl (by kernel_rfl) _ rfl ?_ | refine hLo.lda 2 rfl (by kernel_rfl) _ rfl ?_ | refine hLo.lda 3 rfl (by kernel_rfl) _ rfl ?_ | refine hLo.lda 4 rfl (by kernel_rfl) _ rfl ?_ | refine hLo.lda 5 rfl (by kernel_rfl) _ rfl ?_ | refine hLo.lda 6 rfl (by kernel_rfl) _ rfl ?_ | refine hLo.lda 7 rfl (by kernel_rfl) _ rfl ?_))
    refine evC_of (b61 hL.p.1.2 ok (by omega) fun own4 S8 q4 q5 q6 => ⟨_, rfl, ?_⟩)
    have f4 : ∀ c ∈ own4, c ∈ own2 ∨ S.next ≤ c := fun c hc => (q5 c hc).imp id fun h => by omega
    obtain ⟨hL, sep⟩ := two_r hL sep hw2 q4 q5 q6 Frm.true (fun _ _ => trivial) (fun c hc => .inl hc)
    exact fin hL sep ((takeS_ok ok _ (.inr rfl)).mono (by omega)) (takeS_srt srt _ _) f3 f4 rfl
  refine ifW_dec (fun h0 => ?_) fun h0 => ?_
  · repeat (first | refine ptrW_of ?_ | refine sameV_of ?_ | (first | refine hL.ld 0 rfl (by kernel_rfl) _ rfl ?_ | refine hL.ld 1 rfl (by kernel_rfl) _ rfl ?_ | refine hL.ld 2 rfl (by kernel_rfl) _ rfl ?_ | refine hL.ld 3 rfl (by kernel_rfl) _ rfl ?_ | refine hL.ld 4 rfl (by kernel_rfl) _ rfl ?_ | refine hL.ld 5 rfl (by kernel_rfl) _ rfl ?_ | refine hL.ld 6 rfl (by kernel_rfl) _ rfl ?_ | refine hL.ld 7 rfl (by kernel_rfl) _ rfl ?_ | refine hL.lda 0 rfl (by kernel_rfl) _ rfl ?_ | refine hL.lda 1 rfl (by kernel_rfl) _ rfl ?_ | refine hL.lda 2 rfl (by kernel_rfl) _ rfl ?_ | refine hL.lda 3 rfl (by kernel_rfl) _ rfl ?_ | refine hL.lda 4 rfl (by kernel_rfl) _ rfl ?_ | refine hL.lda 5 rfl (by kernel_rfl) _ rfl ?_ | refine hL.lda 6 rfl (by kernel_rfl) _ rfl ?_ | refine hL.lda 7 rfl (by kernel_rfl) _ rfl ?_) | (first | refine hLo.ld 0 rfl (by kernel_rfl) _ rfl ?_ | refine hLo.ld 1 rfl (by kernel_rfl) _ rfl ?_ | refine hLo.ld 2 rfl (by kernel_rfl) _ rfl ?_ | refine hLo.ld 3 rfl (by kernel_rfl) _ rfl ?_ | refine hLo.ld 4 rfl (by kernel_rfl) _ rfl ?_ | refine hLo.ld 5 rfl (by kernel_rfl) _ rfl ?_ | refine hLo.ld 6 rfl (by kernel_rfl) _ rfl ?_ | refine hLo.ld 7 rfl (by kernel_rfl) _ rfl ?_ | refine hLo.lda 0 rfl (by kernel_rfl) _ rfl ?_ | refine hLo.lda 1 rfl (by kernel_rfl) _ rfl ?_ | refine hLo.lda 2 rfl (by kernel_rfl) _ rfl ?_ | refine hLo.lda 3 rfl (by kernel_rfl) _ rfl ?_ | refine hLo.lda 4 rfl (by kernel_rfl) _ rfl ?_ | refine hLo.lda 5 rfl (by kernel_rfl) _ rfl ?_ | refine hLo.lda 6 rfl (by kernel_rfl) _ rfl ?_ | refine hLo.lda 7 rfl (by kernel_rfl) _ rfl ?_))
    refine evC_of (b30 hL.p.1.1 ok (by omega) fun own3 S5 q1 q2 q3 => ⟨(_, _), rfl, ?_⟩)
    have hn5 := q3.next
    have f3 : ∀ c ∈ own3, c ∈ own ∨ S.next ≤ c := fun c hc => (q2 c hc).imp id fun h => by omega
    obtain ⟨hL, sep⟩ := two_l hL sep hw1 q1 q2 q3 Frm.true (fun _ _ => trivial) (fun c hc => .inl hc)
    repeat (first | refine ptrW_of ?_ | refine sameV_of ?_ | (first | refine hL.ld 0 rfl (by kernel_rfl) _ rfl ?_ | refine hL.ld 1 rfl (by kernel_rfl) _ rfl ?_ | refine hL.ld 2 rfl (by kernel_rfl) _ rfl ?_ | refine hL.ld 3 rfl (by kernel_rfl) _ rfl ?_ | refine hL.ld 4 rfl (by kernel_rfl) _ rfl ?_ | refine hL.ld 5 rfl (by kernel_rfl) _ rfl ?_ | refine hL.ld 6 rfl (by kernel_rfl) _ rfl ?_ | refine hL.ld 7 rfl (by kernel_rfl) _ rfl ?_ | refine hL.lda 0 rfl (by kernel_rfl) _ rfl ?_ | refine hL.lda 1 rfl (by kernel_rfl) _ rfl ?_ | refine hL.lda 2 rfl (by kernel_rfl) _ rfl ?_ | refine hL.lda 3 rfl (by kernel_rfl) _ rfl ?_ | refine hL.lda 4 rfl (by kernel_rfl) _ rfl ?_ | refine hL.lda 5 rfl (by kernel_rfl) _ rfl ?_ | refine hL.lda 6 rfl (by kernel_rfl) _ rfl ?_ | refine hL.lda 7 rfl (by kernel_rfl) _ rfl ?_) | (first | refine hLo.ld 0 rfl (by kernel_rfl) _ rfl ?_ | refine hLo.ld 1 rfl (by kernel_rfl) _ rfl ?_ | refine hLo.ld 2 rfl (by kernel_rfl) _ rfl ?_ | refine hLo.ld 3 rfl (by kernel_rfl) _ rfl ?_ | refine hLo.ld 4 rfl (by kernel_rfl) _ rfl ?_ | refine hLo.ld 5 rfl (by kernel_rfl) _ rfl ?_ | refine hLo.ld 6 rfl (by kernel_rfl) _ rfl ?_ | refine hLo.ld 7 rfl (by kernel_rfl) _ rfl ?_ | refine hLo.lda 0 rfl (by kernel_rfl) _ rfl ?_ | refine hLo.lda 1 rfl (by kernel_rfl) _ rfl ?_ | refine hLo.lda 2 rfl (by kernel_rfl) _ rfl ?_ | refine hLo.lda 3 rfl (by kernel_rfl) _ rfl ?_ | refine hLo.lda 4 rfl (by kernel_rfl) _ rfl ?_ | refine hLo.lda 5 rfl (by kernel_rfl) _ rfl ?_ | refine hLo.lda 6 rfl (by kernel_rfl) _ rfl ?_ | refine hLo.lda 7 rfl (by kernel_rfl) _ rfl ?_))
    refine evC_of (b62 hL.p.1.2 ok (by omega) fun own4 S8 q4 q5 q6 => ⟨(_, _), rfl, ?_⟩)
    have f4 : ∀ c ∈ own4, c ∈ own2 ∨ S.next ≤ c := fun c hc => (q5 c hc).imp id fun h => by omega
    obtain ⟨hL, sep⟩ := two_r hL sep hw2 q4 q5 q6 Frm.true (fun _ _ => trivial) (fun c hc => .inl hc)
    refine ifW_pos rfl ?_
    exact fin hL sep (doubleS_ok ok _) (doubleS_srt srt _) f3 f4 rfl
  refine ifW_dec (fun h0 => ?_) fun h0 => ?_
  · repeat (first | refine ptrW_of ?_ | refine sameV_of ?_ | (first | refine hL.ld 0 rfl (by kernel_rfl) _ rfl ?_ | refine hL.ld 1 rfl (by kernel_rfl) _ rfl ?_ | refine hL.ld 2 rfl (by kernel_rfl) _ rfl ?_ | refine hL.ld 3 rfl (by kernel_rfl) _ rfl ?_ | refine hL.ld 4 rfl (by kernel_rfl) _ rfl ?_ | refine hL.ld 5 rfl (by kernel_rfl) _ rfl ?_ | refine hL.ld 6 rfl (by kernel_rfl) _ rfl ?_ | refine hL.ld 7 rfl (by kernel_rfl) _ rfl ?_ | refine hL.lda 0 rfl (by kernel_rfl) _ rfl ?_ | refine hL.lda 1 rfl (by kernel_rfl) _ rfl ?_ | refine hL.lda 2 rfl (by kernel_rfl) _ rfl ?_ | refine hL.lda 3 rfl (by kernel_rfl) _ rfl ?_ | refine hL.lda 4 rfl (by kernel_rfl) _ rfl ?_ | refine hL.lda 5 rfl (by kernel_rfl) _ rfl ?_ | refine hL.lda 6 rfl (by kernel_rfl) _ rfl ?_ | refine hL.lda 7 rfl (by kernel_rfl) _ rfl ?_) | (first | refine hLo.ld 0 rfl (by kernel_rfl) _ rfl ?_ | refine hLo.ld 1 rfl (by kernel_rfl) _ rfl ?_ | refine hLo.ld 2 rfl (by kernel_rfl) _ rfl ?_ | refine hLo.ld 3 rfl (by kernel_rfl) _ rfl ?_ | refine hLo.ld 4 rfl (by kernel_rfl) _ rfl ?_ | refine hLo.ld 5 rfl (by kernel_rfl) _ rfl ?_ | refine hLo.ld 6 rfl (by kernel_rfl) _ rfl ?_ | refine hLo.ld 7 rfl (by kernel_rfl) _ rfl ?_ | refine hLo.lda 0 rfl (by kernel_rfl) _ rfl ?_ | refine hLo.lda 1 rfl (by kernel_rfl) _ rfl ?_ | refine hLo.lda 2 rfl (by kernel_rfl) _ rfl ?_ | refine hLo.lda 3 rfl (by kernel_rfl) _ rfl ?_ | refine hLo.lda 4 rfl (by kernel_rfl) _ rfl ?_ | refine hLo.lda 5 rfl (by kernel_rfl) _ rfl ?_ | refine hLo.lda 6 rfl (by kernel_rfl) _ rfl ?_ | refine hLo.lda 7 rfl (by kernel_rfl) _ rfl ?_))
    refine evC_of (b31 hL.p.1.1 ok (by omega) fun own3 S5 q1 q2 q3 => ⟨_, rfl, ?_⟩)
    have hn5 := q3.next
    have f3 : ∀ c ∈ own3, c ∈ own ∨ S.next ≤ c := fun c hc => (q2 c hc).imp id fun h => by omega
    obtain ⟨hL, sep⟩ := two_l hL sep hw1 q1 q2 q3 Frm.true (fun _ _ => trivial) (fun c hc => .inl hc)
    repeat (first | refine ptrW_of ?_ | refine sameV_of ?_ | (first | refine hL.ld 0 rfl (by kernel_rfl) _ rfl ?_ | refine hL.ld 1 rfl (by kernel_rfl) _ rfl ?_ | refine hL.ld 2 rfl (by kernel_rfl) _ rfl ?_ | refine hL.ld 3 rfl (by kernel_rfl) _ rfl ?_ | refine hL.ld 4 rfl (by kernel_rfl) _ rfl ?_ | refine hL.ld 5 rfl (by kernel_rfl) _ rfl ?_ | refine hL.ld 6 rfl (by kernel_rfl) _ rfl ?_ | refine hL.ld 7 rfl (by kernel_rfl) _ rfl ?_ | refine hL.lda 0 rfl (by kernel_rfl) _ rfl ?_ | refine hL.lda 1 rfl (by kernel_rfl) _ rfl ?_ | refine hL.lda 2 rfl (by kernel_rfl) _ rfl ?_ | refine hL.lda 3 rfl (by kernel_rfl) _ rfl ?_ | refine hL.lda 4 rfl (by kernel_rfl) _ rfl ?_ | refine hL.lda 5 rfl (by kernel_rfl) _ rfl ?_ | refine hL.lda 6 rfl (by kernel_rfl) _ rfl ?_ | refine hL.lda 7 rfl (by kernel_rfl) _ rfl ?_) | (first | refine hLo.ld 0 rfl (by kernel_rfl) _ rfl ?_ | refine hLo.ld 1 rfl (by kernel_rfl) _ rfl ?_ | refine hLo.ld 2 rfl (by kernel_rfl) _ rfl ?_ | refine hLo.ld 3 rfl (by kernel_rfl) _ rfl ?_ | refine hLo.ld 4 rfl (by kernel_rfl) _ rfl ?_ | refine hLo.ld 5 rfl (by kernel_rfl) _ rfl ?_ | refine hLo.ld 6 rfl (by kernel_rfl) _ rfl ?_ | refine hLo.ld 7 rfl (by kernel_rfl) _ rfl ?_ | refine hLo.lda 0 rfl (by kernel_rfl) _ rfl ?_ | refine hLo.lda 1 rfl (by kernel_rfl) _ rfl ?_ | refine hLo.lda 2 rfl (by kernel_rfl) _ rfl ?_ | refine hLo.lda 3 rfl (by kernel_rfl) _ rfl ?_ | refine hLo.lda 4 rfl (by kernel_rfl) _ rfl ?_ | refine hLo.lda 5 rfl (by kernel_rfl) _ rfl ?_ | refine hLo.lda 6 rfl (by kernel_rfl) _ rfl ?_ | refine hLo.lda 7 rfl (by kernel_rfl) _ rfl ?_))
    refine evC_of (b63 hL.p.1.2 ok (by omega) fun own4 S8 q4 q5 q6 => ⟨_, rfl, ?_⟩)
    have f4 : ∀ c ∈ own4, c ∈ own2 ∨ S.next ≤ c := fun c hc => (q5 c hc).imp id fun h => by omega
    obtain ⟨hL, sep⟩ := two_r hL sep hw2 q4 q5 q6 Frm.true (fun _ _ => trivial) (fun c hc => .inl hc)
    exact fin hL sep ((spoilS_ok ok _ _ _).mono (by omega)) (spoilS_srt srt _ _ _) f3 f4 rfl
  exact hk S3 st own own2 hL.p.1.1 hL.p.1.2 hs (ok.mono (by omega)) srt (fun c hc => .inl hc) (fun c hc => .inl hc) hL.mod
end
end Go.Proofs.Ytcookjolkhcjhaa

/- Bags: what is refused changes nothing. -/
namespace Go.Proofs.Ytcookjolkhcjhaa
open Go Go.Proofs.Ytcookjolkhcjhaa.D
set_option linter.unusedVariables false
set_option linter.unusedSimpArgs false
noncomputable section

theorem Srt.mem {st : BagS} (h : Srt st) {p : Pk} (hp : p ∈ st.l) : findS st p.1 = (p, true) := by
  obtain ⟨i, hi, rfl⟩ := List.getElem_of_mem hp
  exact h.find hi
/-- Of st, n was asked: st' behind it, and the error. -/
structure Asked (st st' : BagS) (n e : Int) : Prop where
  no : e ≠ 0 → st' = st
  oth : ∀ p ∈ st.l, p.1 ≠ n → p ∈ st'.l
theorem takeS_asked (st : BagS) (n : Int) (f : Cnt → Cnt) : Asked st (takeS st n f).2 n (takeS st n f).1.2 := by
  unfold takeS
  cases hi : idxS st.l n with
  | none => exact ⟨fun _ => rfl, fun p hp _ => hp⟩
  | some i =>
    obtain ⟨hil, he, _⟩ := idxS_lt hi
    refine ⟨fun h => (h rfl).elim, fun p hp hne => ?_⟩
    rw [List.mem_eraseIdx_iff_getElem]
    obtain ⟨j, hj, rfl⟩ := List.getElem_of_mem hp
    exact ⟨j, hj, fun e => hne (by subst e; exact he), rfl⟩
theorem putS_mem {st : BagS} {q : Int × Int × List Int × Bool} {p : Pk} (hp : p ∈ st.l) : p ∈ (putS st q).2.l := by
  unfold putS
  split
  · exact List.mem_append_left _ hp
  · exact hp
theorem doubleS_asked (st : BagS) (n : Int) : Asked st (doubleS st n).2 n (doubleS st n).1.2 := by
  unfold doubleS
  cases hi : idxS st.l n with
  | none => exact ⟨fun _ => rfl, fun p hp _ => hp⟩
  | some i =>
    obtain ⟨hil, he, _⟩ := idxS_lt hi
    simp only [List.getElem?_eq_getElem hil]
    exact ⟨fun h => (h rfl).elim, fun p hp _ => putS_mem hp⟩
theorem spoilS_asked (st : BagS) (n a w : Int) : Asked st (spoilS st n a w).2 n (spoilS st n a w).1 := by
  unfold spoilS
  cases hi : idxS st.l n with
  | none => exact ⟨fun _ => rfl, fun p hp _ => hp⟩
  | some i =>
    obtain ⟨hil, he, _⟩ := idxS_lt hi
    simp only [List.getElem?_eq_getElem hil]
    split
    · exact ⟨fun _ => rfl, fun p hp _ => hp⟩
    · refine ⟨fun h => (h rfl).elim, fun p hp hne => ?_⟩
      obtain ⟨j, hj, rfl⟩ := List.getElem_of_mem hp
      rw [List.mem_iff_getElem]
      refine ⟨j, by simpa using hj, ?_⟩
      rw [List.getElem_set, if_neg]
      intro e; subst e; exact hne he
theorem eqCnt (S : St) (c : Cnt) : eqD E0 S 6 57 (sv G56 c) (sv G56 c) = some true := by
  have h : eqD E0 S 6 57 (sv G56 c) (sv G56 c) = cond (decide (c.1 = c.1)) (cond (decide (c.2.1 = c.2.1)) (cond (decide (c.2.2.1 = c.2.2.1)) (cond (decide (c.2.2.2.1 = c.2.2.2.1)) (cond (decide (c.2.2.2.2.1 = c.2.2.2.2.1)) (cond (decide (c.2.2.2.2.2 = c.2.2.2.2.2)) (some true) (some false)) (some false)) (some false)) (some false)) (some false)) (some false) := by kernel_rfl
  rw [h]
  simp
/-- An element of a list of packets: its number .. -/
theorem ls_n {N : Nat} {S : St} {s : Sl} {fl : List Flt} {l : List Pk} {ow : List Nat} (h : LsR N s fl l ow S) {j : Nat} (hj : j < l.length) {k : Int → Prop} (hk : k l[j].1) : idxW s.a s.len (j : Int) fun b1 b2 => ptrW (some ⟨b1, b2 + Int.toNat (j : Int) * 5, none⟩) fun b3 b4 => evV tI (loadV E0 S 3 (.pointer (some ⟨b3, b4 + 0, none⟩))) k := by
  obtain ⟨h1, h2⟩ := h
  have hfl := h2.len
  obtain ⟨d, o, e1, _, _⟩ := h2.get j hj
  refine (GrX.of (f := cellsF) (sz := 5) (fun _ => rfl) h1).idxL (f := cellsF) (sz := 5) (l := fl) (n := j) (fun _ => rfl) h1.len (by omega) fun b5 o5 cs5 m5 r5 f5 at5 _ hv5 => ?_
  rw [e1] at hv5
  exact ptrW_of (evV_of l[j].1 ((load_one at5 (by kernel_rfl)).trans (at_take hv5 (j := 0) (by omega))) hk)
/-- .. and all of it. -/
theorem ls_all {N : Nat} {S : St} {s : Sl} {fl : List Flt} {l : List Pk} {ow : List Nat} (h : LsR N s fl l ow S) {j : Nat} (hj : j < l.length) {k : Flt → Prop} (hk : ∀ d o, DatB S d l[j].2.2.2.1 o → k (fltOf l[j] d)) : idxW s.a s.len (j : Int) fun b1 b2 => evV (TT.one (Ty.agg G66)) (loadV E0 S 67 (.pointer (some ⟨b1, b2 + Int.toNat (j : Int) * 5, none⟩))) k := by
  obtain ⟨h1, h2⟩ := h
  have hfl := h2.len
  obtain ⟨d, o, e1, h3, _⟩ := h2.get j hj
  refine (GrX.of (f := cellsF) (sz := 5) (fun _ => rfl) h1).idxL (f := cellsF) (sz := 5) (l := fl) (n := j) (fun _ => rfl) h1.len (by omega) fun b5 o5 cs5 m5 r5 f5 at5 _ hv5 => ?_
  rw [e1] at hv5
  exact ⟨_, load_agg at5 (n := 5) (by kernel_rfl) hv5 rfl, hk d o h3⟩
theorem LsR.lt {N : Nat} {s : Sl} {fl : List Flt} {l : List Pk} {ow : List Nat} {S : St} (h : LsR N s fl l ow S) {c : Nat} (hc : c ∈ blk s ∨ c ∈ ow) : c < S.next := by
  rcases hc with hc | hc
  · obtain ⟨cs, h, _⟩ := h.1.bk hc; exact h.lt
  · obtain ⟨x, h, _⟩ := h.2.blk hc; exact h.lt
abbrev boxO (x : OpR) : DObj := .cells (cellsO x) none false none
theorem s12 {S : St} {s : Sl} {xs : List OpR} {x : OpR} (h : SlOf cellsO 6 S s xs) (hd : ∀ x ∈ xs, ∃ d, OpD S x d) : WC E0 12 [.slice s.a s.len s.cap, sv G61 x] S fun v _ => v = .bool true := by
  refine w12 s x ?_
  unfold c12
  refine newW_of fun b1 S1 hb1 ha1 e1 hn1 => ?_
  refine evC_of (b24 fun S2 e2 => ⟨_, rfl, ?_⟩)
  have e12 := e1.tr e2
  refine evC_of (b25 (e12.slOf h) ⟨_, rfl, ?_⟩ fun hlen hsm => ⟨_, rfl, ?_⟩)
  · exact ifW_pos (by omega) rfl
  refine ifW_neg (by omega) ?_
  have hb1x : At S2 b1 (boxO x) := e2.at ha1
  refine ptrW_of ?_
  refine evV_of x.2.2.2.1 (load_one hb1x (by kernel_rfl)) ?_
  refine ifW_dec (fun _ => rfl) fun _ => ?_
  refine ptrW_of ?_
  refine evV_of x.1 (load_one hb1x (by kernel_rfl)) ?_
  refine ifW_dec (fun _ => rfl) fun hk0 => ?_
  refine ifW_of (fun h => by cases h) fun _ => ?_
  refine newW_of fun b6 S4 hb6 ha6 e4 hn4 => ?_
  refine newW_of fun b7 S5 hb7 ha7 e5 hn5 => ?_
  have e15 := (e12.tr e4).tr e5
  have hl := h.len
  have nS2 := e12.next
  have nS12 := e2.next
  refine loopW_ind (fun q (j : Int) S' => ∃ n : Nat, j = n ∧ n ≤ xs.length ∧ q = xs.length - n ∧ Ext S S' ∧ At S' b1 (boxO x) ∧ ∃ st own own2, BagIs S' b6 st own ∧ BagIs S' b7 st own2 ∧ (∀ c ∈ own, c ∉ own2) ∧ (∀ c ∈ own, b1 < c) ∧ (∀ c ∈ own2, b1 < c) ∧ BagOk (700 * n) st ∧ Srt st) (m := xs.length)
    ⟨0, rfl, by omega, rfl, e15, e5.at (e4.at hb1x), bag0, [b6], [b7], bag0_is (e5.at ha6), bag0_is ha7, by simp; omega, by simp; omega, by simp; omega, bag0_ok, bag0_srt⟩ ?_
  rintro P q j S6 ⟨n, rfl, hn, rfl, e6, hbx, st, own, own2, q1, q2, hs, f1, f2, ok, srt⟩ hP
  rw [hl]
  refine ifW_dec (fun hlt => ?_) fun hlt => ?_
  · have hlt3 : n < xs.length := by omega
    refine (Ext.slOf e6 h).idxL (f := cellsO) (sz := 6) (fun _ => rfl) rfl hlt3 fun b0 o0 cs0 m0 r0 f0 at0 _ hv0 => ?_
    refine ⟨xs[n], load_agg at0 (n := 6) (by kernel_rfl) hv0 rfl, ?_⟩
    obtain ⟨d, hdx⟩ := hd xs[n] (List.getElem_mem _)
    have hsz := hsm xs[n] (List.getElem_mem _)
    have hdl : d.length ≤ 60 := by have := hdx.1.len; omega
    have hdlt : ∀ c, SlB xs[n].2.2.2.1 d c → c ∉ own ∧ c ∉ own2 := fun c hc => by
      have := hdx.1.lt hc
      exact ⟨fun h => by have := f1 c h; omega, fun h => by have := f2 c h; omega⟩
    refine evC_of (s38 q1 q2 hs ok (by omega) srt (hdx.ext e6) hdl hsz.2 hdlt fun S7 st' own' own2' g1 g2 g3 g4 g5 g6 g7 g8 => ⟨_, rfl, ?_⟩)
    refine ifW_of (fun h => by cases h) fun _ => ?_
    rw [wrap_succ (by omega)]
    have n6 := e6.next
    have hb6' : b1 < S6.next := hbx.lt
    refine hP _ _ _ (by omega) ⟨n + 1, rfl, by omega, rfl, e6.ext g8 fun c hc => by
      rcases hc with hc | hc
      · have := f1 c hc; omega
      · have := f2 c hc; omega, g8.at hbx fun hc => by
      rcases hc with hc | hc
      · have := f1 _ hc; omega
      · have := f2 _ hc; omega, st', own', own2', g1, g2, g3, fun c hc => (g6 c hc).elim (f1 c) fun h => by omega, fun c hc => (g7 c hc).elim (f2 c) fun h => by omega, by rw [show 700 * (n + 1) = 700 * n + 700 by omega]; exact g4, g5⟩
  have hb1own : b1 ∉ own := fun h => by have := f1 _ h; omega
  have hL : Cx (fun c => c = b1 ∨ c ∈ own) S6 S6 [(b1, boxO x)] (fun c => c ∈ own) (fun S => BagIs S b6 st own) :=
    Cx.startL _ (fun p hp => by simp only [List.mem_cons, List.not_mem_nil, or_false] at hp; subst hp; exact ⟨hbx, .inl rfl⟩) (by simp) q1 BagIs.frm (fun c hc => q1.lt hc) (fun p hp hc => by simp only [List.mem_cons, List.not_mem_nil, or_false] at hp; subst hp; exact hb1own hc)
  refine evC_of (b34 hL.p ok fun s2 S8 l8 e8 => ⟨s2, rfl, ?_⟩)
  obtain ⟨fl, ow, l1, l2, l3, l4⟩ := l8
  have n8 := e8.next
  have hblk : ∀ c, (c ∈ blk s2 ∨ c ∈ ow) → S6.next ≤ c := fun c hc => hc.elim (fun hc => by obtain ⟨cs, h, h', _⟩ := l1.bk hc; exact h') (l4 c)
  have hlsl : s2.len = st.l.length := by rw [l1.len, l2.len]
  have hL : Cx (fun c => c = b1 ∨ c ∈ own) S6 S8 [(b1, boxO x)] (fun c => c ∈ own ∨ (c ∈ blk s2 ∨ c ∈ ow)) (fun S => BagIs S b6 st own ∧ LsR S6.next s2 fl st.l ow S) :=
    hL.op e8 (fun _ h => h.elim) (fun _ h => h.elim) ⟨q1.ext e8, l1, l2⟩ (Frm.and BagIs.frm LsR.frm) (fun c hc => hc.imp id (hblk c)) (fun c hc => hc.elim (fun hc => (q1.ext e8).lt hc) (LsR.lt ⟨l1, l2⟩))
  have sepL : ∀ c, (c ∈ blk s2 ∨ c ∈ ow) → c ∉ own := fun c hc h => by have := hblk c hc; have := q1.lt h; omega
  refine evC_of (b32 hL.p.1 fun S9 e9 => ⟨st.c, rfl, ?_⟩)
  have hL := hL.ext e9
  refine hL.new fun b10 S10 hL hb10 hn10 => ?_
  (first | refine hL.st 0 _ rfl (by kernel_rfl) rfl (Nat.le_of_ble_eq_true rfl) rfl rfl fun S11 hL hn11 => ?_ | refine hL.st 1 _ rfl (by kernel_rfl) rfl (Nat.le_of_ble_eq_true rfl) rfl rfl fun S11 hL hn11 => ?_ | refine hL.st 2 _ rfl (by kernel_rfl) rfl (Nat.le_of_ble_eq_true rfl) rfl rfl fun S11 hL hn11 => ?_ | refine hL.st 3 _ rfl (by kernel_rfl) rfl (Nat.le_of_ble_eq_true rfl) rfl rfl fun S11 hL hn11 => ?_ | refine hL.st 4 _ rfl (by kernel_rfl) rfl (Nat.le_of_ble_eq_true rfl) rfl rfl fun S11 hL hn11 => ?_ | refine hL.st 5 _ rfl (by kernel_rfl) rfl (Nat.le_of_ble_eq_true rfl) rfl rfl fun S11 hL hn11 => ?_ | refine hL.st 6 _ rfl (by kernel_rfl) rfl (Nat.le_of_ble_eq_true rfl) rfl rfl fun S11 hL hn11 => ?_ | refine hL.st 7 _ rfl (by kernel_rfl) rfl (Nat.le_of_ble_eq_true rfl) rfl rfl fun S11 hL hn11 => ?_)
  have hmax := ok.len
  intro k3 hk3
  have hJ : ∀ S12 st' own' (e : Int), Cx (fun c => c = b1 ∨ c ∈ own) S6 S12 [(b10, .cells [.int .i64 st.c.1, .int .i64 st.c.2.1, .int .i64 st.c.2.2.1, .int .i64 st.c.2.2.2.1, .int .i64 st.c.2.2.2.2.1, .int .i64 st.c.2.2.2.2.2] none false none), (b1, boxO x)] (fun c => c ∈ own' ∨ (c ∈ blk s2 ∨ c ∈ ow)) (fun S => BagIs S b6 st' own' ∧ LsR S6.next s2 fl st.l ow S) → BagOk (700 * n + 2) st' → Srt st' → Asked st st' x.2.1 e → k3 e S12 := by
    intro S12 st' own' e hL ok' srt' ask
    refine hk3 _ _ ?_
    refine ifW_ndec (fun he => ?_) fun he => ?_
    · have hst := ask.no he
      subst hst
      refine ifW_of (fun _ => ?_) fun h => by cases h
      refine evC_of (b34 hL.p.1 ok' fun s3 S13 l13 e13 => ⟨s3, rfl, ?_⟩)
      have hL := hL.ext e13
      refine evC_of (b35 l13 ⟨fl, ow, hL.p.2.1, hL.p.2.2, l3, l4⟩ (by omega) fun S14 e14 => ⟨_, rfl, ?_⟩)
      have hL := hL.ext e14
      refine ifW_of (fun _ => ?_) fun h => by cases h
      have hLo := hL
      refine evC_of (b32 hL.p.1 fun S15 e15 => ⟨st'.c, rfl, ?_⟩)
      have hL := hL.ext e15
      repeat (first | refine ptrW_of ?_ | refine sameV_of ?_ | (first | refine hL.ld 0 rfl (by kernel_rfl) _ rfl ?_ | refine hL.ld 1 rfl (by kernel_rfl) _ rfl ?_ | refine hL.ld 2 rfl (by kernel_rfl) _ rfl ?_ | refine hL.ld 3 rfl (by kernel_rfl) _ rfl ?_ | refine hL.ld 4 rfl (by kernel_rfl) _ rfl ?_ | refine hL.ld 5 rfl (by kernel_rfl) _ rfl ?_ | refine hL.ld 6 rfl (by kernel_rfl) _ rfl ?_ | refine hL.ld 7 rfl (by kernel_rfl) _ rfl ?_ | refine hL.lda 0 rfl (by kernel_rfl) _ rfl ?_ | refine hL.lda 1 rfl (by kernel_rfl) _ rfl ?_ | refine hL.lda 2 rfl (by kernel_rfl) _ rfl ?_ | refine hL.lda 3 rfl (by kernel_rfl) _ rfl ?_ | refine hL.lda 4 rfl (by kernel_rfl) _ rfl ?_ | refine hL.lda 5 rfl (by kernel_rfl) _ rfl ?_ | refine hL.lda 6 rfl (by kernel_rfl) _ rfl ?_ | refine hL.lda 7 rfl (by kernel_rfl) _ rfl ?_) | (first | refine hLo.ld 0 rfl (by kernel_rfl) _ rfl ?_ | refine hLo.ld 1 rfl (by kernel_rfl) _ rfl ?_ | refine hLo.ld 2 rfl (by kernel_rfl) _ rfl ?_ | refine hLo.ld 3 rfl (by kernel_rfl) _ rfl ?_ | refine hLo.ld 4 rfl (by kernel_rfl) _ rfl ?_ | refine hLo.ld 5 rfl (by kernel_rfl) _ rfl ?_ | refine hLo.ld 6 rfl (by kernel_rfl) _ rfl ?_ | refine hLo.ld 7 rfl (by kernel_rfl) _ rfl ?_ | refine hLo.lda 0 rfl (by kernel_rfl) _ rfl ?_ | refine hLo.lda 1 rfl (by kernel_rfl) _ rfl ?_ | refine hLo.lda 2 rfl (by kernel_rfl) _ rfl ?_ | refine hLo.lda 3 rfl (by kernel_rfl) _ rfl ?_ | refine hLo.lda 4 rfl (by kernel_rfl) _ rfl ?_ | refine hLo.lda 5 rfl (by kernel_rfl) _ rfl ?_ | refine hLo.lda 6 rfl (by kernel_rfl) _ rfl ?_ | refine hLo.lda 7 rfl (by kernel_rfl) _ rfl ?_))
      exact ⟨true, eqCnt _ st'.c, rfl⟩
    · refine loopW_ind (fun q (y : Int) S' => ∃ j : Nat, y = j ∧ j ≤ st.l.length ∧ q = st.l.length - j ∧ ∃ S0 L, Cx (fun c => c = b1 ∨ c ∈ own) S0 S' (L ++ [(b1, boxO x)]) (fun c => c ∈ own' ∨ (c ∈ blk s2 ∨ c ∈ ow)) (fun S => BagIs S b6 st' own' ∧ LsR S6.next s2 fl st.l ow S)) (m := st.l.length) ⟨0, rfl, by omega, rfl, S6, [(b10, _)], hL⟩ ?_
      rintro P2 q2' y S16 ⟨j, rfl, hj, rfl, S0, L, hL⟩ hP2
      rw [hlsl]
      refine ifW_dec (fun hlt => ?_) fun hlt => rfl
      have hj3 : j < st.l.length := by omega
      have hL := hL.tl L.length
      rw [List.drop_left] at hL
      rw [← hlsl]
      refine ls_n hL.p.2 hj3 ?_
      refine evC_of (b36 hL.p.1 ok' fun df of S17 g17 f17 e17 => ⟨(fltOf (findS st' st.l[j].1).1 df, (findS st' st.l[j].1).2), rfl, ?_⟩)
      have hn17 := e17.next
      have hL : Cx (fun c => c = b1 ∨ c ∈ own) S0 S17 [(b1, boxO x)] (fun c => (c ∈ own' ∨ (c ∈ blk s2 ∨ c ∈ ow)) ∨ c ∈ of) (fun S => (BagIs S b6 st' own' ∧ LsR S6.next s2 fl st.l ow S) ∧ DatB S df (findS st' st.l[j].1).1.2.2.2.1 of) :=
        hL.op e17 (fun _ h => h.elim) (fun _ h => h.elim) ⟨⟨hL.p.1.ext e17, ⟨e17.grX hL.p.2.1 fun _ _ _ h => h, hL.p.2.2.mod e17.kp fun _ _ h => h⟩⟩, g17⟩ (Frm.and (Frm.and BagIs.frm LsR.frm) (Frm.dat fun c hc => hc)) (fun c hc => hc.imp id (f17 c)) (fun c hc => hc.elim (fun hc => by have := hL.lt c hc; omega) fun hc => g17.lt hc)
      refine hL.new fun b15 S18 hL hb15 hn18 => ?_
      have hfnd : st.l[j].1 ≠ x.2.1 → findS st' st.l[j].1 = (st.l[j], true) := fun hne => srt'.mem (ask.oth _ (List.getElem_mem _) hne)
      have hst : ∀ {k : St → Prop}, (∀ S', Cx (fun c => c = b1 ∨ c ∈ own) S0 S' [(b15, .cells (cellsF (fltOf (findS st' st.l[j].1).1 df)) none false none), (b1, boxO x)] (fun c => (c ∈ own' ∨ (c ∈ blk s2 ∨ c ∈ ow)) ∨ c ∈ of) (fun S => (BagIs S b6 st' own' ∧ LsR S6.next s2 fl st.l ow S) ∧ DatB S df (findS st' st.l[j].1).1.2.2.2.1 of) → k S') → evS (storeV E0 S18 67 (.pointer (some ⟨b15, 0, none⟩)) (sv G66 (fltOf (findS st' st.l[j].1).1 df))) k := by
        intro k hk
        (first | refine hL.st 0 _ rfl (by kernel_rfl) rfl (Nat.le_of_ble_eq_true rfl) rfl rfl fun S' hL hn' => ?_ | refine hL.st 1 _ rfl (by kernel_rfl) rfl (Nat.le_of_ble_eq_true rfl) rfl rfl fun S' hL hn' => ?_ | refine hL.st 2 _ rfl (by kernel_rfl) rfl (Nat.le_of_ble_eq_true rfl) rfl rfl fun S' hL hn' => ?_ | refine hL.st 3 _ rfl (by kernel_rfl) rfl (Nat.le_of_ble_eq_true rfl) rfl rfl fun S' hL hn' => ?_ | refine hL.st 4 _ rfl (by kernel_rfl) rfl (Nat.le_of_ble_eq_true rfl) rfl rfl fun S' hL hn' => ?_ | refine hL.st 5 _ rfl (by kernel_rfl) rfl (Nat.le_of_ble_eq_true rfl) rfl rfl fun S' hL hn' => ?_ | refine hL.st 6 _ rfl (by kernel_rfl) rfl (Nat.le_of_ble_eq_true rfl) rfl rfl fun S' hL hn' => ?_ | refine hL.st 7 _ rfl (by kernel_rfl) rfl (Nat.le_of_ble_eq_true rfl) rfl rfl fun S' hL hn' => ?_)
        exact hk _ hL
      refine hst fun S19 hL => ?_
      refine ls_n hL.p.1.2 hj3 ?_
      refine ptrW_of ?_
      refine evV_of x.2.1 (load_one (hL.at 1 rfl) (by kernel_rfl)) ?_
      have next : ∀ {S' : St} {L : List (Nat × DObj)} {OQ : Nat → Prop} {Q : St → Prop}, Cx (fun c => c = b1 ∨ c ∈ own) S0 S' (L ++ [(b1, boxO x)]) (fun c => (c ∈ own' ∨ (c ∈ blk s2 ∨ c ∈ ow)) ∨ OQ c) (fun S => (BagIs S b6 st' own' ∧ LsR S6.next s2 fl st.l ow S) ∧ Q S) → P2 (wrapI .i64 ((j : Int) + 1)) S' := by
        intro S' L OQ Q hL
        rw [wrap_succ (by omega)]
        exact hP2 _ _ _ (by omega) ⟨j + 1, rfl, by omega, rfl, S0, L, hL.as hL.p.1 (Frm.and BagIs.frm LsR.frm) (fun c hc => .inl hc)⟩
      refine ifW_ndec (fun hne => ?_) fun _ => next (L := [(b15, _)]) hL
      rw [hfnd hne] at hL ⊢
      refine ifW_of (fun h => by cases h) fun _ => ?_
      refine evV_of (ty := TT.one (Ty.agg G66)) (fltOf st.l[j] df) (load_agg (hL.at 0 rfl) (n := 5) (by kernel_rfl) rfl rfl) ?_
      refine ls_all hL.p.1.2 hj3 fun d' o' hd' => ?_
      refine evC_of (b37 (p := st.l[j]) hL.p.2.tx hd'.tx fun S20 e20 => ⟨_, rfl, ?_⟩)
      refine ifW_of (fun h => by cases h) fun _ => ?_
      exact next (L := [(b15, _)]) (hL.ext e20)
  have one : ∀ {S12 : St} {st' : BagS} {own' : List Nat} {e : Int}, BagIs S12 b6 st' own' → (∀ c ∈ own', c ∈ own ∨ S11.next ≤ c) → Mod (fun c => c ∈ own) S11 S12 → BagOk (700 * n + 2) st' → Srt st' → Asked st st' x.2.1 e → k3 e S12 := by
    intro S12 st' own' e g1 g2 g3 g4 g5 g6
    have hn := g3.next
    refine hJ S12 st' own' e (hL.op g3 (fun c hc => .inl hc) (fun c hc _ => .inr hc) ⟨g1, ?_⟩ (Frm.and BagIs.frm LsR.frm) (fun c hc => ?_) (fun c hc => ?_)) g4 g5 g6
    · exact LsR.frm _ _ _ g3.kp (fun c hc h => sepL c hc h) hL.p.2
    · rcases hc with hc | hc
      · exact (g2 c hc).imp .inl id
      · exact .inl (.inr hc)
    · rcases hc with hc | hc
      · exact g1.lt hc
      · have := hL.lt c (.inr hc); omega
  obtain ⟨x1, x2, x3, x4, x5, x6⟩ := x
  repeat (first | refine ptrW_of ?_ | refine sameV_of ?_ | (first | refine hL.ld 0 rfl (by kernel_rfl) _ rfl ?_ | refine hL.ld 1 rfl (by kernel_rfl) _ rfl ?_ | refine hL.ld 2 rfl (by kernel_rfl) _ rfl ?_ | refine hL.ld 3 rfl (by kernel_rfl) _ rfl ?_ | refine hL.ld 4 rfl (by kernel_rfl) _ rfl ?_ | refine hL.ld 5 rfl (by kernel_rfl) _ rfl ?_ | refine hL.ld 6 rfl (by kernel_rfl) _ rfl ?_ | refine hL.ld 7 rfl (by kernel_rfl) _ rfl ?_ | refine hL.lda 0 rfl (by kernel_rfl) _ rfl ?_ | refine hL.lda 1 rfl (by kernel_rfl) _ rfl ?_ | refine hL.lda 2 rfl (by kernel_rfl) _ rfl ?_ | refine hL.lda 3 rfl (by kernel_rfl) _ rfl ?_ | refine hL.lda 4 rfl (by kernel_rfl) _ rfl ?_ | refine hL.lda 5 rfl (by kernel_rfl) _ rfl ?_ | refine hL.lda 6 rfl (by kernel_rfl) _ rfl ?_ | refine hL.lda 7 rfl (by kernel_rfl) _ rfl ?_) | (first | refine hLo.ld 0 rfl (by kernel_rfl) _ rfl ?_ | refine hLo.ld 1 rfl (by kernel_rfl) _ rfl ?_ | refine hLo.ld 2 rfl (by kernel_rfl) _ rfl ?_ | refine hLo.ld 3 rfl (by kernel_rfl) _ rfl ?_ | refine hLo.ld 4 rfl (by kernel_rfl) _ rfl ?_ | refine hLo.ld 5 rfl (by kernel_rfl) _ rfl ?_ | refine hLo.ld 6 rfl (by kernel_rfl) _ rfl ?_ | refine hLo.ld 7 rfl (by kernel_rfl) _ rfl ?_ | refine hLo.lda 0 rfl (by kernel_rfl) _ rfl ?_ | refine hLo.lda 1 rfl (by kernel_rfl) _ rfl ?_ | refine hLo.lda 2 rfl (by kernel_rfl) _ rfl ?_ | refine hLo.lda 3 rfl (by kernel_rfl) _ rfl ?_ | refine hLo.lda 4 rfl (by kernel_rfl) _ rfl ?_ | refine hLo.lda 5 rfl (by kernel_rfl) _ rfl ?_ | refine hLo.lda 6 rfl (by kernel_rfl) _ rfl ?_ | refine hLo.lda 7 rfl (by kernel_rfl) _ rfl ?_))
  refine ifW_dec (fun h0 => ?_) fun h0 => ?_
  · repeat (first | refine ptrW_of ?_ | refine sameV_of ?_ | (first | refine hL.ld 0 rfl (by kernel_rfl) _ rfl ?_ | refine hL.ld 1 rfl (by kernel_rfl) _ rfl ?_ | refine hL.ld 2 rfl (by kernel_rfl) _ rfl ?_ | refine hL.ld 3 rfl (by kernel_rfl) _ rfl ?_ | refine hL.ld 4 rfl (by kernel_rfl) _ rfl ?_ | refine hL.ld 5 rfl (by kernel_rfl) _ rfl ?_ | refine hL.ld 6 rfl (by kernel_rfl) _ rfl ?_ | refine hL.ld 7 rfl (by kernel_rfl) _ rfl ?_ | refine hL.lda 0 rfl (by kernel_rfl) _ rfl ?_ | refine hL.lda 1 rfl (by kernel_rfl) _ rfl ?_ | refine hL.lda 2 rfl (by kernel_rfl) _ rfl ?_ | refine hL.lda 3 rfl (by kernel_rfl) _ rfl ?_ | refine hL.lda 4 rfl (by kernel_rfl) _ rfl ?_ | refine hL.lda 5 rfl (by kernel_rfl) _ rfl ?_ | refine hL.lda 6 rfl (by kernel_rfl) _ rfl ?_ | refine hL.lda 7 rfl (by kernel_rfl) _ rfl ?_) | (first | refine hLo.ld 0 rfl (by kernel_rfl) _ rfl ?_ | refine hLo.ld 1 rfl (by kernel_rfl) _ rfl ?_ | refine hLo.ld 2 rfl (by kernel_rfl) _ rfl ?_ | refine hLo.ld 3 rfl (by kernel_rfl) _ rfl ?_ | refine hLo.ld 4 rfl (by kernel_rfl) _ rfl ?_ | refine hLo.ld 5 rfl (by kernel_rfl) _ rfl ?_ | refine hLo.ld 6 rfl (by kernel_rfl) _ rfl ?_ | refine hLo.ld 7 rfl (by kernel_rfl) _ rfl ?_ | refine hLo.lda 0 rfl (by kernel_rfl) _ rfl ?_ | refine hLo.lda 1 rfl (by kernel_rfl) _ rfl ?_ | refine hLo.lda 2 rfl (by kernel_rfl) _ rfl ?_ | refine hLo.lda 3 rfl (by kernel_rfl) _ rfl ?_ | refine hLo.lda 4 rfl (by kernel_rfl) _ rfl ?_ | refine hLo.lda 5 rfl (by kernel_rfl) _ rfl ?_ | refine hLo.lda 6 rfl (by kernel_rfl) _ rfl ?_ | refine hLo.lda 7 rfl (by kernel_rfl) _ rfl ?_))
    exact evC_of (b27 hL.p.1 ok (by omega) fun own' d' o' S' a1 _ a2 _ a3 => ⟨(_, _), rfl, one a1 a2 a3 ((takeS_ok ok _ (.inl rfl)).mono (by omega)) (takeS_srt srt _ _) (takeS_asked _ _ _)⟩)
  refine ifW_dec (fun h0 => ?_) fun h0 => ?_
  · repeat (first | refine ptrW_of ?_ | refine sameV_of ?_ | (first | refine hL.ld 0 rfl (by kernel_rfl) _ rfl ?_ | refine hL.ld 1 rfl (by kernel_rfl) _ rfl ?_ | refine hL.ld 2 rfl (by kernel_rfl) _ rfl ?_ | refine hL.ld 3 rfl (by kernel_rfl) _ rfl ?_ | refine hL.ld 4 rfl (by kernel_rfl) _ rfl ?_ | refine hL.ld 5 rfl (by kernel_rfl) _ rfl ?_ | refine hL.ld 6 rfl (by kernel_rfl) _ rfl ?_ | refine hL.ld 7 rfl (by kernel_rfl) _ rfl ?_ | refine hL.lda 0 rfl (by kernel_rfl) _ rfl ?_ | refine hL.lda 1 rfl (by kernel_rfl) _ rfl ?_ | refine hL.lda 2 rfl (by kernel_rfl) _ rfl ?_ | refine hL.lda 3 rfl (by kernel_rfl) _ rfl ?_ | refine hL.lda 4 rfl (by kernel_rfl) _ rfl ?_ | refine hL.lda 5 rfl (by kernel_rfl) _ rfl ?_ | refine hL.lda 6 rfl (by kernel_rfl) _ rfl ?_ | refine hL.lda 7 rfl (by kernel_rfl) _ rfl ?_) | (first | refine hLo.ld 0 rfl (by kernel_rfl) _ rfl ?_ | refine hLo.ld 1 rfl (by kernel_rfl) _ rfl ?_ | refine hLo.ld 2 rfl (by kernel_rfl) _ rfl ?_ | refine hLo.ld 3 rfl (by kernel_rfl) _ rfl ?_ | refine hLo.ld 4 rfl (by kernel_rfl) _ rfl ?_ | refine hLo.ld 5 rfl (by kernel_rfl) _ rfl ?_ | refine hLo.ld 6 rfl (by kernel_rfl) _ rfl ?_ | refine hLo.ld 7 rfl (by kernel_rfl) _ rfl ?_ | refine hLo.lda 0 rfl (by kernel_rfl) _ rfl ?_ | refine hLo.lda 1 rfl (by kernel_rfl) _ rfl ?_ | refine hLo.lda 2 rfl (by kernel_rfl) _ rfl ?_ | refine hLo.lda 3 rfl (by kernel_rfl) _ rfl ?_ | refine hLo.lda 4 rfl (by kernel_rfl) _ rfl ?_ | refine hLo.lda 5 rfl (by kernel_rfl) _ rfl ?_ | refine hLo.lda 6 rfl (by kernel_rfl) _ rfl ?_ | refine hLo.lda 7 rfl (by kernel_rfl) _ rfl ?_))
    exact evC_of (b29 hL.p.1 ok (by omega) fun own' S' a1 a2 a3 => ⟨_, rfl, one a1 a2 a3 ((takeS_ok ok _ (.inr rfl)).mono (by omega)) (takeS_srt srt _ _) (takeS_asked _ _ _)⟩)
  refine ifW_dec (fun h0 => ?_) fun h0 => ?_
  · repeat (first | refine ptrW_of ?_ | refine sameV_of ?_ | (first | refine hL.ld 0 rfl (by kernel_rfl) _ rfl ?_ | refine hL.ld 1 rfl (by kernel_rfl) _ rfl ?_ | refine hL.ld 2 rfl (by kernel_rfl) _ rfl ?_ | refine hL.ld 3 rfl (by kernel_rfl) _ rfl ?_ | refine hL.ld 4 rfl (by kernel_rfl) _ rfl ?_ | refine hL.ld 5 rfl (by kernel_rfl) _ rfl ?_ | refine hL.ld 6 rfl (by kernel_rfl) _ rfl ?_ | refine hL.ld 7 rfl (by kernel_rfl) _ rfl ?_ | refine hL.lda 0 rfl (by kernel_rfl) _ rfl ?_ | refine hL.lda 1 rfl (by kernel_rfl) _ rfl ?_ | refine hL.lda 2 rfl (by kernel_rfl) _ rfl ?_ | refine hL.lda 3 rfl (by kernel_rfl) _ rfl ?_ | refine hL.lda 4 rfl (by kernel_rfl) _ rfl ?_ | refine hL.lda 5 rfl (by kernel_rfl) _ rfl ?_ | refine hL.lda 6 rfl (by kernel_rfl) _ rfl ?_ | refine hL.lda 7 rfl (by kernel_rfl) _ rfl ?_) | (first | refine hLo.ld 0 rfl (by kernel_rfl) _ rfl ?_ | refine hLo.ld 1 rfl (by kernel_rfl) _ rfl ?_ | refine hLo.ld 2 rfl (by kernel_rfl) _ rfl ?_ | refine hLo.ld 3 rfl (by kernel_rfl) _ rfl ?_ | refine hLo.ld 4 rfl (by kernel_rfl) _ rfl ?_ | refine hLo.ld 5 rfl (by kernel_rfl) _ rfl ?_ | refine hLo.ld 6 rfl (by kernel_rfl) _ rfl ?_ | refine hLo.ld 7 rfl (by kernel_rfl) _ rfl ?_ | refine hLo.lda 0 rfl (by kernel_rfl) _ rfl ?_ | refine hLo.lda 1 rfl (by kernel_rfl) _ rfl ?_ | refine hLo.lda 2 rfl (by kernel_rfl) _ rfl ?_ | refine hLo.lda 3 rfl (by kernel_rfl) _ rfl ?_ | refine hLo.lda 4 rfl (by kernel_rfl) _ rfl ?_ | refine hLo.lda 5 rfl (by kernel_rfl) _ rfl ?_ | refine hLo.lda 6 rfl (by kernel_rfl) _ rfl ?_ | refine hLo.lda 7 rfl (by kernel_rfl) _ rfl ?_))
    exact evC_of (b30 hL.p.1 ok (by omega) fun own' S' a1 a2 a3 => ⟨(_, _), rfl, one a1 a2 a3 (doubleS_ok ok _) (doubleS_srt srt _) (doubleS_asked _ _)⟩)
  refine ifW_dec (fun h0 => ?_) fun h0 => ?_
  · repeat (first | refine ptrW_of ?_ | refine sameV_of ?_ | (first | refine hL.ld 0 rfl (by kernel_rfl) _ rfl ?_ | refine hL.ld 1 rfl (by kernel_rfl) _ rfl ?_ | refine hL.ld 2 rfl (by kernel_rfl) _ rfl ?_ | refine hL.ld 3 rfl (by kernel_rfl) _ rfl ?_ | refine hL.ld 4 rfl (by kernel_rfl) _ rfl ?_ | refine hL.ld 5 rfl (by kernel_rfl) _ rfl ?_ | refine hL.ld 6 rfl (by kernel_rfl) _ rfl ?_ | refine hL.ld 7 rfl (by kernel_rfl) _ rfl ?_ | refine hL.lda 0 rfl (by kernel_rfl) _ rfl ?_ | refine hL.lda 1 rfl (by kernel_rfl) _ rfl ?_ | refine hL.lda 2 rfl (by kernel_rfl) _ rfl ?_ | refine hL.lda 3 rfl (by kernel_rfl) _ rfl ?_ | refine hL.lda 4 rfl (by kernel_rfl) _ rfl ?_ | refine hL.lda 5 rfl (by kernel_rfl) _ rfl ?_ | refine hL.lda 6 rfl (by kernel_rfl) _ rfl ?_ | refine hL.lda 7 rfl (by kernel_rfl) _ rfl ?_) | (first | refine hLo.ld 0 rfl (by kernel_rfl) _ rfl ?_ | refine hLo.ld 1 rfl (by kernel_rfl) _ rfl ?_ | refine hLo.ld 2 rfl (by kernel_rfl) _ rfl ?_ | refine hLo.ld 3 rfl (by kernel_rfl) _ rfl ?_ | refine hLo.ld 4 rfl (by kernel_rfl) _ rfl ?_ | refine hLo.ld 5 rfl (by kernel_rfl) _ rfl ?_ | refine hLo.ld 6 rfl (by kernel_rfl) _ rfl ?_ | refine hLo.ld 7 rfl (by kernel_rfl) _ rfl ?_ | refine hLo.lda 0 rfl (by kernel_rfl) _ rfl ?_ | refine hLo.lda 1 rfl (by kernel_rfl) _ rfl ?_ | refine hLo.lda 2 rfl (by kernel_rfl) _ rfl ?_ | refine hLo.lda 3 rfl (by kernel_rfl) _ rfl ?_ | refine hLo.lda 4 rfl (by kernel_rfl) _ rfl ?_ | refine hLo.lda 5 rfl (by kernel_rfl) _ rfl ?_ | refine hLo.lda 6 rfl (by kernel_rfl) _ rfl ?_ | refine hLo.lda 7 rfl (by kernel_rfl) _ rfl ?_))
    exact evC_of (b31 hL.p.1 ok (by omega) fun own' S' a1 a2 a3 => ⟨_, rfl, one a1 a2 a3 ((spoilS_ok ok _ _ _).mono (by omega)) (spoilS_srt srt _ _ _) (spoilS_asked _ _ _ _)⟩)
  exact hJ S11 st own 0 hL (ok.mono (by omega)) srt ⟨fun h => (h rfl).elim, fun p hp _ => hp⟩
end
end Go.Proofs.Ytcookjolkhcjhaa

/- Bags: whatever is done, a bag tells what the document says. -/
namespace Go.Proofs.Ytcookjolkhcjhaa
open Go Go.Proofs.Ytcookjolkhcjhaa.D
set_option linter.unusedVariables false
set_option linter.unusedSimpArgs false
noncomputable section

/-- A byte of a packet is counted up: the packets stay, but for their bytes. -/
theorem pks_bump {S : St} {fl : List Flt} {l : List Pk} {ow : List Nat} (h : Pks S fl l ow) (hn : ow.Nodup) {i : Nat} (hi : i < fl.length) {j : Nat} (hj : j < fl[i].2.2.2.1.len) :
    ∃ b x cs more, fl[i].2.2.2.1.a = some ⟨b, 0, none⟩ ∧ b ∈ ow ∧ At S b (.cells cs more false none) ∧ j < cs.length ∧ cs[j]? = some (.int .u8 x) ∧
      ∀ v : Int, ∃ l', l'.length = l.length ∧ Pks (S.upd b (.cells (cs.take (0 + j * 1) ++ ([Value.int .u8 v] ++ cs.drop (0 + j * 1 + 1))) more false none)) fl l' ow := by
  have hl := h.len
  obtain ⟨fl1, p, d, fl2, l1, l2, ow1, o, ow2, e1, e2, rfl, rfl, rfl, g1, g2, g3⟩ := h.at i (by omega)
  have ex : (fl1 ++ (p.1, p.2.1, p.2.2.1, d, p.2.2.2.2) :: fl2)[i] = (p.1, p.2.1, p.2.2.1, d, p.2.2.2.2) := by
    rw [List.getElem_append_right (by omega)]
    simp [e1]
  rw [ex] at hj ⊢
  dsimp only at hj ⊢
  rcases g2 with ⟨h1, rfl, _⟩ | ⟨b, cap, more, rfl, rfl, hat, hmo⟩
  · cases hj
  have hj : j < p.2.2.2.1.length := hj
  refine ⟨b, p.2.2.2.1.getD j 0, _, more, rfl, by simp, hat, by rw [flatB, List.length_map]; exact hj, ?_, fun v => ?_⟩
  · have := getB hj
    rwa [show 0 + j * 1 = j by omega] at this
  · rw [setB hj]
    have m := upd_mod (S := S) (b := b) (o := .cells ((p.2.2.2.1.set j v).flatMap cellB) more false none)
    have ha := upd_at (o' := .cells ((p.2.2.2.1.set j v).flatMap cellB) more false none) hat
    have n1 : ∀ c ∈ ow1, c ≠ b := fun c hc e => by
      rw [List.nodup_append] at hn
      exact hn.2.2 c hc b (by simp) e
    have n2 : ∀ c ∈ ow2, c ≠ b := fun c hc e => by
      rw [List.nodup_append] at hn
      have := hn.2.1
      simp only [List.singleton_append, List.nodup_cons] at this
      exact this.1 (e ▸ hc)
    refine ⟨l1 ++ (p.1, p.2.1, p.2.2.1, p.2.2.2.1.set j v, p.2.2.2.2) :: l2, by simp, ?_⟩
    refine Pks.app (g1.mod m.kp n1) (Pks.cons (p := (p.1, p.2.1, p.2.2.1, p.2.2.2.1.set j v, p.2.2.2.2)) ?_ (g3.mod m.kp n2))
    refine .inr ⟨b, cap, more, rfl, by simp, ha, ?_⟩
    rcases hmo with h | ⟨h, h'⟩
    · exact .inl h
    · rw [h] at hj; cases hj
theorem ls_d {N : Nat} {S : St} {s : Sl} {fl : List Flt} {l : List Pk} {ow : List Nat} (h : LsR N s fl l ow S) {j : Nat} (hj : j < fl.length) {k : Sl → Prop} (hk : k fl[j].2.2.2.1) : idxW s.a s.len (j : Int) fun b1 b2 => ptrW (some ⟨b1, b2 + Int.toNat (j : Int) * 5, none⟩) fun b3 b4 => evV tS (loadV E0 S 42 (.pointer (some ⟨b3, b4 + 3, none⟩))) k := by
  obtain ⟨h1, h2⟩ := h
  refine (GrX.of (f := cellsF) (sz := 5) (fun _ => rfl) h1).idxL (f := cellsF) (sz := 5) (l := fl) (n := j) (fun _ => rfl) h1.len hj fun b5 o5 cs5 m5 ro5 f5 at5 _ hv5 => ?_
  exact ptrW_of (evV_of fl[j].2.2.2.1 ((load_one at5 (by kernel_rfl)).trans (at_take hv5 (j := 3) (by omega))) hk)
theorem Fls.zero {N : Nat} {S : St} {s : Sl} {fl : List Flt} (h : Fls N S s fl) : Fls 0 S s fl :=
  Or.imp id (fun ⟨b, rest, h1, h2⟩ => ⟨b, rest, Nat.zero_le _, h2⟩) h
theorem find_idx (st : BagS) (n : Int) : leI 0 (idxI st.l n) = (findS st n).2 := by
  rw [leI_eq]
  unfold idxI findS
  cases idxS st.l n with
  | none => rfl
  | some i => simp
theorem s10 {S : St} {s : Sl} {xs : List OpR} (h : SlOf cellsO 6 S s xs) (hd : ∀ x ∈ xs, ∃ d, OpD S x d) : WC E0 10 [.slice s.a s.len s.cap] S fun v _ => v = .bool true := by
  refine w10 s ?_
  unfold c10
  refine evC_of (b25 h ⟨_, rfl, ?_⟩ fun hlen hsm => ⟨_, rfl, ?_⟩)
  · exact ifW_pos (by omega) rfl
  refine ifW_neg (by omega) ?_
  refine newW_of fun b1 S2 hb1 ha1 e1 hn1 => ?_
  refine newW_of fun b2 S3 hb2 ha2 e2 hn2 => ?_
  have e12 := e1.tr e2
  have hl := h.len
  refine loopW_ind (fun q (j : Int) S' => ∃ n : Nat, j = n ∧ n ≤ xs.length ∧ q = xs.length - n ∧ Ext S S' ∧ ∃ st own own2, BagIs S' b1 st own ∧ BagIs S' b2 st own2 ∧ (∀ c ∈ own, c ∉ own2) ∧ (∀ c ∈ own, S.next ≤ c) ∧ (∀ c ∈ own2, S.next ≤ c) ∧ BagOk (700 * n) st ∧ Srt st) (m := xs.length)
    ⟨0, rfl, by omega, rfl, e12, bag0, [b1], [b2], bag0_is (e2.at ha1), bag0_is ha2, by simp; omega, by simp; omega, by simp; omega, bag0_ok, bag0_srt⟩ ?_
  rintro P q j S6 ⟨n, rfl, hn, rfl, e6, st0, own0, own20, q1, q2, hs, f1, f2, ok0, srt0⟩ hP
  rw [hl]
  refine ifW_dec (fun hlt => ?_) fun hlt => rfl
  have hlt3 : n < xs.length := by omega
  refine (Ext.slOf e6 h).idxL (f := cellsO) (sz := 6) (fun _ => rfl) rfl hlt3 fun b0 o0 cs0 m0 r0 f0 at0 _ hv0 => ?_
  refine ⟨xs[n], load_agg at0 (n := 6) (by kernel_rfl) hv0 rfl, ?_⟩
  obtain ⟨d, hdx⟩ := hd xs[n] (List.getElem_mem _)
  have hsz := hsm xs[n] (List.getElem_mem _)
  have hdl : d.length ≤ 60 := by have := hdx.1.len; omega
  have hdlt : ∀ c, SlB xs[n].2.2.2.1 d c → c ∉ own0 ∧ c ∉ own20 := fun c hc => by
    have := hdx.1.lt hc
    exact ⟨fun h => by have := f1 c h; omega, fun h => by have := f2 c h; omega⟩
  refine evC_of (s38 q1 q2 hs ok0 (by omega) srt0 (hdx.ext e6) hdl hsz.2 hdlt fun S7 st own own2 g1 g2 g3 ok srt g6 g7 g8 => ⟨_, rfl, ?_⟩)
  refine ifW_of (fun h => by cases h) fun _ => ?_
  have n6 := e6.next
  have e7 : Ext S S7 := e6.ext g8 fun c hc => by
    rcases hc with hc | hc
    · have := f1 c hc; omega
    · have := f2 c hc; omega
  have hx : ∀ {S' : St}, Ext S7 S' → ∀ {k : Int → Prop}, k xs[n].2.1 → idxW s.a xs.length (n : Int) fun c1 c2 => ptrW (some ⟨c1, c2 + Int.toNat (n : Int) * 6, none⟩) fun c3 c4 => evV tI (loadV E0 S' 3 (.pointer (some ⟨c3, c4 + 1, none⟩))) k := by
    intro S' e k hk
    refine (Ext.slOf (e7.tr e) h).idxL (f := cellsO) (sz := 6) (fun _ => rfl) rfl hlt3 fun b0 o0 cs0 m0 r0 f0 at0 _ hv0 => ?_
    exact ptrW_of (evV_of xs[n].2.1 ((load_one at0 (by kernel_rfl)).trans (at_take hv0 (j := 1) (by omega))) hk)
  refine hx (Mod.refl _ _) ?_
  generalize xs[n].2.1 = nn at hx ⊢
  have hL : Cx noB S7 S7 [] (TwoO own own2 noB) (TwoP b1 b2 st st own own2 (fun _ => True)) :=
    Cx.start _ ⟨⟨g1, g2⟩, trivial⟩ (TwoP.frm Frm.true) (fun c hc => by
      rcases hc with (hc | hc) | hc
      · exact g1.lt hc
      · exact g2.lt hc
      · exact hc.elim)
  refine evC_of (b36 hL.p.1.1 ok fun df of_ S8 g8' f8 e8 => ⟨(fltOf (findS st nn).1 df, (findS st nn).2), rfl, ?_⟩)
  have hn8 := e8.next
  have hL : Cx noB S7 S8 [] (TwoO own own2 (fun c => c ∈ of_)) (TwoP b1 b2 st st own own2 (fun S => DatB S df (findS st nn).1.2.2.2.1 of_)) :=
    hL.op e8 (fun _ h => h.elim) (fun _ h => h.elim) ⟨⟨hL.p.1.1.ext e8, hL.p.1.2.ext e8⟩, g8'⟩ (TwoP.frm (Frm.dat fun c hc => hc)) (fun c hc => hc.elim (fun hc => .inl (.inl hc)) fun hc => .inr (f8 c hc)) (fun c hc => hc.elim (fun hc => by have := hL.lt c (.inl hc); omega) fun hc => g8'.lt hc)
  refine hL.new fun b9 S9 hL hb9 hn9 => ?_
  (first | refine hL.st 0 _ rfl (by kernel_rfl) rfl (Nat.le_of_ble_eq_true rfl) rfl rfl fun S10 hL hn10 => ?_ | refine hL.st 1 _ rfl (by kernel_rfl) rfl (Nat.le_of_ble_eq_true rfl) rfl rfl fun S10 hL hn10 => ?_ | refine hL.st 2 _ rfl (by kernel_rfl) rfl (Nat.le_of_ble_eq_true rfl) rfl rfl fun S10 hL hn10 => ?_ | refine hL.st 3 _ rfl (by kernel_rfl) rfl (Nat.le_of_ble_eq_true rfl) rfl rfl fun S10 hL hn10 => ?_ | refine hL.st 4 _ rfl (by kernel_rfl) rfl (Nat.le_of_ble_eq_true rfl) rfl rfl fun S10 hL hn10 => ?_ | refine hL.st 5 _ rfl (by kernel_rfl) rfl (Nat.le_of_ble_eq_true rfl) rfl rfl fun S10 hL hn10 => ?_ | refine hL.st 6 _ rfl (by kernel_rfl) rfl (Nat.le_of_ble_eq_true rfl) rfl rfl fun S10 hL hn10 => ?_ | refine hL.st 7 _ rfl (by kernel_rfl) rfl (Nat.le_of_ble_eq_true rfl) rfl rfl fun S10 hL hn10 => ?_)
  refine hx hL.mod ?_
  refine evC_of (b39 hL.p.1.2 ok ⟨idxI st.l nn, rfl, ?_⟩)
  refine hL.new fun b14 S11 hL hb14 hn11 => ?_
  (first | refine hL.st 0 _ rfl (by kernel_rfl) rfl (Nat.le_of_ble_eq_true rfl) rfl rfl fun S12 hL hn12 => ?_ | refine hL.st 1 _ rfl (by kernel_rfl) rfl (Nat.le_of_ble_eq_true rfl) rfl rfl fun S12 hL hn12 => ?_ | refine hL.st 2 _ rfl (by kernel_rfl) rfl (Nat.le_of_ble_eq_true rfl) rfl rfl fun S12 hL hn12 => ?_ | refine hL.st 3 _ rfl (by kernel_rfl) rfl (Nat.le_of_ble_eq_true rfl) rfl rfl fun S12 hL hn12 => ?_ | refine hL.st 4 _ rfl (by kernel_rfl) rfl (Nat.le_of_ble_eq_true rfl) rfl rfl fun S12 hL hn12 => ?_ | refine hL.st 5 _ rfl (by kernel_rfl) rfl (Nat.le_of_ble_eq_true rfl) rfl rfl fun S12 hL hn12 => ?_ | refine hL.st 6 _ rfl (by kernel_rfl) rfl (Nat.le_of_ble_eq_true rfl) rfl rfl fun S12 hL hn12 => ?_ | refine hL.st 7 _ rfl (by kernel_rfl) rfl (Nat.le_of_ble_eq_true rfl) rfl rfl fun S12 hL hn12 => ?_)
  intro k3 hk3
  have okl := ok.len
  have hJ : ∀ S13 dw, Cx noB S7 S13 [(b14, .cells (cellsF (fltOf (findS st nn).1 dw)) none false none), (b9, .cells (cellsF (fltOf (findS st nn).1 df)) none false none)] (TwoO own own2 (fun c => c ∈ of_)) (TwoP b1 b2 st st own own2 (fun S => DatB S df (findS st nn).1.2.2.2.1 of_)) → Tx S13 dw (findS st nn).1.2.2.2.1 → k3 PUnit.unit S13 := by
    intro S13 dw hL tx
    refine hk3 _ _ ?_
    have n13 := hL.mod.next
    refine evC_of (b34 hL.p.1.1 ok fun s1 S14 l14 e14 => ⟨s1, rfl, ?_⟩)
    refine evV_of (ty := TT.one (Ty.agg G66)) (fltOf (findS st nn).1 df) (load_agg (e14.at (hL.at 1 rfl)) (n := 5) (by kernel_rfl) rfl rfl) ?_
    refine evV_of (ty := TT.one (Ty.agg G66)) (fltOf (findS st nn).1 dw) (load_agg (e14.at (hL.at 0 rfl)) (n := 5) (by kernel_rfl) rfl rfl) ?_
    obtain ⟨fl, ow, l1, l2, l3, l4⟩ := l14
    have n14 := e14.next
    have hfl : fl.length = st.l.length := l2.len
    have hblk : ∀ c, (c ∈ blk s1 ∨ c ∈ ow) → S13.next ≤ c := fun c hc => hc.elim (fun hc => by obtain ⟨cs, h, h', _⟩ := l1.bk hc; exact h') (l4 c)
    have hd60 : ∀ j (hj : j < fl.length), fl[j].2.2.2.1.len ≤ 60 := fun j hj => by
      obtain ⟨d, o, x1, x2, _⟩ := l2.get j (by omega)
      rw [x1]
      have := x2.of.len
      have := ok.dat _ (List.getElem_mem (show j < st.l.length by omega))
      dsimp only
      omega
    have sep1 : ∀ c ∈ ow, c ∉ blk s1 := fun c hc hb => by
      obtain ⟨x, h, hx⟩ := l2.blk hc
      obtain ⟨cs, h', _, _⟩ := l1.bk hb
      have := at_inj h h'
      subst this
      revert hx
      cases cs <;> simp [isDat]
    have sepL : ∀ c, (c ∈ blk s1 ∨ c ∈ ow) → c ∉ own ∧ c ∉ own2 := fun c hc => by
      have := hblk c hc
      exact ⟨fun h => by have := hL.p.1.1.lt h; omega, fun h => by have := hL.p.1.2.lt h; omega⟩
    refine evC_of (b37 (p := (findS st nn).1) (Ext.tx e14 hL.p.2.tx) (Ext.tx e14 tx) fun S15 e15 => ⟨_, rfl, ?_⟩)
    have e145 := e14.tr e15
    have hL : Cx noB S7 S15 [] (TwoO own own2 (fun c => c ∈ blk s1 ∨ c ∈ ow)) (TwoP b1 b2 st st own own2 (LsR S13.next s1 fl st.l ow)) :=
      (hL.tl 2).op e145 (fun _ h => h.elim) (fun _ h => h.elim) ⟨⟨hL.p.1.1.ext e145, hL.p.1.2.ext e145⟩, e15.kp.grX l1 (fun _ _ _ _ h => h), l2.mod e15.kp fun _ _ h => h⟩ (TwoP.frm LsR.frm) (fun c hc => hc.elim (fun hc => .inl (.inl hc)) fun hc => .inr (hblk c hc)) (fun c hc => by
        have n15 := e15.next
        rcases hc with (hc | hc) | hc
        · have := hL.p.1.1.lt hc; omega
        · have := hL.p.1.2.lt hc; omega
        · have := LsR.lt ⟨l1, l2⟩ hc; omega)
    refine ifW_of (fun h => by cases h) fun _ => ?_
    rw [find_idx]
    refine ⟨true, by cases (findS st nn).2 <;> kernel_rfl, ?_⟩
    refine ifW_of (fun h => by cases h) fun _ => ?_
    refine ptrW_of ?_
    refine ptrW_of ?_
    obtain ⟨s2, fl2, ow2, r1, r2, r3, r4, r5⟩ := hL.p.1.2
    refine evV_of s2 (load_one r1 (by kernel_rfl)) ?_
    refine evC_of (b35 (l := st.l) ⟨fl, ow, hL.p.2.1, hL.p.2.2, l3, l4⟩ ⟨fl2, ow2, Fls.zero r2, r3, r4, fun _ _ => Nat.zero_le _⟩ (by omega) fun S16 e16 => ⟨_, rfl, ?_⟩)
    have hL := hL.ext e16
    have r1 := e16.at r1
    refine ifW_of (fun h => by cases h) fun _ => ?_
    refine evC_of (b33 hL.p.1.1 ⟨_, rfl, ?_⟩)
    refine ptrW_of ?_
    refine ptrW_of ?_
    refine evV_of s2 (load_one r1 (by kernel_rfl)) ?_
    refine evV_of s2 (load_one r1 (by kernel_rfl)) ?_
    refine sameV_of ?_
    refine sameV_of ?_
    have hs2 : s2.len = st.l.length := by rw [r2.len, r3.len]
    rw [hs2]
    refine ifW_ndec (fun h => (h rfl).elim) fun _ => ?_
    refine evC_of (b32 hL.p.1.1 fun S17 e17 => ⟨st.c, rfl, ?_⟩)
    have hL := hL.ext e17
    refine ptrW_of ?_
    refine ptrW_of ?_
    refine evV_of (ty := TT.one (Ty.agg G56)) st.c (load_agg (e17.at r1) (n := 6) (by kernel_rfl) rfl rfl) ?_
    refine evV_of (ty := TT.one (Ty.agg G56)) st.c (load_agg r1 (n := 6) (by kernel_rfl) rfl rfl) ?_
    refine sameV_of ?_
    refine ⟨true, eqCnt _ st.c, ?_⟩
    refine ifW_of (fun h => by cases h) fun _ => ?_
    have hs1 : s1.len = fl.length := l1.len
    rw [hs1]
    refine loopW_ind (fun q (y : Int) S' => ∃ j : Nat, y = j ∧ j ≤ fl.length ∧ q = fl.length - j ∧ ∃ l', Cx noB S7 S' [] (TwoO own own2 (fun c => c ∈ blk s1 ∨ c ∈ ow)) (TwoP b1 b2 st st own own2 (LsR S13.next s1 fl l' ow))) (m := fl.length) ⟨0, rfl, by omega, rfl, st.l, hL⟩ ?_
    rintro P2 q2' y S18 ⟨j, rfl, hj, rfl, l', hL⟩ hP2
    refine ifW_dec (fun hlt => ?_) fun hlt => ?_
    · have hj3 : j < fl.length := by omega
      have h60 := hd60 j hj3
      rw [← hs1]
      refine ls_d hL.p.2 hj3 ?_
      refine loopW_ind (fun q (y : Int) S' => ∃ i : Nat, y = i ∧ i ≤ fl[j].2.2.2.1.len ∧ q = fl[j].2.2.2.1.len - i ∧ ∃ l', Cx noB S7 S' [] (TwoO own own2 (fun c => c ∈ blk s1 ∨ c ∈ ow)) (TwoP b1 b2 st st own own2 (LsR S13.next s1 fl l' ow))) (m := fl[j].2.2.2.1.len) ⟨0, rfl, by omega, rfl, l', hL⟩ ?_
      rintro P3 q3' z S19 ⟨i, rfl, hi, rfl, l', hL⟩ hP3
      refine ifW_dec (fun hlt => ?_) fun hlt => ?_
      · have hi3 : i < fl[j].2.2.2.1.len := by omega
        refine ls_d hL.p.2 hj3 ?_
        refine ls_d hL.p.2 hj3 ?_
        obtain ⟨db, x, cs, more, ea, hdb, hat, hlt, hget, hset⟩ := pks_bump hL.p.2.2 l3 hj3 hi3
        refine ⟨db, 0, ea, by omega, by omega, ?_⟩
        refine evV_of x ((load_one hat (by kernel_rfl)).trans (by rw [show 0 + Int.toNat (i : Int) * 1 = i by omega]; exact hget)) ?_
        refine ⟨db, 0, ea, by omega, by omega, ?_⟩
        obtain ⟨l2', hl2, hpk⟩ := hset (wrapI .u8 (x + 1))
        refine ⟨_, store_cells (n := 1) hat (by kernel_rfl) rfl (by show 0 + i * 1 + 1 ≤ _; omega) rfl, ?_⟩
        show P3 _ (S19.upd db (.cells (cs.take (0 + i * 1) ++ ([Value.int .u8 (wrapI .u8 (x + 1))] ++ cs.drop (0 + i * 1 + 1))) more false none))
        have m8 : Mod (fun c => c = db) S19 (S19.upd db (.cells (cs.take (0 + i * 1) ++ ([Value.int .u8 (wrapI .u8 (x + 1))] ++ cs.drop (0 + i * 1 + 1))) more false none)) := upd_mod
        have hn8 : (S19.upd db (.cells (cs.take (0 + i * 1) ++ ([Value.int .u8 (wrapI .u8 (x + 1))] ++ cs.drop (0 + i * 1 + 1))) more false none)).next = S19.next := rfl
        generalize S19.upd db (.cells (cs.take (0 + i * 1) ++ ([Value.int .u8 (wrapI .u8 (x + 1))] ++ cs.drop (0 + i * 1 + 1))) more false none) = S20 at m8 hn8 hpk ⊢
        rw [wrap_succ (by omega)]
        have hdbn := l4 db hdb
        have hdb7 : S7.next ≤ db := by have := hL.mod.next; omega
        refine hP3 _ _ _ (show fl[j].2.2.2.1.len - (i + 1) < fl[j].2.2.2.1.len - i by omega) ⟨i + 1, rfl, by omega, rfl, l2', ?_⟩
        refine hL.op m8 (fun c hc => .inr (.inr (hc ▸ hdb))) (fun c hc h => by omega) ⟨⟨hL.p.1.1.mod m8.kp fun c hc e => (sepL db (.inr hdb)).1 (e ▸ hc), hL.p.1.2.mod m8.kp fun c hc e => (sepL db (.inr hdb)).2 (e ▸ hc)⟩, m8.kp.grX hL.p.2.1 (fun b _ _ e e' => sep1 db hdb (by simp [blk, e, e'])), hpk⟩ (TwoP.frm LsR.frm) (fun c hc => .inl hc) (fun c hc => by have := hL.lt c hc; omega)
      · rw [wrap_succ (by omega)]
        exact hP2 _ _ _ (by omega) ⟨j + 1, rfl, by omega, rfl, l', hL⟩
    · rw [wrap_succ (by omega)]
      refine hP _ _ _ (by omega) ⟨n + 1, rfl, by omega, rfl, e7.tr hL.mod, st, own, own2, hL.p.1.1, hL.p.1.2, g3, fun c hc => (g6 c hc).elim (f1 c) fun h => by omega, fun c hc => (g7 c hc).elim (f2 c) fun h => by omega, by rw [show 700 * (n + 1) = 700 * n + 700 by omega]; exact ok, srt⟩
  have hi0 := find_idx st nn
  cases hix : idxS st.l nn with
  | none =>
    have hfs : findS st nn = (noPk, false) := by unfold findS; rw [hix]
    rw [hfs] at hi0 hJ hL
    refine ifW_of (fun h0 => by rw [hi0] at h0; cases h0) fun _ => ?_
    exact hJ S12 ⟨none, 0, 0⟩ hL ⟨rfl, .inl ⟨rfl, rfl⟩⟩
  | some i =>
    obtain ⟨hil, _, _⟩ := idxS_lt hix
    have hfs : findS st nn = (st.l[i], true) := by unfold findS; rw [hix]; simp [List.getD_eq_getElem?_getD, hil]
    have hii : idxI st.l nn = (i : Int) := by unfold idxI; rw [hix]
    rw [hfs] at hi0 hJ hL
    refine ifW_of (fun _ => ?_) fun h0 => by rw [hi0] at h0; cases h0
    rw [hii]
    refine ptrW_of ?_
    refine ptrW_of ?_
    obtain ⟨s2, fl2, ow2, r1, r2, r3, r4, r5⟩ := hL.p.1.2
    refine evV_of s2 (load_one r1 (by kernel_rfl)) ?_
    obtain ⟨d2, o2, x1, x2, x3⟩ := r3.get i hil
    have hfl2 := r3.len
    refine (GrX.of (f := cellsF) (sz := 5) (fun _ => rfl) r2).idxL (f := cellsF) (sz := 5) (l := fl2) (n := i) (fun _ => rfl) r2.len (by omega) fun b5 o5 cs5 m5 ro5 f5 at5 _ hv5 => ?_
    rw [x1] at hv5
    refine evV_of (ty := TT.one (Ty.agg G66)) (fltOf st.l[i] d2) (load_agg at5 (n := 5) (by kernel_rfl) hv5 rfl) ?_
    have tx2 := x2.tx
    have hst : ∀ {k : St → Prop}, (∀ S', Cx noB S7 S' [(b14, .cells (cellsF (fltOf st.l[i] d2)) none false none), (b9, .cells (cellsF (fltOf st.l[i] df)) none false none)] (TwoO own own2 (fun c => c ∈ of_)) (TwoP b1 b2 st st own own2 (fun S => DatB S df st.l[i].2.2.2.1 of_)) → BagIs S' b2 st own2 → Tx S' d2 st.l[i].2.2.2.1 → k S') → evS (storeV E0 S12 67 (.pointer (some ⟨b14, 0, none⟩)) (sv G66 (fltOf st.l[i] d2))) k := by
      intro k hk
      have hat := hL.at 0 rfl
      refine ⟨_, store_cells (n := 5) hat (by kernel_rfl) rfl (Nat.le_of_ble_eq_true rfl) rfl, ?_⟩
      have hL' := hL.set 0 rfl upd_mod (upd_at (o' := .cells (cellsF (fltOf st.l[i] d2)) none false none) hat)
      refine hk _ hL' hL'.p.1.2 (Kp.tx (upd_mod (S := S12) (b := b14)).kp tx2 fun b o e e' => ?_)
      have hlt := hL.sep _ (List.mem_cons_self ..)
      refine hlt (.inl (.inr ?_))
      rw [r5]
      rcases x2 with ⟨_, rfl, _⟩ | ⟨b', cap, more, rfl, rfl, _, _⟩
      · cases e
      · cases e
        have hbb := x3 b (by simp)
        rw [show b = b14 from e'] at hbb
        exact List.mem_cons_of_mem _ (List.mem_append_right _ hbb)
    refine hst fun S13 hL _ tx => ?_
    exact hJ S13 d2 hL tx
end
end Go.Proofs.Ytcookjolkhcjhaa
