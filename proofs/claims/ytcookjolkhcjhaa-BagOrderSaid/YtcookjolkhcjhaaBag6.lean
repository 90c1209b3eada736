/- Bags: a packet comes. -/
import Derived.Test.YtcookjolkhcjhaaBag5
namespace Go.Proofs.Ytcookjolkhcjhaa
open Go Go.Proofs.Ytcookjolkhcjhaa.D
set_option linter.unusedVariables false
set_option linter.unusedSimpArgs false
noncomputable section

theorem Fls.add {N : Nat} {S : St} {s : Sl} {l : List Flt} (h : Fls N S s l) {b : Nat} {v : Flt} (hat : At S b (.cells (cellsF v) none false none)) (hl : l.length ≤ 256)
    {k : Sl → St → Prop} (hk : ∀ s' S', Fls N S' s' (l ++ [v]) → Mod (fun b => N ≤ b ∧ s.a = some ⟨b, 0, none⟩) S S' → (s'.a = s.a ∨ ∃ b, s'.a = some ⟨b, 0, none⟩ ∧ S.next ≤ b) → k s' S') (hN : N ≤ S.next) :
    evP tS (appendD E0 S 55 55 (.slice s.a s.len s.cap) (.slice (some ⟨b, 0, none⟩) 1 1)) k := by
  have hx : firstD S 5 1 (.slice (some ⟨b, 0, none⟩) 1 1) = some ([v].flatMap cellsF) := by
    simp only [firstD, St.loadN, hat.get]
    rfl
  have hb3 : (l.length + [v].length) * 5 < inex := by
    have : (l.length + [v].length) * 5 ≤ 2000 := by simp; omega
    exact Nat.lt_of_le_of_lt this (by decide)
  exact GrX.append (f := cellsF) (sz := 5) (vs := [v]) (fun _ => rfl) (by omega) h und55 inf67 und55 rfl (by kernel_rfl) zero67 rfl rfl hx (oneF [v]) (by rw [bytes67]; simp; omega) (by simp; omega) (by simp) hb3 hk hN
theorem hld_one {S : St} {b : Nat} {o : DObj} (h : At S b o) : Hld (fun c => c = b) S S [(b, o)] :=
  ⟨Mod.refl _ _, fun p hp => by simp only [List.mem_cons, List.not_mem_nil, or_false] at hp; subst hp; exact ⟨h, .inr rfl⟩, by simp⟩
theorem s52full {N bb : Nat} {S : St} {s : Sl} {fl : List Flt} {last : Int} {c : Cnt} {x : Flt} {k : Value → St → Prop} (hb : At S bb (bagO s last c)) (hs : Fls N S s fl) (hlen : 256 ≤ fl.length)
    (hk : ∀ S', At S' bb (bagO s last (c.1, c.2.1, c.2.2.1, c.2.2.2.1, c.2.2.2.2.1, wrapI .i64 (c.2.2.2.2.2 + 1))) → Mod (fun b => b = bb) S S' → k (.int .i64 0) S') : WC E0 52 [.pointer (some ⟨bb, 0, none⟩), sv G66 x] S k := by
  refine w52 _ x ?_
  unfold c52
  have hL := hld_one hb
  refine hL.new fun b1 S1 hL hb1 hn1 => ?_
  refine ptrW_of (ptrW_of ?_)
  (first | refine hL.ld 0 rfl (by kernel_rfl) _ rfl ?_ | refine hL.ld 1 rfl (by kernel_rfl) _ rfl ?_ | refine hL.ld 2 rfl (by kernel_rfl) _ rfl ?_ | refine hL.ld 3 rfl (by kernel_rfl) _ rfl ?_ | refine hL.ld 4 rfl (by kernel_rfl) _ rfl ?_ | refine hL.ld 5 rfl (by kernel_rfl) _ rfl ?_ | refine hL.ld 6 rfl (by kernel_rfl) _ rfl ?_ | refine hL.ld 7 rfl (by kernel_rfl) _ rfl ?_ | refine hL.lda 0 rfl (by kernel_rfl) _ rfl ?_ | refine hL.lda 1 rfl (by kernel_rfl) _ rfl ?_ | refine hL.lda 2 rfl (by kernel_rfl) _ rfl ?_ | refine hL.lda 3 rfl (by kernel_rfl) _ rfl ?_ | refine hL.lda 4 rfl (by kernel_rfl) _ rfl ?_ | refine hL.lda 5 rfl (by kernel_rfl) _ rfl ?_ | refine hL.lda 6 rfl (by kernel_rfl) _ rfl ?_ | refine hL.lda 7 rfl (by kernel_rfl) _ rfl ?_)
  refine ifW_pos (by rw [hs.len]; omega) ?_
  refine ptrW_of (ptrW_of (ptrW_of ?_))
  (first | refine hL.ld 0 rfl (by kernel_rfl) _ rfl ?_ | refine hL.ld 1 rfl (by kernel_rfl) _ rfl ?_ | refine hL.ld 2 rfl (by kernel_rfl) _ rfl ?_ | refine hL.ld 3 rfl (by kernel_rfl) _ rfl ?_ | refine hL.ld 4 rfl (by kernel_rfl) _ rfl ?_ | refine hL.ld 5 rfl (by kernel_rfl) _ rfl ?_ | refine hL.ld 6 rfl (by kernel_rfl) _ rfl ?_ | refine hL.ld 7 rfl (by kernel_rfl) _ rfl ?_ | refine hL.lda 0 rfl (by kernel_rfl) _ rfl ?_ | refine hL.lda 1 rfl (by kernel_rfl) _ rfl ?_ | refine hL.lda 2 rfl (by kernel_rfl) _ rfl ?_ | refine hL.lda 3 rfl (by kernel_rfl) _ rfl ?_ | refine hL.lda 4 rfl (by kernel_rfl) _ rfl ?_ | refine hL.lda 5 rfl (by kernel_rfl) _ rfl ?_ | refine hL.lda 6 rfl (by kernel_rfl) _ rfl ?_ | refine hL.lda 7 rfl (by kernel_rfl) _ rfl ?_)
  refine ptrW_of (ptrW_of (ptrW_of ?_))
  (first | refine hL.st 0 _ rfl (by kernel_rfl) rfl (Nat.le_of_ble_eq_true rfl) rfl rfl fun S' hL hn' => ?_ | refine hL.st 1 _ rfl (by kernel_rfl) rfl (Nat.le_of_ble_eq_true rfl) rfl rfl fun S' hL hn' => ?_ | refine hL.st 2 _ rfl (by kernel_rfl) rfl (Nat.le_of_ble_eq_true rfl) rfl rfl fun S' hL hn' => ?_ | refine hL.st 3 _ rfl (by kernel_rfl) rfl (Nat.le_of_ble_eq_true rfl) rfl rfl fun S' hL hn' => ?_ | refine hL.st 4 _ rfl (by kernel_rfl) rfl (Nat.le_of_ble_eq_true rfl) rfl rfl fun S' hL hn' => ?_ | refine hL.st 5 _ rfl (by kernel_rfl) rfl (Nat.le_of_ble_eq_true rfl) rfl rfl fun S' hL hn' => ?_ | refine hL.st 6 _ rfl (by kernel_rfl) rfl (Nat.le_of_ble_eq_true rfl) rfl rfl fun S' hL hn' => ?_ | refine hL.st 7 _ rfl (by kernel_rfl) rfl (Nat.le_of_ble_eq_true rfl) rfl rfl fun S' hL hn' => ?_)
  exact hk _ (hL.at 1 rfl) hL.mod
theorem hld_mono {F F' : Nat → Prop} {S0 S : St} {L : List (Nat × DObj)} (h : Hld F S0 S L) (hf : ∀ c, F c → F' c) : Hld F' S0 S L :=
  ⟨h.mod.mono fun c hc _ => hf c hc, fun p hp => ⟨(h.all p hp).1, (h.all p hp).2.imp id (hf _)⟩, h.dis⟩
theorem s52 {N bb : Nat} {S : St} {s : Sl} {fl : List Flt} {last : Int} {c : Cnt} {x : Flt} {l : List Int} {k : Value → St → Prop} (hb : At S bb (bagO s last c)) (hs : Fls N S s fl) (hbN : bb < N) (hN : N ≤ S.next) (hlen : fl.length < 256) (hlast : 0 ≤ last ∧ last < 1000000000)
    (hd : SlOf cellB 1 S x.2.2.2.1 l) (hsp : ∀ a, x.2.2.2.1.a = some a → a.spot = none) (hne : l ≠ [] → ∀ b o, x.2.2.2.1.a = some ⟨b, o, none⟩ → b ≠ bb) (hl : l.length ≤ 1000000)
    (hk : ∀ s' d S', (s'.a = s.a ∨ ∃ b, s'.a = some ⟨b, 0, none⟩ ∧ S.next ≤ b) → At S' bb (bagO s' (last + 1) c) → Fls N S' s' (fl ++ [(last + 1, x.2.1, x.2.2.1, d, x.2.2.2.2)]) → Dat S.next S' d l → Mod (fun b => b = bb ∨ N ≤ b ∧ s.a = some ⟨b, 0, none⟩) S S' → k (.int .i64 (last + 1)) S') : WC E0 52 [.pointer (some ⟨bb, 0, none⟩), sv G66 x] S k := by
  refine w52 _ x ?_
  unfold c52
  have hL := hld_one hb
  refine hL.new fun b1 S1 hL hb1 hn1 => ?_
  refine ptrW_of (ptrW_of ?_)
  (first | refine hL.ld 0 rfl (by kernel_rfl) _ rfl ?_ | refine hL.ld 1 rfl (by kernel_rfl) _ rfl ?_ | refine hL.ld 2 rfl (by kernel_rfl) _ rfl ?_ | refine hL.ld 3 rfl (by kernel_rfl) _ rfl ?_ | refine hL.ld 4 rfl (by kernel_rfl) _ rfl ?_ | refine hL.ld 5 rfl (by kernel_rfl) _ rfl ?_ | refine hL.ld 6 rfl (by kernel_rfl) _ rfl ?_ | refine hL.ld 7 rfl (by kernel_rfl) _ rfl ?_ | refine hL.lda 0 rfl (by kernel_rfl) _ rfl ?_ | refine hL.lda 1 rfl (by kernel_rfl) _ rfl ?_ | refine hL.lda 2 rfl (by kernel_rfl) _ rfl ?_ | refine hL.lda 3 rfl (by kernel_rfl) _ rfl ?_ | refine hL.lda 4 rfl (by kernel_rfl) _ rfl ?_ | refine hL.lda 5 rfl (by kernel_rfl) _ rfl ?_ | refine hL.lda 6 rfl (by kernel_rfl) _ rfl ?_ | refine hL.lda 7 rfl (by kernel_rfl) _ rfl ?_)
  refine ifW_neg (by rw [hs.len]; omega) ?_
  refine ptrW_of (ptrW_of ?_)
  (first | refine hL.ld 0 rfl (by kernel_rfl) _ rfl ?_ | refine hL.ld 1 rfl (by kernel_rfl) _ rfl ?_ | refine hL.ld 2 rfl (by kernel_rfl) _ rfl ?_ | refine hL.ld 3 rfl (by kernel_rfl) _ rfl ?_ | refine hL.ld 4 rfl (by kernel_rfl) _ rfl ?_ | refine hL.ld 5 rfl (by kernel_rfl) _ rfl ?_ | refine hL.ld 6 rfl (by kernel_rfl) _ rfl ?_ | refine hL.ld 7 rfl (by kernel_rfl) _ rfl ?_ | refine hL.lda 0 rfl (by kernel_rfl) _ rfl ?_ | refine hL.lda 1 rfl (by kernel_rfl) _ rfl ?_ | refine hL.lda 2 rfl (by kernel_rfl) _ rfl ?_ | refine hL.lda 3 rfl (by kernel_rfl) _ rfl ?_ | refine hL.lda 4 rfl (by kernel_rfl) _ rfl ?_ | refine hL.lda 5 rfl (by kernel_rfl) _ rfl ?_ | refine hL.lda 6 rfl (by kernel_rfl) _ rfl ?_ | refine hL.lda 7 rfl (by kernel_rfl) _ rfl ?_)
  refine ptrW_of (ptrW_of ?_)
  rw [wrap_i64 (by omega) (by omega)]
  (first | refine hL.st 0 _ rfl (by kernel_rfl) rfl (Nat.le_of_ble_eq_true rfl) rfl rfl fun S' hL hn' => ?_ | refine hL.st 1 _ rfl (by kernel_rfl) rfl (Nat.le_of_ble_eq_true rfl) rfl rfl fun S' hL hn' => ?_ | refine hL.st 2 _ rfl (by kernel_rfl) rfl (Nat.le_of_ble_eq_true rfl) rfl rfl fun S' hL hn' => ?_ | refine hL.st 3 _ rfl (by kernel_rfl) rfl (Nat.le_of_ble_eq_true rfl) rfl rfl fun S' hL hn' => ?_ | refine hL.st 4 _ rfl (by kernel_rfl) rfl (Nat.le_of_ble_eq_true rfl) rfl rfl fun S' hL hn' => ?_ | refine hL.st 5 _ rfl (by kernel_rfl) rfl (Nat.le_of_ble_eq_true rfl) rfl rfl fun S' hL hn' => ?_ | refine hL.st 6 _ rfl (by kernel_rfl) rfl (Nat.le_of_ble_eq_true rfl) rfl rfl fun S' hL hn' => ?_ | refine hL.st 7 _ rfl (by kernel_rfl) rfl (Nat.le_of_ble_eq_true rfl) rfl rfl fun S' hL hn' => ?_)
  (first | refine hL.ld 0 rfl (by kernel_rfl) _ rfl ?_ | refine hL.ld 1 rfl (by kernel_rfl) _ rfl ?_ | refine hL.ld 2 rfl (by kernel_rfl) _ rfl ?_ | refine hL.ld 3 rfl (by kernel_rfl) _ rfl ?_ | refine hL.ld 4 rfl (by kernel_rfl) _ rfl ?_ | refine hL.ld 5 rfl (by kernel_rfl) _ rfl ?_ | refine hL.ld 6 rfl (by kernel_rfl) _ rfl ?_ | refine hL.ld 7 rfl (by kernel_rfl) _ rfl ?_ | refine hL.lda 0 rfl (by kernel_rfl) _ rfl ?_ | refine hL.lda 1 rfl (by kernel_rfl) _ rfl ?_ | refine hL.lda 2 rfl (by kernel_rfl) _ rfl ?_ | refine hL.lda 3 rfl (by kernel_rfl) _ rfl ?_ | refine hL.lda 4 rfl (by kernel_rfl) _ rfl ?_ | refine hL.lda 5 rfl (by kernel_rfl) _ rfl ?_ | refine hL.lda 6 rfl (by kernel_rfl) _ rfl ?_ | refine hL.lda 7 rfl (by kernel_rfl) _ rfl ?_)
  refine evC_of (s58 (hL.mod.slOfN hd fun hl b o he _ h => hne hl b o he h) hsp hl fun d N2 S4 hN2 hdat e4 => ⟨_, rfl, ?_⟩)
  have hL4 := hL.ext e4
  have hSN2 : S.next ≤ N2 := Nat.le_trans hL.mod.next hN2
  have hb1N : b1 < N2 := Nat.lt_of_lt_of_le (hL.at 0 rfl).lt hN2
  have hL := hL4.re
  have hmem : ∀ c, c ∈ [b1, bb] → c = b1 ∨ c = bb := fun c h => by simpa using h
  (first | refine hL.st 0 _ rfl (by kernel_rfl) rfl (Nat.le_of_ble_eq_true rfl) rfl rfl fun S' hL hn' => ?_ | refine hL.st 1 _ rfl (by kernel_rfl) rfl (Nat.le_of_ble_eq_true rfl) rfl rfl fun S' hL hn' => ?_ | refine hL.st 2 _ rfl (by kernel_rfl) rfl (Nat.le_of_ble_eq_true rfl) rfl rfl fun S' hL hn' => ?_ | refine hL.st 3 _ rfl (by kernel_rfl) rfl (Nat.le_of_ble_eq_true rfl) rfl rfl fun S' hL hn' => ?_ | refine hL.st 4 _ rfl (by kernel_rfl) rfl (Nat.le_of_ble_eq_true rfl) rfl rfl fun S' hL hn' => ?_ | refine hL.st 5 _ rfl (by kernel_rfl) rfl (Nat.le_of_ble_eq_true rfl) rfl rfl fun S' hL hn' => ?_ | refine hL.st 6 _ rfl (by kernel_rfl) rfl (Nat.le_of_ble_eq_true rfl) rfl rfl fun S' hL hn' => ?_ | refine hL.st 7 _ rfl (by kernel_rfl) rfl (Nat.le_of_ble_eq_true rfl) rfl rfl fun S' hL hn' => ?_)
  refine ptrW_of (ptrW_of ?_)
  (first | refine hL.ld 0 rfl (by kernel_rfl) _ rfl ?_ | refine hL.ld 1 rfl (by kernel_rfl) _ rfl ?_ | refine hL.ld 2 rfl (by kernel_rfl) _ rfl ?_ | refine hL.ld 3 rfl (by kernel_rfl) _ rfl ?_ | refine hL.ld 4 rfl (by kernel_rfl) _ rfl ?_ | refine hL.ld 5 rfl (by kernel_rfl) _ rfl ?_ | refine hL.ld 6 rfl (by kernel_rfl) _ rfl ?_ | refine hL.ld 7 rfl (by kernel_rfl) _ rfl ?_ | refine hL.lda 0 rfl (by kernel_rfl) _ rfl ?_ | refine hL.lda 1 rfl (by kernel_rfl) _ rfl ?_ | refine hL.lda 2 rfl (by kernel_rfl) _ rfl ?_ | refine hL.lda 3 rfl (by kernel_rfl) _ rfl ?_ | refine hL.lda 4 rfl (by kernel_rfl) _ rfl ?_ | refine hL.lda 5 rfl (by kernel_rfl) _ rfl ?_ | refine hL.lda 6 rfl (by kernel_rfl) _ rfl ?_ | refine hL.lda 7 rfl (by kernel_rfl) _ rfl ?_)
  refine ptrW_of ?_
  (first | refine hL.st 0 _ rfl (by kernel_rfl) rfl (Nat.le_of_ble_eq_true rfl) rfl rfl fun S' hL hn' => ?_ | refine hL.st 1 _ rfl (by kernel_rfl) rfl (Nat.le_of_ble_eq_true rfl) rfl rfl fun S' hL hn' => ?_ | refine hL.st 2 _ rfl (by kernel_rfl) rfl (Nat.le_of_ble_eq_true rfl) rfl rfl fun S' hL hn' => ?_ | refine hL.st 3 _ rfl (by kernel_rfl) rfl (Nat.le_of_ble_eq_true rfl) rfl rfl fun S' hL hn' => ?_ | refine hL.st 4 _ rfl (by kernel_rfl) rfl (Nat.le_of_ble_eq_true rfl) rfl rfl fun S' hL hn' => ?_ | refine hL.st 5 _ rfl (by kernel_rfl) rfl (Nat.le_of_ble_eq_true rfl) rfl rfl fun S' hL hn' => ?_ | refine hL.st 6 _ rfl (by kernel_rfl) rfl (Nat.le_of_ble_eq_true rfl) rfl rfl fun S' hL hn' => ?_ | refine hL.st 7 _ rfl (by kernel_rfl) rfl (Nat.le_of_ble_eq_true rfl) rfl rfl fun S' hL hn' => ?_)
  refine ptrW_of (ptrW_of ?_)
  refine lowVW_ptr (hL.at 1 rfl).lt ?_
  (first | refine hL.ld 0 rfl (by kernel_rfl) _ rfl ?_ | refine hL.ld 1 rfl (by kernel_rfl) _ rfl ?_ | refine hL.ld 2 rfl (by kernel_rfl) _ rfl ?_ | refine hL.ld 3 rfl (by kernel_rfl) _ rfl ?_ | refine hL.ld 4 rfl (by kernel_rfl) _ rfl ?_ | refine hL.ld 5 rfl (by kernel_rfl) _ rfl ?_ | refine hL.ld 6 rfl (by kernel_rfl) _ rfl ?_ | refine hL.ld 7 rfl (by kernel_rfl) _ rfl ?_ | refine hL.lda 0 rfl (by kernel_rfl) _ rfl ?_ | refine hL.lda 1 rfl (by kernel_rfl) _ rfl ?_ | refine hL.lda 2 rfl (by kernel_rfl) _ rfl ?_ | refine hL.lda 3 rfl (by kernel_rfl) _ rfl ?_ | refine hL.lda 4 rfl (by kernel_rfl) _ rfl ?_ | refine hL.lda 5 rfl (by kernel_rfl) _ rfl ?_ | refine hL.lda 6 rfl (by kernel_rfl) _ rfl ?_ | refine hL.lda 7 rfl (by kernel_rfl) _ rfl ?_)
  (first | refine hL.ld 0 rfl (by kernel_rfl) _ rfl ?_ | refine hL.ld 1 rfl (by kernel_rfl) _ rfl ?_ | refine hL.ld 2 rfl (by kernel_rfl) _ rfl ?_ | refine hL.ld 3 rfl (by kernel_rfl) _ rfl ?_ | refine hL.ld 4 rfl (by kernel_rfl) _ rfl ?_ | refine hL.ld 5 rfl (by kernel_rfl) _ rfl ?_ | refine hL.ld 6 rfl (by kernel_rfl) _ rfl ?_ | refine hL.ld 7 rfl (by kernel_rfl) _ rfl ?_ | refine hL.lda 0 rfl (by kernel_rfl) _ rfl ?_ | refine hL.lda 1 rfl (by kernel_rfl) _ rfl ?_ | refine hL.lda 2 rfl (by kernel_rfl) _ rfl ?_ | refine hL.lda 3 rfl (by kernel_rfl) _ rfl ?_ | refine hL.lda 4 rfl (by kernel_rfl) _ rfl ?_ | refine hL.lda 5 rfl (by kernel_rfl) _ rfl ?_ | refine hL.lda 6 rfl (by kernel_rfl) _ rfl ?_ | refine hL.lda 7 rfl (by kernel_rfl) _ rfl ?_)
  have hL6 := hL
  refine hL.quiet fun S7 hL e7 hn7 hl7 => ?_
  refine newW_of fun b10 S8 hb10 ha8 e8 hn8 => ?_
  have hL := hL.ext e8
  refine ⟨Nat.ble_eq_true_of_le ?_, ?_⟩
  · have := e8.low S'.next (by omega) (by omega) (fun _ h => h.elim); exact this
  refine hL6.loud hL (Nat.le_refl _) fun S9 hL h9 hn9 => ?_
  have ha9 : At S9 b10 (.cells (cellsF (last + 1, x.2.1, x.2.2.1, d, x.2.2.2.2)) none false none) := ⟨by rw [h9]; exact ha8.get, by rw [hn9]; exact ha8.lt⟩
  have hblk : ∀ c, N ≤ c → s.a = some ⟨c, 0, none⟩ → c < S.next := by
    intro c h1 h2
    rcases hs with ⟨_, rfl⟩ | ⟨b, rest, h3, rfl, h4, _⟩
    · cases h2
    · cases h2; exact h4.lt
  have m9 : Mod (fun c => c = bb) S S9 := hL4.back hL.mod
  have hs9 : Fls N S9 s fl := m9.grX hs fun b h1 _ h2 => by omega
  have hd9 : Dat N2 S9 d l := mod_dat hL.mod hdat fun b h1 _ h2 => by rcases hmem _ h2 with rfl | rfl <;> omega
  have hL := hld_mono (F' := fun c => c ∈ [b1, bb] ∨ (N ≤ c ∧ s.a = some ⟨c, 0, none⟩)) hL fun c h => .inl h
  refine hs9.add ha9 (by omega) (fun s2 S10 g10 m10 f10 => ?_) (Nat.le_trans hN m9.next)
  have hd10 : Dat N2 S10 d l := mod_dat m10 hd9 fun b h1 _ h2 => by have := hblk b h2.1 h2.2; omega
  have hL := hL.step m10 fun c hc hlt => ⟨.inr (.inr hc), fun p hp => by
    have hcl := hblk c hc.1 hc.2
    have := hc.1
    simp only [List.set_cons_zero, List.set_cons_succ, List.mem_cons, List.not_mem_nil, or_false] at hp
    rcases hp with rfl | rfl <;> (dsimp only; omega)⟩
  have hL10 := hL
  have hbl := hb.lt
  have hL := hld_one (hL10.at 1 rfl)
  refine ptrW_of (ptrW_of ?_)
  (first | refine hL.st 0 _ rfl (by kernel_rfl) rfl (Nat.le_of_ble_eq_true rfl) rfl rfl fun S' hL hn' => ?_ | refine hL.st 1 _ rfl (by kernel_rfl) rfl (Nat.le_of_ble_eq_true rfl) rfl rfl fun S' hL hn' => ?_ | refine hL.st 2 _ rfl (by kernel_rfl) rfl (Nat.le_of_ble_eq_true rfl) rfl rfl fun S' hL hn' => ?_ | refine hL.st 3 _ rfl (by kernel_rfl) rfl (Nat.le_of_ble_eq_true rfl) rfl rfl fun S' hL hn' => ?_ | refine hL.st 4 _ rfl (by kernel_rfl) rfl (Nat.le_of_ble_eq_true rfl) rfl rfl fun S' hL hn' => ?_ | refine hL.st 5 _ rfl (by kernel_rfl) rfl (Nat.le_of_ble_eq_true rfl) rfl rfl fun S' hL hn' => ?_ | refine hL.st 6 _ rfl (by kernel_rfl) rfl (Nat.le_of_ble_eq_true rfl) rfl rfl fun S' hL hn' => ?_ | refine hL.st 7 _ rfl (by kernel_rfl) rfl (Nat.le_of_ble_eq_true rfl) rfl rfl fun S' hL hn' => ?_)
  have m11 := hL.mod
  refine ptrW_of ?_
  refine evV_of (last + 1) (load_one (m11.at (hL10.at 0 rfl) (by omega)) (by kernel_rfl)) ?_
  refine hk s2 d _ (f10.imp id fun ⟨b, h1, h2⟩ => ⟨b, h1, Nat.le_trans m9.next h2⟩) (hL.at 0 rfl) (m11.grX g10 fun b h1 _ h2 => by omega) ?_ ?_
  · exact (mod_dat m11 hd10 (fun b h1 _ h2 => by omega)).down hSN2
  · refine Mod.trans (hL4.mod.mono fun c hc _ => Or.inl hc) (hL10.mod.trans m11 fun c hc _ => .inl (by simp [hc])) fun c hc hlt => ?_
    rcases hc with hc | hc
    · rcases hmem _ hc with rfl | rfl
      · omega
      · exact .inl rfl
    · exact .inr hc
end
end Go.Proofs.Ytcookjolkhcjhaa
