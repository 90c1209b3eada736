/- Scripts out of bytes: the orders. -/
import Derived.Test.YtcookjolkhcjhaaOrder2
namespace Go.Proofs.Ytcookjolkhcjhaa
open Go Go.Proofs.Ytcookjolkhcjhaa.D
set_option linter.unusedVariables false
set_option linter.unusedSimpArgs false
noncomputable section

theorem und43 : E0.und 43 = some (.slice 105) := by kernel_rfl
theorem inf105 : E0.inf 105 = some DEnv.i105 := by kernel_rfl
theorem bytes105 : DEnv.i105.bytes = 48 := by kernel_rfl
abbrev zeroO : Value := .agg #[.int .i64 0, .int .i64 0, .int .i64 0, .int .i64 0, .int .i64 0, .int .u64 0]
abbrev Ors (N : Nat) (S : St) (s : Sl) (l : List Ord) : Prop := Gr cellsO 6 N S s l
theorem Ors.add {N : Nat} {S : St} {s : Sl} {l : List Ord} (h : Ors N S s l) {b : Nat} {v : Ord} (hat : At S b (.cells (cellsO v) none false none)) (hl : l.length ≤ 10000)
    {k : Sl → St → Prop} (hk : ∀ s' S', Ors N S' s' (l ++ [v]) → Mod (fun b => N ≤ b ∧ s.a = some ⟨b, 0, none⟩) S S' → S'.next = S.next + 1 → k s' S') (hN : N ≤ S.next) :
    evP tS (appendD E0 S 43 43 (.slice s.a s.len s.cap) (.slice (some ⟨b, 0, none⟩) 1 1)) k :=
  h.append1 (f := cellsO) (sz := 6) (fun _ => rfl) (by omega) und43 inf105 und43 rfl (by kernel_rfl) (by kernel_rfl : DEnv.i105.zero = some zeroO) rfl hat rfl (by rw [bytes105]; omega) (by omega) hk hN
def fourP (c : List Int) : Ord := ofP (c.getD 0 0) (c.getD 1 0) (c.getD 2 0) (c.getD 3 0)
def ordP (l : List Int) (n : Nat) : List Ord := (List.range n).map fun i => fourP ((l.drop (4 * i)).take 4)
theorem ordP_succ {l : List Int} {n : Nat} : ordP l (n + 1) = ordP l n ++ [fourP ((l.drop (4 * n)).take 4)] := by simp [ordP, List.range_succ]
theorem ordP_len {l : List Int} {n : Nat} : (ordP l n).length = n := by simp [ordP]
abbrev boxesL (b3 b2 cN cS b1 : Nat) (st : DObj) (b s : Sl) : List (Nat × DObj) :=
  [(b3, st), (b2, .deferred), (cN, .cells [.int .i64 4] none false none), (cS, .cells [.slice b.a b.len b.cap] none false none), (b1, .cells [.slice s.a s.len s.cap] none false none)]

theorem s20 {b : Sl} {l : List Int} {S : St} {k : Value → St → Prop} (hb : Bs S b l) (hlc : b.len ≤ b.cap) (hci : b.cap < inex) (hlen : l.length ≤ 4000)
    (hk : ∀ s' S' N, S.next ≤ N → Ext S S' → Ors N S' s' (ordP l (l.length / 4)) → k (.slice s'.a s'.len s'.cap) S') : WC E0 20 [.slice b.a b.len b.cap] S k := by
  refine w20 b ?_
  unfold c20
  have hL := Hld.start noB S
  refine hL.new fun b1 S1 hL hb1 hn1 => ?_
  refine evC_of (w49 b 4 ?_)
  unfold c49
  refine hL.new fun cS S2 hL hb2 hn2 => ?_
  refine hL.new fun cN S3 hL hb3 hn3 => ?_
  (first | refine hL.ld 0 rfl (by kernel_rfl) _ rfl ?_ | refine hL.ld 1 rfl (by kernel_rfl) _ rfl ?_ | refine hL.ld 2 rfl (by kernel_rfl) _ rfl ?_ | refine hL.ld 3 rfl (by kernel_rfl) _ rfl ?_ | refine hL.ld 4 rfl (by kernel_rfl) _ rfl ?_ | refine hL.ld 5 rfl (by kernel_rfl) _ rfl ?_ | refine hL.ld 6 rfl (by kernel_rfl) _ rfl ?_ | refine hL.ld 7 rfl (by kernel_rfl) _ rfl ?_ | refine hL.lda 0 rfl (by kernel_rfl) _ rfl ?_ | refine hL.lda 1 rfl (by kernel_rfl) _ rfl ?_ | refine hL.lda 2 rfl (by kernel_rfl) _ rfl ?_ | refine hL.lda 3 rfl (by kernel_rfl) _ rfl ?_ | refine hL.lda 4 rfl (by kernel_rfl) _ rfl ?_ | refine hL.lda 5 rfl (by kernel_rfl) _ rfl ?_ | refine hL.lda 6 rfl (by kernel_rfl) _ rfl ?_ | refine hL.lda 7 rfl (by kernel_rfl) _ rfl ?_)
  refine ifW_neg (by omega) ⟨_, rfl, ?_⟩
  refine hL.new fun b2 S4 hL hb4 hn4 => ?_
  rintro b3 S5 L rfl rfl hLL hR
  have hn5 : (S4.alloc (L .ready none)).2.next = S4.next + 1 := rfl
  have hL := hL.record (o := L .ready none)
  generalize (S4.alloc (L .ready none)).2 = S5 at hL hn5 ⊢
  generalize hb5 : S4.next = b3 at hL hR ⊢
  generalize hN : S5.next = N
  have hSN : S.next ≤ N := by have := hL.mod.next; omega
  refine WG_of rfl (s66 (b := b) (l := l) hlc hci hlen (fun i S' => ∃ s, Hld noB S S' (boxesL b3 b2 cN cS b1 (L .ready none) b s) ∧ Ors N S' s (ordP l (min i (l.length / 4))) ∧ N ≤ S'.next) ?_ ?_ ?_ ?_)
  · rintro i S' ⟨s, hL, g, _⟩
    exact ⟨hL.at 3 rfl, hL.at 2 rfl, hL.mod.slOf hb fun _ _ _ _ h => h⟩
  · exact ⟨⟨none, 0, 0⟩, hL, by rw [show min 0 (l.length / 4) = 0 from by omega]; exact .inl ⟨rfl, rfl⟩, by omega⟩
  · rintro i S' s1 hi ⟨s, hL, g, hNS⟩ hs
    refine hR s1 S' _ ?_
    (first | refine hL.has 0 rfl ?_ | refine hL.has 1 rfl ?_ | refine hL.has 2 rfl ?_ | refine hL.has 3 rfl ?_ | refine hL.has 4 rfl ?_ | refine hL.has 5 rfl ?_ | refine hL.has 6 rfl ?_ | refine hL.has 7 rfl ?_)
    (first | refine hL.has 0 rfl ?_ | refine hL.has 1 rfl ?_ | refine hL.has 2 rfl ?_ | refine hL.has 3 rfl ?_ | refine hL.has 4 rfl ?_ | refine hL.has 5 rfl ?_ | refine hL.has 6 rfl ?_ | refine hL.has 7 rfl ?_)
    refine hL.updG g 0 rfl (by omega) fun S6 hL g hn6 => ?_
    intro k3 hk3
    have hl1 := (hs S6 (hL.mod.slOf hb fun _ _ _ _ h => h)).len
    by_cases hc : 4 * i + 4 ≤ l.length
    · have hin : min i (l.length / 4) = i := by omega
      rw [hin] at g
      refine ifW_pos (by rw [hl1]; simp; omega) ?_
      refine evV_of s (load_one (hL.at 4 rfl) (by kernel_rfl)) ?_
      refine hk3 _ _ ?_
      refine ifW_of (fun _ => ?_) (fun hf => absurd (show ltI (s.len : Int) 10000 = true from by rw [ltI_eq, g.len, ordP_len]; exact decide_eq_true (by omega)) (by rw [hf]; exact Bool.false_ne_true))
      refine lowVW_ptr (hL.at 4 rfl).lt ?_
      refine evV_of s (load_one (hL.at 4 rfl) (by kernel_rfl)) ?_
      have hL7 := hL
      refine hL.quiet' hL7.mod.next fun S8 hL e1 e2 e3 => ?_
      have g := g.same e1 e2
      have hs8 := hs S8 (hL.mod.slOf hb fun _ _ _ _ h => h)
      rw [show min 4 (l.length - 4 * i) = 4 from by omega] at hs8
      have hsucc : ordP l (min (i + 1) (l.length / 4)) = ordP l i ++ [fourP ((l.drop (4 * i)).take 4)] := by rw [show min (i + 1) (l.length / 4) = i + 1 from by omega]; exact ordP_succ
      have hcl : ((l.drop (4 * i)).take 4).length = 4 := by simp; omega
      generalize (l.drop (4 * i)).take 4 = c at hs8 hcl hsucc
      match c, hcl with
      | [x0, x1, x2, x3], _ =>
      refine evC_of (s50 hs8 fun S9 e9 => ⟨_, rfl, ?_⟩)
      have hsucc : ordP l (min (i + 1) (l.length / 4)) = ordP l i ++ [ofP x0 x1 x2 x3] := hsucc
      generalize ofP x0 x1 x2 x3 = x at hsucc ⊢
      refine ⟨Nat.ble_eq_true_of_le ?_, ?_⟩
      · have := e9.low S6.next (by omega) (by omega) (fun _ h => h.elim); exact this
      have hL := hL.ext e9
      have g := e9.gr g
      have hn9 := e9.next
      refine hL7.loud' hL hL7.mod.next fun S10 hL10 e1 e2 => ?_
      have g := g.same e1 e2
      refine hL10.quiet' (lim := S6.next) hL7.mod.next fun S11 hL e3 e4 e5 => ?_
      have g := g.same e3 e4
      refine newW_of fun b4 S12 hb4 ha4 e12 hn12 => ?_
      have hL := hL.ext e12
      have g := e12.gr g
      refine ⟨Nat.ble_eq_true_of_le ?_, ?_⟩
      · have := e12.low S6.next (by omega) (by omega) (fun _ h => h.elim); exact this
      refine hL10.loud' hL hL7.mod.next fun S13 hL e6 e7 => ?_
      have g := g.same e6 e7
      have ha4 : At S13 b4 (.cells (cellsO x) none false none) := ⟨by rw [e6]; exact ha4.get, by rw [e7]; exact ha4.lt⟩
      refine Ors.add g ha4 (by rw [ordP_len]; omega) (fun s2 S14 g m14 hn14 => ?_) (by omega)
      have hL := hL.step m14 fun c hc hlt => ⟨.inl (by omega), fun p hp => by
        simp only [List.set_cons_zero, List.mem_cons, List.not_mem_nil, or_false] at hp
        rcases hp with rfl | rfl | rfl | rfl | rfl <;> (dsimp only; omega)⟩
      refine hL.stG g 4 1 rfl (by omega) (by kernel_rfl) rfl (Nat.le_of_ble_eq_true rfl) rfl rfl fun S15 hL g hn15 => ?_
      (first | refine hL.has 0 rfl ?_ | refine hL.has 1 rfl ?_ | refine hL.has 2 rfl ?_ | refine hL.has 3 rfl ?_ | refine hL.has 4 rfl ?_ | refine hL.has 5 rfl ?_ | refine hL.has 6 rfl ?_ | refine hL.has 7 rfl ?_)
      refine hL.updG g 0 rfl (by omega) fun S16 hL g hn16 => ?_
      exact ⟨fun _ => ⟨s2, hL, by rw [hsucc]; exact g, by omega⟩, fun h => by cases h⟩
    · refine ifW_neg (by rw [hl1]; simp; omega) ?_
      refine hk3 _ _ ?_
      refine ifW_of (fun h => by cases h) fun _ => ?_
      (first | refine hL.has 0 rfl ?_ | refine hL.has 1 rfl ?_ | refine hL.has 2 rfl ?_ | refine hL.has 3 rfl ?_ | refine hL.has 4 rfl ?_ | refine hL.has 5 rfl ?_ | refine hL.has 6 rfl ?_ | refine hL.has 7 rfl ?_)
      refine hL.updG g 0 rfl (by omega) fun S7 hL g hn7 => ?_
      exact ⟨fun _ => ⟨s, hL, by rw [show min (i + 1) (l.length / 4) = min i (l.length / 4) from by omega]; exact g, by omega⟩, fun h => by cases h⟩
  · rintro i S' hi ⟨s, hL, g, hNS⟩
    refine .inl ?_
    rw [show min i (l.length / 4) = l.length / 4 from by omega] at g
    (first | refine hL.has 0 rfl ?_ | refine hL.has 1 rfl ?_ | refine hL.has 2 rfl ?_ | refine hL.has 3 rfl ?_ | refine hL.has 4 rfl ?_ | refine hL.has 5 rfl ?_ | refine hL.has 6 rfl ?_ | refine hL.has 7 rfl ?_)
    refine hL.updG g 0 rfl (by omega) fun S7 hL g hn7 => ?_
    refine evV_of s (load_one (hL.at 4 rfl) (by kernel_rfl)) ?_
    (first | refine hL.has 0 rfl ?_ | refine hL.has 1 rfl ?_ | refine hL.has 2 rfl ?_ | refine hL.has 3 rfl ?_ | refine hL.has 4 rfl ?_ | refine hL.has 5 rfl ?_ | refine hL.has 6 rfl ?_ | refine hL.has 7 rfl ?_)
    refine hL.updG g 1 rfl (by omega) fun S8 hL g hn8 => ?_
    exact hk s S8 N hSN hL.mod g
end
end Go.Proofs.Ytcookjolkhcjhaa
