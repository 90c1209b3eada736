/- Circles: what the functions answer. -/
import Derived.Test.YtcookjolkhcjhaaChase1
namespace Go.Proofs.Ytcookjolkhcjhaa
open Go Go.Proofs.Ytcookjolkhcjhaa.D
set_option linter.unusedVariables false
noncomputable section

/-! ### Circles -/
def nxt (l : List Int) (x : Int) : Int := (l[x.toNat]?).getD 0
theorem nxt_in {l : List Int} {x : Int} (h : 0 ≤ x) (h1 : x < (l.length : Int)) : nxt l x = l[x.toNat]'(by omega) := by
  rw [nxt, List.getElem?_eq_getElem (by omega)]; rfl
def atW (l : List Int) (f : Int) : Nat → Int
  | 0 => f
  | i + 1 => nxt l (atW l f i)
def circ (l : List Int) (f : Int) : Nat → Int → List Int → List Int
  | 0, _, _ => []
  | n + 1, a, out => if a < 0 ∨ (l.length : Int) ≤ a then [] else if nxt l a = f then out ++ [a] else circ l f n (nxt l a) (out ++ [a])
def circle (l : List Int) (f : Int) : List Int := circ l f l.length f []
theorem circ_len {l : List Int} {f : Int} : ∀ (n : Nat) (a : Int) (out : List Int), (circ l f n a out).length ≤ out.length + n := by
  intro n
  induction n with
  | zero => intro a out; simp [circ]
  | succ n ih =>
    intro a out
    unfold circ
    split
    · simp
    · split
      · rw [List.length_append, List.length_singleton]; omega
      · refine Nat.le_trans (ih _ _) ?_
        rw [List.length_append, List.length_singleton]; omega
theorem circle_len (l : List Int) (f : Int) : (circle l f).length ≤ l.length := by
  have := circ_len (l := l) (f := f) l.length f []
  simpa [circle] using this

theorem bytes3 : DEnv.i3.bytes = 8 := by kernel_rfl
theorem ap1 {N : Nat} {S : St} {s : Sl} {l : List Int} (h : GInts N S s l) {b : Nat} {v : Int} (hat : At S b (.cells [intV v] none false none)) (hb : l.length ≤ 1000000)
    {k : Sl → St → Prop} (hk : ∀ s' S', GInts N S' s' (l ++ [v]) → Mod (fun b => N ≤ b ∧ s.a = some ⟨b, 0, none⟩) S S' → S'.next = S.next + 1 → k s' S') (hN : N ≤ S.next) :
    evP tS (appendD E0 S 37 37 (.slice s.a s.len s.cap) (.slice (some ⟨b, 0, none⟩) 1 1)) k :=
  h.append1 (f := fun n => [intV n]) (sz := 1) (fun _ => rfl) (by omega) und37 inf3 und37 rfl (by kernel_rfl) (by kernel_rfl : DEnv.i3.zero = some (.int .i64 0)) rfl hat rfl (by rw [bytes3]; omega) (by omega) hk hN

theorem s17 {ws : Sl} {f : Int} {S : St} {l : List Int} {k : Value → St → Prop} (hw : Ints S ws l) (hb : l.length ≤ 1000000) (hk : ∀ s S', GInts S.next S' s (circle l f) → Ext S S' → k (.slice s.a s.len s.cap) S') :
    WC E0 17 [.slice ws.a ws.len ws.cap, intV f] S k := by
  refine w17 ws f ?_
  unfold c17
  have hlen := hw.len
  refine loopW_ind (fun q x S' => ∃ (n : Nat) (ol : List Int), x.2.2 = n ∧ n ≤ l.length ∧ q = l.length - n ∧ GInts S.next S' x.1 ol ∧ ol.length = n ∧ Ext S S' ∧ circ l f (l.length - n) x.2.1 ol = circle l f) (m := l.length)
    ⟨0, [], rfl, by omega, rfl, .nil, rfl, Mod.refl _ _, rfl⟩ ?_
  rintro P q ⟨out, a, i⟩ S1 ⟨n, ol, hi, h1, rfl, hg, hol, e, hc⟩ hP
  dsimp only at hi hg hc ⊢
  subst hi
  have nil : circle l f = [] → k (.slice none 0 0) S1 := fun h => hk ⟨none, 0, 0⟩ S1 (by rw [h]; exact .nil) e
  refine ifW_dec (fun hlt => ?_) fun hlt => ?_
  · have hn : l.length - n = (l.length - (n + 1)) + 1 := by omega
    rw [hn, circ] at hc
    refine ifW_dec (fun h2 => nil ?_) fun h2 => ifW_dec (fun h3 => nil ?_) fun h3 => ?_
    · rw [← hc, if_pos (.inl h2)]
    · rw [← hc, if_pos (.inr (by omega))]
    · rw [if_neg (by omega)] at hc
      refine newW_of fun b S2 hb2 ha2 e2 hn2 => ?_
      have hge : S.next ≤ S1.next := e.next
      refine ap1 (e2.gr hg) ha2 (by omega) (fun s' S3 hg3 e3 hn3 => ?_) (by omega)
      have eS3 : Ext S S3 := (e.tr e2).ext e3 fun b h => h.1
      refine (eS3.slOf hw).get1 (g := intV) inf3 agg3 (by omega) (by omega) fun b o hld _ => evV_of _ (hld S3 rfl) ?_
      have hx : nxt l a = l[a.toNat]'(by omega) := nxt_in (by omega) (by omega)
      rw [wrap_succ (by omega), ← hx]
      refine ifW_dec (fun h4 => ?_) fun h4 => ?_
      · rw [if_pos h4] at hc
        exact hk s' S3 (by rw [← hc]; exact hg3) eS3
      · rw [if_neg h4] at hc
        exact hP _ _ _ (by omega) ⟨n + 1, ol ++ [a], rfl, by omega, rfl, hg3, by simp [hol], eS3, hc⟩
  · have : l.length - n = 0 := by omega
    rw [this, circ] at hc
    exact nil hc.symm

/-- Along the waits. -/
theorem s65 {y : Value} {c1 c2 : Nat} {S : St} {ws : Sl} {l : List Int} {f : Int} (hb : l.length ≤ 1000000) (I : Nat → St → Prop) {Q : St → Prop} (h0 : At S c1 (.cells [intV f] none false none))
    (hI : ∀ i S', I i S' → At S' c2 (.cells [.slice ws.a ws.len ws.cap] none false none) ∧ Ints S' ws l) (hi0 : I 0 S)
    (hstep : ∀ i S', I i S' → i ≤ l.length → 0 ≤ atW l f i → atW l f i < (l.length : Int) → evY E0 tB y [intV (atW l f i)] S' fun b S'' => (b = true → I (i + 1) S'') ∧ (b = false → Q S''))
    (hend : ∀ i S', I i S' → i ≤ l.length + 1 → (i = l.length + 1 ∨ atW l f i < 0 ∨ (l.length : Int) ≤ atW l f i) → Q S') :
    WC E0 65 [y, .pointer (some ⟨c1, 0, none⟩), .pointer (some ⟨c2, 0, none⟩)] S fun _ S' => Q S' := by
  refine w65 y c1 c2 ?_
  unfold c65
  refine evV_of _ (loadV_one h0.get inf3 agg3 rfl) (evV_of ws (loadV_one (hI _ _ hi0).1.get inf37 agg37 rfl) ?_)
  have hlen := (hI _ _ hi0).2.len
  rw [wrap_succ (by omega), hlen]
  refine loopW_ind (fun q x S' => ∃ n : Nat, x.2 = n ∧ n ≤ l.length + 1 ∧ q = l.length + 1 - n ∧ x.1 = atW l f n ∧ I n S') (m := l.length + 1) ⟨0, rfl, by omega, rfl, rfl, hi0⟩ ?_
  rintro P q ⟨a, i⟩ S1 ⟨n, hi, h1, rfl, ha, hin⟩ hP
  dsimp only at hi ha ⊢
  subst hi ha
  refine ifW_dec (fun hlt => ifW_dec (fun h2 => hend n S1 hin h1 (.inr (.inl h2))) fun h2 => evV_of ws (loadV_one (hI _ _ hin).1.get inf37 agg37 rfl) (ifW_dec (fun h3 => hend n S1 hin h1 (.inr (.inr (by omega)))) fun h3 => ?_)) fun hlt => hend n S1 hin h1 (.inl (by omega))
  refine WV.mono (hstep n S1 hin (by omega) (by omega) (by omega)) ?_
  rintro v S2 ⟨b, rfl, hb1, hb2⟩
  refine ⟨b, rfl, ifW_of (fun h => hb2 (by simpa using h)) fun h => ?_⟩
  have hin2 := hb1 (by simpa using h)
  refine evV_of ws (loadV_one (hI _ _ hin2).1.get inf37 agg37 rfl) ((hI _ _ hin2).2.get1 (g := intV) inf3 agg3 (by omega) (by omega) fun b o hld _ => evV_of _ (hld S2 rfl) ?_)
  rw [wrap_succ (by omega)]
  exact hP _ _ _ (by omega) ⟨n + 1, rfl, by omega, rfl, (nxt_in (by omega) (by omega)).symm, hin2⟩

/-- What is still to be found, behind i steps. -/
def rest (l : List Int) (f : Int) (i : Nat) (out : List Int) : List Int :=
  if i = 0 then circle l f else if i ≤ l.length then (if atW l f i = f then out else circ l f (l.length - i) (atW l f i) out) else []
theorem rest_step {l : List Int} {f : Int} {i : Nat} {out : List Int} (hi : i ≤ l.length) (h0 : 0 ≤ atW l f i) (h1 : atW l f i < (l.length : Int)) (hn : i = 0 ∨ atW l f i ≠ f) (ho : out.length = i)
    (h : rest l f i out = circle l f) : rest l f (i + 1) (out ++ [atW l f i]) = circle l f := by
  have key : i < l.length → circ l f (l.length - i) (atW l f i) out = circle l f → rest l f (i + 1) (out ++ [atW l f i]) = circle l f := by
    intro hlt hc
    have e : l.length - i = (l.length - (i + 1)) + 1 := by omega
    rw [e, circ, if_neg (by omega)] at hc
    unfold rest
    rw [if_neg (by omega), if_pos (by omega)]
    exact hc
  unfold rest at h
  split at h
  · rename_i hi0
    subst hi0
    have : out = [] := List.length_eq_zero_iff.1 ho
    subst this
    exact key (by omega) rfl
  · rename_i hi0
    rw [if_neg (by omega)] at h
    by_cases hlt : i < l.length
    · exact key hlt h
    · have e : l.length - i = 0 := by omega
      rw [e, circ] at h
      unfold rest
      rw [if_neg (by omega), if_neg (by omega)]
      exact h
theorem rest_end {l : List Int} {f : Int} {i : Nat} {out : List Int} (hi : i ≤ l.length + 1) (he : i = l.length + 1 ∨ atW l f i < 0 ∨ (l.length : Int) ≤ atW l f i) (hf : i ≠ 0 → 0 ≤ f ∧ f < (l.length : Int))
    (h : rest l f i out = circle l f) : [] = circle l f := by
  have nope : ∀ n a out, (a < 0 ∨ (l.length : Int) ≤ a) → circ l f n a out = [] := by
    intro n a out ha
    cases n with
    | zero => rfl
    | succ n => rw [circ, if_pos ha]
  unfold rest at h
  split at h
  · rename_i hi0
    subst hi0
    rcases he with he | he
    · omega
    · exact (nope _ _ _ he).symm
  · rename_i hi0
    split at h
    · rename_i hle
      have he : atW l f i < 0 ∨ (l.length : Int) ≤ atW l f i := by omega
      have := hf hi0
      rw [if_neg (by omega), nope _ _ _ he] at h
      exact h
    · exact h
theorem s16 {ws : Sl} {f : Int} {S : St} {l : List Int} {k : Value → St → Prop} (hw : Ints S ws l) (hb : l.length ≤ 1000000) (hk : ∀ s S', GInts S.next S' s (circle l f) → Ext S S' → k (.slice s.a s.len s.cap) S') :
    WC E0 16 [.slice ws.a ws.len ws.cap, intV f] S k := by
  refine w16 ws f ?_
  unfold c16
  refine newW_of fun b1 S1 hb1 ha1 e1 hn1 => newW_of fun b2 S2 hb2 ha2 e2 hn2 => newW_of fun b3 S3 hb3 ha3 e3 hn3 => ?_
  refine evS_box ha3 inf4 (by kernel_rfl) (by simp) rfl rfl fun S4 ha4 e4 hn4 => ?_
  intro k1 hk1
  have ha1' := e4.at (e3.at (e2.at ha1)) (by omega)
  have ha2' := e4.at (e3.at ha2) (by omega)
  have eS4 : Ext S S4 := ((e1.tr e2).tr e3).ext e4 fun b h => by omega
  refine evV_of f (loadV_one ha1'.get inf3 agg3 rfl) (evC_of (w45 ws f ?_))
  unfold c45
  refine newW_of fun c2 S5 hc2 hac2 e5 hn5 => newW_of fun c1 S6 hc1 hac1 e6 hn6 => ⟨_, rfl, ?_⟩
  refine newW_of fun b4 S9 hb4 ha9 e9 hn9 => ?_
  rintro b5 S10 L rfl rfl hL hR
  have e10 : Ext S9 (S9.alloc (L .ready none)).2 := alloc_ext
  have hn10 : (S9.alloc (L .ready none)).2.next = S9.next + 1 := rfl
  have ha10 : At (S9.alloc (L .ready none)).2 S9.next (L .ready none) := alloc_at
  generalize (S9.alloc (L .ready none)).2 = S10 at e10 hn10 ha10 ⊢
  generalize hb5 : S9.next = b5 at *
  have e410 : Ext S4 S10 := ((e5.tr e6).tr e9).tr e10
  have eS10 : Ext S S10 := eS4.tr e410
  have ha1 := e410.at ha1'
  have ha2 := e410.at ha2'
  have ha3 := e410.at ha4
  have hac2 := e10.at (e9.at (e6.at hac2))
  have hac1 := e10.at (e9.at hac1)
  have ha4 := e10.at ha9
  have hw10 := eS10.slOf hw
  clear e1 e2 e3 e4 e5 e6 e9 e10 e410 eS4 ha1' ha2' ha9
  have hwlt : ∀ b o, ws.a = some ⟨b, o, none⟩ → b < S10.next → ¬ (b = b2 ∨ b = b3 ∨ b = b5) → True := fun _ _ _ _ _ => trivial
  -- the state in between
  let I : Nat → St → Prop := fun i S' => ∃ sl ol, Mod (fun b => b = b2 ∨ b = b3 ∨ b = b5) S10 S' ∧ Ext S S' ∧ At S' b2 (.cells [.slice sl.a sl.len sl.cap] none false none) ∧ GInts S10.next S' sl ol ∧ ol.length = i ∧
    At S' b3 (.cells [.bool false] none false none) ∧ At S' b5 (L .ready none) ∧ rest l f i ol = circle l f ∧ (i ≠ 0 → 0 ≤ f ∧ f < (l.length : Int))
  -- behind it
  have fin : ∀ (S' : St) (sl : Sl) (ol : List Int) (t : Bool), Mod (fun b => b = b2 ∨ b = b3 ∨ b = b5) S10 S' → Ext S S' → At S' b2 (.cells [.slice sl.a sl.len sl.cap] none false none) → GInts S10.next S' sl ol →
      At S' b3 (.cells [.bool t] none false none) → (cond t ol [] = circle l f) → k1 ([b4], PUnit.unit) S' := by
    intro S' sl ol t hm e h2 hg h3 hr
    refine hk1 _ _ (evV_of t (loadV_one h3.get inf4 agg4 rfl) ?_)
    have h4 := hm.at ha4 (by omega)
    cases t with
    | false =>
      refine hasW_of h4 (updW_of h4.lt fun S6 _ e6 _ => hk ⟨none, 0, 0⟩ S6 ?_ (e.ext e6 fun b h => by omega))
      rw [← hr]; exact .nil
    | true =>
      refine evV_of sl (loadV_one h2.get inf37 agg37 rfl) (hasW_of h4 (updW_of h4.lt fun S6 _ e6 _ => hk sl S6 ?_ (e.ext e6 fun b h => by omega)))
      rw [← hr]
      exact (e6.gr hg fun b h1 h2 => by omega).down (by have := eS10.next; omega)
  let Q : St → Prop := fun S' => hasW S' b5 (L .ready none) (updW S' b5 (L .exhausted none) fun S24 => k1 ([b4], PUnit.unit) S24) ∨
    hasW S' b5 (L (.done) (some (Code.exit 0))) (updW S' b5 (L .exhausted (some (Code.exit 0))) fun S25 => k1 ([b4], PUnit.unit) S25) ∨ False
  refine ⟨65, #[], #[.pointer (some ⟨c1, 0, none⟩), .pointer (some ⟨c2, 0, none⟩)], rfl, rfl, s65 (ws := ws) (Q := Q) hb I hac1 ?_ ?_ ?_ ?_⟩
  · rintro i S' ⟨sl, ol, hm, e, _⟩
    exact ⟨hm.at hac2 (by omega), e.slOf hw⟩
  · exact ⟨⟨none, 0, 0⟩, [], Mod.refl _ _, eS10, ha2, .nil, rfl, ha3, ha10, by simp [rest], fun h => (h rfl).elim⟩
  · rintro i S' ⟨sl, ol, hm, e, h2, hg, hol, h3, h5, hr, hf⟩ hi hlo hhi
    refine hR (atW l f i) S' _ (hasW_of h5 (hasW_of h5 (updW_of h5.lt fun S12 h5' e12 hn12 => ?_)))
    have h1 := e12.at (hm.at ha1 (by omega)) (by omega)
    have h2 := e12.at h2 (by omega)
    have h3 := e12.at h3 (by omega)
    have hg := e12.gr hg fun b hb _ => by omega
    have e := e.ext e12 fun b h => by omega
    have hm := hm.trans e12 fun b h _ => .inr (.inr h)
    have hsl : sl.len = ol.length := (hg.of (sz := 1) fun _ => rfl).len
    refine evV_of sl (loadV_one h2.get inf37 agg37 rfl) ?_
    have hf' : 0 ≤ f ∧ f < (l.length : Int) := by
      by_cases hi0 : i = 0
      · subst hi0; exact ⟨hlo, hhi⟩
      · exact hf hi0
    -- one more
    have more : rest l f (i + 1) (ol ++ [atW l f i]) = circle l f → evV tS (loadV E0 S12 37 (.pointer (some ⟨b2, 0, none⟩))) fun (s3 : Sl) =>
        newW S12 (.cells [.int .i64 (atW l f i)] none false none) fun (b6 : Nat) (S15 : St) =>
          evP tS (appendD E0 S15 37 37 (.slice s3.a s3.len s3.cap) (.slice (some ⟨b6, 0, none⟩) 1 1)) fun (s4 : Sl) (S16 : St) =>
            evS (storeV E0 S16 37 (.pointer (some ⟨b2, 0, none⟩)) (.slice s4.a s4.len s4.cap)) fun (S17 : St) =>
              hasW S17 b5 (L LoopState.busy none) (updW S17 b5 (L LoopState.ready none) fun (S18 : St) => (fun (b : Bool) S'' => (b = true → I (i + 1) S'') ∧ (b = false → Q S'')) true S18) := by
      intro hr
      refine evV_of sl (loadV_one h2.get inf37 agg37 rfl) (newW_of fun b6 S15 hb6 ha6 e15 hn15 => ?_)
      have hmn := hm.next
      refine ap1 (e15.gr hg) ha6 (by omega) (fun s4 S16 hg4 e16 hn16 => ?_) (by omega)
      have hm16 := (hm.ext e15 fun b h => h.elim).ext e16 fun b h => h.1
      have e16' := (e.tr e15).ext e16 fun b h => by have := h.1; have := eS10.next; omega
      refine evS_box (e16.at (e15.at h2) (by omega)) inf37 (by kernel_rfl) (by simp) rfl rfl fun S17 h17 e17 hn17 => ?_
      have h5 := e17.at (e16.at (e15.at h5') (by omega)) (by omega)
      refine hasW_of h5 (updW_of h5.lt fun S18 h18 e18 hn18 => ⟨fun _ => ?_, fun h => by cases h⟩)
      refine ⟨s4, ol ++ [atW l f i], (hm16.trans e17 fun b h _ => .inl h).trans e18 fun b h _ => .inr (.inr h), (e16'.ext e17 fun b h => by omega).ext e18 fun b h => by omega, e18.at h17 (by omega),
        e18.gr (e17.gr hg4 fun b h _ => by omega) fun b h _ => by omega, by simp [hol], ?_, h18, hr, fun _ => hf'⟩
      exact e18.at (e17.at (e16.at (e15.at h3) (by omega)) (by omega)) (by omega)
    refine ifW_dec (fun hpos => ?_) fun hpos => ?_
    · refine evV_of f (loadV_one h1.get inf3 agg3 rfl) (ifW_dec (fun heq => ?_) fun hne => ?_)
      · refine evS_box h3 inf4 (by kernel_rfl) (by simp) rfl rfl fun S13 h13 e13 hn13 => ?_
        have h5 := e13.at h5' (by omega)
        refine hasW_of h5 (updW_of h5.lt fun S14 h14 e14 hn14 => And.intro (fun h => nomatch h) fun _ => Or.inr (Or.inl (hasW_of h14 (updW_of h14.lt fun S15 h15 e15 hn15 => ?_))))
        have em : D.Mod (fun b => b = b3 ∨ b = b5) S12 S15 := ((e13.mono fun b h _ => .inl h).trans e14 fun b h _ => .inr h).trans e15 fun b h _ => .inr h
        refine fin S15 sl ol true (hm.trans em fun b h _ => by omega) (e.ext em fun b h => by omega) (em.at h2 (by omega)) (em.gr hg fun b h _ => by omega) (e15.at (e14.at h13 (by omega)) (by omega)) ?_
        show ol = circle l f
        rw [← hr, rest, if_neg (by omega), if_pos hi, if_pos heq]
      · exact more (rest_step hi hlo hhi (.inr hne) hol hr)
    · exact more (rest_step hi hlo hhi (.inl (by omega)) hol hr)
  · rintro i S' ⟨sl, ol, hm, e, h2, hg, hol, h3, h5, hr, hf⟩ hi he
    refine .inl (hasW_of h5 (updW_of h5.lt fun S15 h15 e15 hn15 => ?_))
    exact fin S15 sl ol false (hm.trans e15 fun b h _ => .inr (.inr h)) (e.ext e15 fun b h => by omega) (e15.at h2 (by omega)) (e15.gr hg fun b h _ => by omega) (e15.at h3 (by omega)) (rest_end hi he hf hr)
end
end Go.Proofs.Ytcookjolkhcjhaa
