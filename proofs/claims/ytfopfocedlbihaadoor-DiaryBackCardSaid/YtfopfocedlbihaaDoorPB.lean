/- Parts of the proof, put together. -/
import Derived.Test.YtfopfocedlbihaaDoorPA
import Derived.Test.YtfopfocedlbihaaDoorOC
import Derived.Test.YtfopfocedlbihaaDoorDK
/- Pages: a text's diary. -/
namespace Go.Proofs.YtfopfocedlbihaaDoor
open Go Go.Proofs.YtfopfocedlbihaaDoor.D
set_option linter.unusedVariables false
set_option linter.unusedSimpArgs false
noncomputable section

abbrev boxesT (b5 b4 bC b3 b2 b1 : Nat) (st : DObj) (r : List UInt8) (n : Nat) (sl : Sl) : List (Nat × DObj) :=
  [(b5, st), (b4, .deferred), (bC, .cells [strV r] none false none), (b3, .cells [.int .i64 0] none false none), (b2, .cells [.int .i64 (n : Int)] none false none), (b1, .cells [.slice sl.a sl.len sl.cap] none false none)]
theorem dG_eq {x : Pg} {d : Pgd} (h1 : pO x = d.1) (h2 : pE x = d.2.1) : dG (x, d.2.2) = d := by
  show (pO x, pE x, d.2.2) = d
  rw [h1, h2]
set_option maxHeartbeats 1000000 in
theorem s16 {S : St} {s : List UInt8} {k : Value → St → Prop} (g : Gd S) (hlen : s.length ≤ 10000000)
    (hk : ∀ sl ps S', Ext S S' → Pgs S' sl ps → ps.map dG = (pgP s).1 → (∀ c, pgO sl ps c → S.next ≤ c) → k (.tuple #[.slice sl.a sl.len sl.cap, .int .i64 (pgP s).2.1, .int .i64 (pgP s).2.2]) S') : WC E0 16 [strV s] S k := by
  refine w16 s ?_
  unfold c16
  have hL := (Pk.start S).cx
  have hnew := (Pk.start S).new
  refine hL.new fun b1 S1 hL _ _ => ?_
  refine hL.new fun b2 S2 hL _ _ => ?_
  refine hL.new fun b3 S3 hL _ _ => ?_
  refine evC_of (w41 _ ?_)
  unfold c41
  refine hL.new fun bC S4 hL _ _ => ?_
  refine ⟨_, rfl, ?_⟩
  refine hL.new fun b4 S5 hL _ _ => ?_
  rintro b5 S6 L rfl rfl hLL hR
  have hL := hL.record (o := L .ready none)
  generalize (S5.alloc (L .ready none)).2 = S6 at hL ⊢
  generalize hb5 : S5.next = b5 at hL hR ⊢
  refine WG_of rfl (s76 (fun r S' => ∃ (n : Nat) (acc : List PL) (sl : Sl), Pk S S' (boxesT b5 b4 bC b3 b2 b1 (L .ready none) r n sl) sl acc acc ∧ pgA [] (acc.map dG) n r = pgP s ∧ n + r.length ≤ s.length ∧ acc.length = n)
    (by omega) ⟨0, [], ⟨none, 0, 0⟩, ⟨hL, hnew, fun p hp => by cases hp⟩, rfl, by omega, rfl⟩ (fun r S' ⟨n, acc, sl, hP, _⟩ => hP.cx.at 2 rfl) ?_ ?_)
  · rintro one rest S' S7 ⟨n, acc, sl, hP, hp, hn, hac⟩ h1 horl hor ha m hnx'
    refine hR one S7 _ ?_
    have hL := hP.cx.set 2 (o' := .cells [strV rest] none false none) rfl m ha
    rw [List.length_append] at hn horl
    have hol : 0 < one.length := List.length_pos_iff.2 h1
    obtain ⟨u, hu, hun⟩ : ∃ u, (one = u ++ [10] ∨ (one = u ∧ 10 ∉ u)) ∧ 10 ∉ u := by
      rcases hor with ⟨u, h, h'⟩ | ⟨_, h'⟩
      · exact ⟨u, .inl h, h'⟩
      · exact ⟨one, .inr ⟨rfl, h'⟩, h'⟩
    have hul : u.length ≤ one.length := by
      rcases hu with h | ⟨h, _⟩
      · rw [h, List.length_append]; omega
      · rw [h]; exact Nat.le_refl _
    (first | refine hL.has 0 rfl ?_ | refine hL.has 1 rfl ?_ | refine hL.has 2 rfl ?_ | refine hL.has 3 rfl ?_ | refine hL.has 4 rfl ?_ | refine hL.has 5 rfl ?_ | refine hL.has 6 rfl ?_ | refine hL.has 7 rfl ?_)
    (first | refine hL.has 0 rfl ?_ | refine hL.has 1 rfl ?_ | refine hL.has 2 rfl ?_ | refine hL.has 3 rfl ?_ | refine hL.has 4 rfl ?_ | refine hL.has 5 rfl ?_ | refine hL.has 6 rfl ?_ | refine hL.has 7 rfl ?_)
    refine hL.upd 0 rfl fun S8 hL _ => ?_
    refine hL.ld 4 rfl (by kernel_rfl) ((n : Nat) : Int) rfl ?_
    rw [wrap_succ (by omega)]
    refine hL.st 4 _ rfl (by kernel_rfl) rfl (Nat.le_of_ble_eq_true rfl) rfl rfl fun S9 hL _ => ?_
    refine evC_of (s42 h1 (by omega) hu ⟨u, rfl, ?_⟩)
    refine evC_of (s13 (g.ext hL.mod) (by omega) fun x S11 e11 hx1 hx2 g3 h3 => ⟨(x, (rdA u).2), rfl, ?_⟩)
    have hQ := (hP.with hL).read e11 g3 h3
    have hL := hQ.cx
    have h2 := rdA_2 u
    have hpl : ∀ v, one = v ++ [10] → pgP s = if (rdA u).2 ≠ 0 ∨ 10000 < n + 1 then ([], ((n + 1 : Nat) : Int), 280) else pgA [] ((acc ++ [(x, (rdA u).1.2.2)]).map dG) (n + 1) rest := by
      intro v hv
      have hvu : one = u ++ [10] := by
        rcases hu with h | ⟨h, h'⟩
        · exact h
        · exact (h' (by rw [← h, hv]; simp)).elim
      rw [← hp, hvu, pgA_line u (acc.map dG) n rest hun, List.map_append, List.map_singleton, dG_eq hx1 hx2]
    have hpn : (¬ ∃ v, one = v ++ [10]) → pgP s = ([], ((n + 1 : Nat) : Int), 280) := by
      intro hno
      rcases hor with ⟨v, h, _⟩ | ⟨h, h'⟩
      · exact (hno ⟨v, h⟩).elim
      · rw [← hp, h, List.append_nil, pgA_last one (acc.map dG) n h' h1]
    generalize (rdA u).1.2.2 = l at hQ hL hpl ⊢
    generalize (rdA u).2 = y at h2 hpl ⊢
    refine hL.new fun b6 S12 hL _ _ => ?_
    refine hL.st 0 _ rfl (by kernel_rfl) rfl (Nat.le_of_ble_eq_true rfl) rfl rfl fun S13 hL _ => ?_
    intro k3 hk3
    have key : ∀ t : Bool, (t = true → pgP s = ([], ((n + 1 : Nat) : Int), 280)) → (t = false → pgA [] ((acc ++ [(x, l)]).map dG) (n + 1) rest = pgP s) → k3 t S13 := by
      intro t ht1 ht2
      refine hk3 _ _ ?_
      refine ifW_of (fun hb => ?_) fun hb => ?_
      · have hps := ht1 hb
        refine hL.ld 5 rfl (by kernel_rfl) (((n + 1 : Nat)) : Int) rfl ?_
        refine hL.st 6 _ rfl (by kernel_rfl) rfl (Nat.le_of_ble_eq_true rfl) rfl rfl fun S15 hL _ => ?_
        refine hL.ld 5 rfl (by kernel_rfl) (((n + 1 : Nat)) : Int) rfl ?_
        refine sameV_of ?_
        refine hL.st 5 _ rfl (by kernel_rfl) rfl (Nat.le_of_ble_eq_true rfl) rfl rfl fun S16 hL _ => ?_
        refine hL.st 4 _ rfl (by kernel_rfl) rfl (Nat.le_of_ble_eq_true rfl) rfl rfl fun S17 hL _ => ?_
        refine hL.has 1 rfl ?_
        refine hL.upd 1 rfl fun S18 hL _ => ?_
        refine ⟨fun h => (by cases h), fun _ => .inr (.inl ?_)⟩
        refine hL.has 1 rfl ?_
        refine hL.upd 1 rfl fun S19 hL _ => ?_
        refine hL.has 2 rfl ?_
        refine hL.upd 2 rfl fun S20 hL _ => ?_
        refine hL.ld 6 rfl (by kernel_rfl) (⟨none, 0, 0⟩ : Sl) rfl ?_
        refine hL.ld 5 rfl (by kernel_rfl) (((n + 1 : Nat)) : Int) rfl ?_
        refine hL.ld 4 rfl (by kernel_rfl) (280 : Int) rfl ?_
        have := hk ⟨none, 0, 0⟩ [] S20 hL.mod ⟨⟨rfl, fun h => (h rfl).elim⟩, fun p hp => by cases hp⟩ (by rw [hps]; rfl) (Pk.start S).new
        rw [hps] at this
        exact this
      · have hps := ht2 hb
        refine hL.ld 6 rfl (by kernel_rfl) sl rfl ?_
        refine hL.lda 0 rfl (by kernel_rfl) x rfl ?_
        refine hL.new fun b7 S19 hL _ _ => ?_
        refine (hQ.with hL).app 0 rfl (by omega) fun s' S20 hQ => ?_
        have hL := hQ.cx
        refine hL.st 7 _ rfl (by kernel_rfl) rfl (Nat.le_of_ble_eq_true rfl) rfl rfl fun S21 hL _ => ?_
        refine hL.has 2 rfl ?_
        refine hL.upd 2 rfl fun S22 hL _ => ?_
        refine ⟨fun _ => ⟨n + 1, acc ++ [(x, l)], s', hQ.with (hL.tl 2), hps, by omega, by simp; omega⟩, fun h => by cases h⟩
    refine ifW_ndec (fun hy => ?_) fun hy => ?_
    · have hy : ¬ y = 0 := hy
      refine key true (fun _ => ?_) (fun h => by cases h)
      by_cases hv : ∃ v, one = v ++ [10]
      · obtain ⟨v, hv⟩ := hv
        rw [hpl v hv, if_pos (.inl hy)]
      · exact hpn hv
    have hy : y = 0 := hy
    refine hL.ld 5 rfl (by kernel_rfl) (((n + 1 : Nat)) : Int) rfl ?_
    refine ifW_dec (fun hn1 => ?_) fun hn1 => ?_
    · refine key true (fun _ => ?_) (fun h => by cases h)
      by_cases hv : ∃ v, one = v ++ [10]
      · obtain ⟨v, hv⟩ := hv
        rw [hpl v hv, if_pos (.inr (by omega))]
      · exact hpn hv
    refine evC_of (s43 h1 (by omega) fun t ht => ⟨t, rfl, ?_⟩)
    refine key _ (fun h => ?_) (fun h => ?_)
    · exact hpn fun hv => by rw [ht.2 hv] at h; cases h
    · have hv : ∃ v, one = v ++ [10] := ht.1 (by simpa using h)
      obtain ⟨v, hv⟩ := hv
      rw [hpl v hv, if_neg (fun h => h.elim (fun h => h hy) (fun h => by omega))]
  · rintro S' ⟨n, acc, sl, hQ, hp, hn, hac⟩
    left
    have hL := hQ.cx
    rw [pgA, if_pos rfl] at hp
    refine hL.has 0 rfl ?_
    refine hL.upd 0 rfl fun S25 hL _ => ?_
    refine hL.ld 5 rfl (by kernel_rfl) sl rfl ?_
    refine hL.st 5 _ rfl (by kernel_rfl) rfl (Nat.le_of_ble_eq_true rfl) rfl rfl fun S26 hL _ => ?_
    refine hL.st 4 _ rfl (by kernel_rfl) rfl (Nat.le_of_ble_eq_true rfl) rfl rfl fun S27 hL _ => ?_
    refine hL.st 3 _ rfl (by kernel_rfl) rfl (Nat.le_of_ble_eq_true rfl) rfl rfl fun S28 hL _ => ?_
    refine hL.has 1 rfl ?_
    refine hL.upd 1 rfl fun S29 hL _ => ?_
    refine hL.ld 5 rfl (by kernel_rfl) sl rfl ?_
    refine hL.ld 4 rfl (by kernel_rfl) (0 : Int) rfl ?_
    refine hL.ld 3 rfl (by kernel_rfl) (0 : Int) rfl ?_
    rw [← hp] at hk
    exact hk sl acc S29 hL.mod ⟨GrX.of (f := fP) (sz := 8) (fun _ => rfl) hL.p.1, hL.p.2⟩ rfl hQ.new
end
end Go.Proofs.YtfopfocedlbihaaDoor

/- Pages: two diaries; how many; the law of diaries that are written and read. -/
namespace Go.Proofs.YtfopfocedlbihaaDoor
open Go Go.Proofs.YtfopfocedlbihaaDoor.D
set_option linter.unusedVariables false
set_option linter.unusedSimpArgs false
noncomputable section

theorem sameG_iff {x y : Pg} {l m : List Stp} : sameG x l y m = true ↔ dG (x, l) = dG (y, m) := by
  unfold sameG
  rw [decide_eq_true_iff]
  refine ⟨fun h => ?_, fun h => ?_⟩
  · show (pO x, pE x, l) = (pO y, pE y, m)
    rw [h.1, h.2.1, h.2.2]
  · exact ⟨congrArg (fun d : Pgd => d.1) h, congrArg (fun d : Pgd => d.2.1) h, congrArg (fun d : Pgd => d.2.2) h⟩
theorem s17 {S : St} {s1 s2 : Sl} {p1 p2 : List PL} {k : Value → St → Prop} (h1 : Pgs S s1 p1) (h2 : Pgs S s2 p2) (hlen : p1.length ≤ 100000000) (hst : ∀ p ∈ p1, p.2.length ≤ 100000000)
    (hk : ∀ t S', Ext S S' → (t = true ↔ p1.map dG = p2.map dG) → k (.bool t) S') : WC E0 17 [.slice s1.a s1.len s1.cap, .slice s2.a s2.len s2.cap] S k := by
  refine w17 s1 s2 ?_
  unfold c17
  have e1 := h1.len
  have e2 := h2.len
  have no : ∀ {S'}, p1.map dG ≠ p2.map dG → Ext S S' → k (.bool false) S' := fun h e => hk _ _ e ⟨fun h => (by cases h), fun h' => (h h').elim⟩
  refine ifW_ndec (fun hne => no (fun e => hne (by have := congrArg List.length e; rw [List.length_map, List.length_map] at this; rw [e1, e2, this])) (Mod.refl _ _)) fun heq => ?_
  have heq : p1.length = p2.length := by omega
  refine loopW_ind (fun q (n1 : Int) S' => ∃ n : Nat, n1 = n ∧ n ≤ p1.length ∧ q = p1.length - n ∧ Ext S S' ∧ (p1.take n).map dG = (p2.take n).map dG) (m := p1.length) ⟨0, rfl, by omega, rfl, Mod.refl _ _, by simp⟩ ?_
  rintro P q n1 S1 ⟨n, rfl, hn, rfl, x1, hm⟩ hP
  have g1 := h1.ext x1
  have g2 := h2.ext x1
  refine ifW_dec (fun hlt => ?_) fun hlt => ?_
  · have n1 : n < p1.length := by omega
    have n2 : n < p2.length := by omega
    refine g1.ix n1 ?_
    refine g2.ix n2 ?_
    refine evC_of (s14 (g1.st.at n1) (g2.st.at n2) (hst _ (List.getElem_mem n1)) fun S2 x2 => ⟨_, rfl, ?_⟩)
    refine ifW_of (fun hb => ?_) fun hb => ?_
    · have hb : sameG p1[n].1 p1[n].2 p2[n].1 p2[n].2 = false := by simpa using hb
      refine no (fun e => ?_) (x1.tr x2)
      have := congrArg (fun l => l[n]?) e
      simp only [List.getElem?_map, List.getElem?_eq_getElem n1, List.getElem?_eq_getElem n2, Option.map_some, Option.some.injEq] at this
      have := sameG_iff.2 (show dG (p1[n].1, p1[n].2) = dG (p2[n].1, p2[n].2) from this)
      rw [hb] at this; cases this
    · have hb : sameG p1[n].1 p1[n].2 p2[n].1 p2[n].2 = true := by simpa using hb
      rw [wrap_succ (by omega)]
      refine hP _ _ _ (by omega) ⟨n + 1, rfl, by omega, rfl, x1.tr x2, ?_⟩
      rw [take_snoc n1, take_snoc n2, List.map_append, List.map_append, hm]
      show _ ++ [dG p1[n]] = _ ++ [dG p2[n]]
      rw [show dG p1[n] = dG p2[n] from sameG_iff.1 hb]
  · have hn' : n = p1.length := by omega
    have hd : p1.map dG = p2.map dG := by
      rw [hn', List.take_length, heq, List.take_length] at hm
      exact hm
    exact hk _ S1 x1 ⟨fun _ => hd, fun _ => rfl⟩
/-- A page's steps' slice. -/
theorem Pgs.stp {S : St} {s : Sl} {ps : List PL} (h : Pgs S s ps) {n : Nat} (hn : n < ps.length) {k : Sl → Prop} (hk : k (pS ps[n].1)) : idxW s.a s.len (n : Int) fun b1 b2 => ptrW (some ⟨b1, b2 + Int.toNat (n : Int) * 8, none⟩) fun b3 b4 => evV tS (loadV E0 S 49 (.pointer (some ⟨b3, b4 + 7, none⟩))) k := by
  refine h.sl.idxL (f := fP) (sz := 8) (fun _ => rfl) h.sl.len hn fun b o cs m ro fz hat _ hv => ?_
  refine ptrW_of ?_
  exact evV_of (ty := tS) (pS ps[n].1) ((load_one hat (by kernel_rfl)).trans ((at_take hv (j := 7) (by omega)).trans rfl)) hk
theorem s11 {S : St} {s : Sl} {ps : List PL} {k : Value → St → Prop} (h : Pgs S s ps) (hk : ∀ n : Int, 0 ≤ n → (n = 0 → ps.length ≤ 60 ∧ ∀ p ∈ ps, p.2.length ≤ 1001) → k (.int .i64 n) S) : WC E0 11 [.slice s.a s.len s.cap] S k := by
  refine w11 s ?_
  unfold c11
  have hl := h.len
  refine ifW_dec (fun hb => hk 1 (by decide) (fun h => by cases h)) fun hb => ?_
  have hlen : ps.length ≤ 60 := by omega
  refine loopW_ind (fun q (n1 : Int) S' => ∃ n : Nat, n1 = n ∧ n ≤ ps.length ∧ q = ps.length - n ∧ S' = S ∧ ∀ p ∈ ps.take n, p.2.length ≤ 1001) (m := ps.length) ⟨0, rfl, by omega, rfl, rfl, by simp⟩ ?_
  rintro P q n1 S1 ⟨n, rfl, hn, rfl, rfl, hm⟩ hP
  refine ifW_dec (fun hlt => ?_) fun hlt => ?_
  · have hn' : n < ps.length := by omega
    have hsl := (h.st.at hn').len
    have go : ps[n].2.length ≤ 1001 → ∀ p ∈ ps.take (n + 1), p.2.length ≤ 1001 := fun hx p hp => by
      rw [take_snoc hn'] at hp
      rcases List.mem_append.1 hp with hp | hp
      · exact hm p hp
      · rw [List.mem_singleton.1 hp]; exact hx
    refine h.stp hn' ?_
    rw [wrap_succ (by omega)]
    refine ifW_dec (fun h1 => ?_) fun h1 => ?_
    · refine h.stp hn' ?_
      refine ifW_ndec (fun h2 => hk 1 (by decide) (fun h => by cases h)) fun h2 => ?_
      exact hP _ _ _ (by omega) ⟨n + 1, rfl, by omega, rfl, rfl, go (by omega)⟩
    · exact hP _ _ _ (by omega) ⟨n + 1, rfl, by omega, rfl, rfl, go (by omega)⟩
  · have hn' : n = ps.length := by omega
    rw [hn', List.take_length] at hm
    exact hk 0 (by decide) fun _ => ⟨hlen, hm⟩
end
end Go.Proofs.YtfopfocedlbihaaDoor

/- Pages: the law of diaries that are written and read. -/
namespace Go.Proofs.YtfopfocedlbihaaDoor
open Go Go.Proofs.YtfopfocedlbihaaDoor.D
set_option linter.unusedVariables false
set_option linter.unusedSimpArgs false
noncomputable section

abbrev someO : Ord := (1, 0, 0, 0, 0, 0)
abbrev someS : List Stp := [(1, 0, 1), (3, 0, 1)]
theorem some_may : mayG someO 0 someS := by decide
theorem some_w : OrdW someO := by constructor <;> simp [i64]
set_option maxRecDepth 100000 in
theorem some_line : lineG someO 0 someS = [115, 116, 101, 112, 32, 48, 32, 48, 32, 61, 32, 48, 32, 103, 114, 97, 110, 116, 58, 48, 58, 49, 32, 109, 111, 118, 101, 58, 48, 58, 49] := by kernel_rfl
theorem s26 {S : St} {k : Value → St → Prop} (hk : ∀ (x : Pg) S', Ext S S' → pO x = someO → pE x = 0 → Sts S' (pS x) someS → k (sv G50 x) S') : WC E0 26 [] S k := by
  refine w26 ?_
  unfold c26
  have hL := Hld.start noB S
  refine hL.new fun b1 S1 hL _ _ => ?_
  refine hL.new fun b2 S2 hL _ _ => ?_
  refine hL.st 1 _ rfl (by kernel_rfl) rfl (Nat.le_of_ble_eq_true rfl) rfl rfl fun S3 hL _ => ?_
  refine hL.lda 1 rfl (by kernel_rfl) ((1, 0, 0, 0, 0, 0, 0, ⟨some ⟨b2, 0, none⟩, 2, 2⟩) : Pg) rfl ?_
  exact hk _ S3 hL.mod rfl rfl ⟨rfl, fun _ => ⟨b2, 0, _, _, _, _, rfl, hL.at 0 rfl, rfl⟩⟩
theorem s10 {S : St} {k : Value → St → Prop} (g : Gd S) (hk : ∀ S', Ext S S' → k (.bool true) S') : WC E0 10 [] S k := by
  refine w10 ?_
  unfold c10
  have hL := Cx.start (S := S) (P := fun _ => True) noB trivial Frm.true (fun _ h => h.elim)
  refine evC_of (s26 fun x S1 e1 hx1 hx2 hx3 => ⟨_, rfl, ?_⟩)
  have hL := hL.ext e1
  refine evC_of (s12 (g.ext hL.mod) (by rw [hx1]; exact some_w) hx3 fun S2 e2 => ⟨((lineGP (pO x) (pE x) someS).1, (lineGP (pO x) (pE x) someS).2), rfl, ?_⟩)
  have hL := hL.ext e2
  have hlp : lineGP (pO x) (pE x) someS = (lineG someO 0 someS, 0) := by rw [hx1, hx2]; exact if_pos some_may
  rw [hlp, some_line]
  have hrd := rdA_line some_may some_w
  rw [some_line] at hrd
  refine evC_of (s13 (s := [115, 116, 101, 112, 32, 48, 32, 48, 32, 61, 32, 48, 32, 103, 114, 97, 110, 116, 58, 48, 58, 49, 32, 109, 111, 118, 101, 58, 48, 58, 49]) (g.ext hL.mod) (by decide) fun y S3 e3 hy1 hy2 g3 h3 => ⟨(y, 0), by rw [hrd]; rfl, ?_⟩)
  rw [hrd] at hy1 hy2 g3
  have hL := hL.op e3 (fun _ h => h.elim) (fun _ h => h.elim) (P' := fun S => GrX cellsS 3 0 S (pS y) someS) g3 grX_frm (fun c hc => .inr (h3 c hc)) (fun c hc => grX_lt g3 hc)
  refine hL.new fun b1 S4 hL _ _ => ?_
  refine hL.st 0 _ rfl (by kernel_rfl) rfl (Nat.le_of_ble_eq_true rfl) rfl rfl fun S5 hL _ => ?_
  refine ifW_of (fun _ => ?_) fun h => by simp at h
  refine ifW_pos rfl ?_
  refine ifW_pos rfl ?_
  refine hL.lda 0 rfl (by kernel_rfl) y rfl ?_
  refine evC_of (s26 fun z S6 e6 hz1 hz2 hz3 => ⟨_, rfl, ?_⟩)
  have hL := hL.ext e6
  refine hL.lda 0 rfl (by kernel_rfl) y rfl ?_
  refine sameV_of ?_
  refine evC_of (s14 (GrX.of (f := cellsS) (sz := 3) (fun _ => rfl) hL.p) hz3 (by decide) fun S7 e7 => ⟨_, rfl, ?_⟩)
  have hs : sameG y someS z someS = true := sameG_iff.2 (by show (pO y, pE y, someS) = (pO z, pE z, someS); rw [hy1, hy2, hz1, hz2])
  rw [hs]
  exact hk S7 (hL.ext e7).mod
theorem map_w {ps : List PL} (hw : ∀ p ∈ ps, OrdW (pO p.1)) : ∀ x ∈ ps.map dG, OrdW x.1 := by
  intro x hx
  obtain ⟨p, hp, rfl⟩ := List.mem_map.1 hx
  exact hw p hp
theorem of_map {ps : List PL} {l : List Pgd} {p : Pgd → Prop} (e : ps.map dG = l) (h : ∀ x ∈ l, p x) : ∀ q ∈ ps, p (dG q) := fun q hq => h _ (by rw [← e]; exact List.mem_map_of_mem hq)
set_option maxHeartbeats 1000000 in
/-- The law. -/
theorem s4 {S : St} {s : Sl} {ps : List PL} {t : List UInt8} (g : Gd S) (h : Pgs S s ps) (hw : ∀ p ∈ ps, OrdW (pO p.1)) : WC E0 4 [.slice s.a s.len s.cap, strV t] S fun v _ => v = .bool true := by
  refine w4 s t ?_
  unfold c4
  have hl := h.len
  refine evC_of (s10 g fun S1 e1 => ⟨true, rfl, ?_⟩)
  refine evC_of (s11 (h.ext e1) fun n _ hn => ⟨n, rfl, ?_⟩)
  refine ifW_dec (fun _ => rfl) fun hn0 => ?_
  obtain ⟨hlen, hst⟩ := hn (by omega)
  refine ifW_dec (fun _ => rfl) fun htl => ?_
  have ht : t.length ≤ 4000 := by omega
  refine ifW_of (fun h => by cases h) fun _ => ?_
  refine loopW_ind (fun q (n1 : Int) S' => ∃ n : Nat, n1 = n ∧ n ≤ ps.length ∧ q = ps.length - n ∧ Ext S S') (m := ps.length) ⟨0, rfl, by omega, rfl, e1⟩ ?_
  rintro P q n1 S2 ⟨n, rfl, hn, rfl, e2⟩ hP
  refine ifW_dec (fun hlt => ?_) fun hlt => ?_
  · have hn' : n < ps.length := by omega
    have h2 := h.ext e2
    refine h2.ix hn' ?_
    have next : ∀ {S'}, Ext S S' → P (wrapI .i64 ((n : Int) + 1)) S' := fun e => by
      rw [wrap_succ (by omega)]
      exact hP _ _ _ (by omega) ⟨n + 1, rfl, by omega, rfl, e⟩
    have hx := hw ps[n] (List.getElem_mem hn')
    have hs1 := h2.st.at hn'
    have hsl := hst ps[n] (List.getElem_mem hn')
    refine evC_of (s12 (g.ext e2) hx hs1 fun S3 e3 => ⟨((lineGP (pO ps[n].1) (pE ps[n].1) ps[n].2).1, (lineGP (pO ps[n].1) (pE ps[n].1) ps[n].2).2), rfl, ?_⟩)
    have e3 : Ext S S3 := e2.tr e3
    by_cases hm : mayG (pO ps[n].1) (pE ps[n].1) ps[n].2
    case neg =>
      rw [show lineGP (pO ps[n].1) (pE ps[n].1) ps[n].2 = ([], 280) from if_neg hm]
      refine ifW_ndec (fun _ => next e3) fun h => by cases h
    rw [show lineGP (pO ps[n].1) (pE ps[n].1) ps[n].2 = (lineG (pO ps[n].1) (pE ps[n].1) ps[n].2, 0) from if_pos hm]
    refine ifW_ndec (fun h => (h rfl).elim) fun _ => ?_
    have hll : (lineG (pO ps[n].1) (pE ps[n].1) ps[n].2).length ≤ 70000 := lineG_len (x := dG ps[n]) hx hm
    have hrd := rdA_line hm hx
    have hL := (Cx.start (S := S) (P := fun _ => True) noB trivial Frm.true (fun _ h => h.elim)).ext e3
    refine evC_of (s13 (s := lineG (pO ps[n].1) (pE ps[n].1) ps[n].2) (g.ext e3) (by omega) fun y S4 e4 hy1 hy2 g3 h3 => ⟨(y, 0), by rw [hrd]; rfl, ?_⟩)
    rw [hrd] at hy1 hy2 g3
    have hL := hL.op e4 (fun _ h => h.elim) (fun _ h => h.elim) (P' := fun S => GrX cellsS 3 0 S (pS y) ps[n].2) g3 grX_frm (fun c hc => .inr (h3 c hc)) (fun c hc => grX_lt g3 hc)
    refine hL.new fun b3 S5 hL _ _ => ?_
    refine hL.st 0 _ rfl (by kernel_rfl) rfl (Nat.le_of_ble_eq_true rfl) rfl rfl fun S6 hL _ => ?_
    refine ifW_ndec (fun h => (h rfl).elim) fun _ => ?_
    refine hL.lda 0 rfl (by kernel_rfl) y rfl ?_
    have h6 := h.ext hL.mod
    refine h6.ix hn' ?_
    refine evC_of (s14 (GrX.of (f := cellsS) (sz := 3) (fun _ => rfl) hL.p) (h6.st.at hn') (by omega) fun S7 e7 => ⟨_, rfl, ?_⟩)
    have hs : sameG y ps[n].2 ps[n].1 ps[n].2 = true := sameG_iff.2 (by show (pO y, pE y, ps[n].2) = (pO ps[n].1, pE ps[n].1, ps[n].2); rw [hy1, hy2])
    rw [hs]
    refine ifW_of (fun h => by cases h) fun _ => ?_
    exact next (hL.ext e7).mod
  · refine evC_of (s15 (g.ext e2) (h.ext e2) (by omega) hw fun S3 e3 => ⟨((textGP (ps.map dG)).1, (textGP (ps.map dG)).2), rfl, ?_⟩)
    have e3 : Ext S S3 := e2.tr e3
    intro k1 hk1
    have key1 : ∀ S', Ext S S' → k1 PUnit.unit S' := by
      intro S6 e6
      refine hk1 _ _ ?_
      refine evC_of (s16 (g.ext e6) (by omega) fun sl qs S7 e7 g7 m7 h7 => ⟨(sl, (pgP t).2.1, (pgP t).2.2), rfl, ?_⟩)
      have e7 : Ext S S7 := e6.tr e7
      have hql : qs.length ≤ 4000 := by
        have := pg_len t
        rw [← m7, List.length_map] at this
        omega
      refine ifW_ndec (fun hf => ?_) fun hf => ?_
      · have h0 : (pgP t).1 = [] := pgA_bad t [] [] 0 hf
        have hl7 := g7.len
        rw [h0] at m7
        have hq : qs = [] := List.map_eq_nil_iff.1 m7
        refine ifW_of (fun _ => ?_) fun h => by cases h
        show Value.bool (eqI (sl.len : Int) 0) = _
        rw [hl7, hq, eqI_eq]; simp
      · have hf : (pgP t).2.2 = 0 := hf
        refine evC_of (s15 (g.ext e7) g7 (by omega) (of_map (p := fun x => OrdW x.1) m7 (pg_w t)) fun S8 e8 => ⟨((textGP (qs.map dG)).1, (textGP (qs.map dG)).2), rfl, ?_⟩)
        rw [m7, pg_back hf]
        refine ifW_of (fun _ => ?_) fun h => by cases h
        refine ifW_pos rfl ?_
        simp
    refine ifW_dec (fun hz => ?_) fun hz => key1 _ e3
    have hz : (textGP (ps.map dG)).2 = 0 := hz
    obtain ⟨z1, z2, z3⟩ := textGP_ok hz
    rw [z1]
    have hlt' := textG_len (map_w hw) z3
    rw [List.length_map] at hlt' z2
    refine evC_of (s16 (g.ext e3) (by omega) fun sl qs S9 e9 g9 m9 h9 => ⟨(sl, (pgP (textG (ps.map dG))).2.1, (pgP (textG (ps.map dG))).2.2), rfl, ?_⟩)
    have hpt := pg_text z3 (map_w hw) (by rw [List.length_map]; omega)
    rw [hpt] at m9 ⊢
    have m9 : qs.map dG = ps.map dG := m9
    have e9 : Ext S S9 := e3.tr e9
    have hql : qs.length = ps.length := by
      have := congrArg List.length m9
      rw [List.length_map, List.length_map] at this
      exact this
    refine ifW_ndec (fun h => (h rfl).elim) fun _ => ?_
    refine evC_of (s17 g9 (h.ext e9) (by omega) (fun p hp => ?_) fun b S10 e10 hb => ⟨b, rfl, ?_⟩)
    · have hm9 : dG p ∈ ps.map dG := by rw [← m9]; exact List.mem_map_of_mem hp
      obtain ⟨q, hq, e⟩ := List.mem_map.1 hm9
      have := hst q hq
      have e' : q.2 = p.2 := congrArg (fun d : Pgd => d.2.2) e
      rw [e'] at this
      omega
    · rw [hb.2 m9]
      refine ifW_of (fun h => by cases h) fun _ => ?_
      exact key1 _ (e9.tr e10)
end
end Go.Proofs.YtfopfocedlbihaaDoor

/- Many pages as an argument. -/
namespace Go.Proofs.YtfopfocedlbihaaDoor
open Go Go.ChangeShapes Go.WideShapes Go.ChangeAt Go.RowKit Go.Proofs.YtfopfocedlbihaaDoor.D
set_option linter.unusedVariables false
set_option linter.unusedSimpArgs false
noncomputable section
section
variable {H : Type} {enc : TypeId × Value → H} {W : World} {base b0 : Nat} {spare : Nat → Bool} {held : Bool} {r : Reach}
/-- A page, as it lies in memory. -/
abbrev WfP (W : World) (p : PL) : Prop := OrdW (pO p.1) ∧ Sts (argS E0 W) (pS p.1) p.2 ∧ ∀ a, (pS p.1).a = some a → a.spot = none
set_option maxRecDepth 100000 in
theorem read_pg {fuel : Nat} {cs : List Value} {r : DataW H × List MemPlace} (hsp : ∀ b, spare b = true) (h : DataW.trod enc Tryd.prog W base spare held fuel 51 cs = some r) : ∃ p : PL, WfP W p ∧ cs.map (nv (argN E0 W)) = fP p := by
  obtain ⟨hlen, fuel', hf⟩ := trod_struct und51p h
  have hl := fl51
  rw [show Tryd.prog.cellsOf 51 = 8 by kernel_rfl] at hlen
  obtain ⟨a0, a1, a2, a3, a4, a5, a6, a7, hcs⟩ := len8 hlen
  rw [hcs] at hf
  obtain ⟨_, h0⟩ := cut hl (t := 48) (o := 0) (by simp) hf
  obtain ⟨_, h1⟩ := cut hl (t := 43) (o := 6) (by simp) hf
  obtain ⟨⟨dd, pp⟩, h2⟩ := cut hl (t := 49) (o := 7) (by simp) hf
  rw [cells48p] at h0
  rw [show Tryd.prog.cellsOf 43 = 1 by kernel_rfl] at h1
  rw [show Tryd.prog.cellsOf 49 = 1 by kernel_rfl] at h2
  obtain ⟨o, hw, ho⟩ := read_ord h0
  obtain ⟨e, he, _⟩ := trod_int Tryd.underlying43 h1
  have h2 : DataW.trod enc Tryd.prog W base spare held fuel' 49 [a7] = some (dd, pp) := h2
  obtain ⟨s, l, n3, g3, _, _, _, g7⟩ := trod_slX (E := E0) (f := cellsS) (sz := 3) (Wf := fun _ => True) (fun _ => rfl) (by omega) Tryd.underlying49 cells76p (fun fuel cs r h _ => by
    obtain ⟨y, rfl⟩ := read_stp h
    exact ⟨y, trivial, by simp [cellsS]⟩) hsp h2
  simp at ho he
  obtain ⟨rfl, rfl, rfl, rfl, rfl, rfl⟩ := ho
  subst he
  refine ⟨(pgX o e s, l), ⟨hw, g3, g7⟩, ?_⟩
  rw [hcs]
  simp [encs, Sc.enc, n3]
set_option maxRecDepth 100000 in
theorem arg_pgs {v : Value} {d : DataW H} {ps : List MemPlace} (hsp : ∀ b, spare b = true) (hok : Value.okWide Tryd.prog W r b0 41 v) (h : DataW.Trod enc Tryd.prog W base spare held 41 v d ps) :
    ∃ (s : Sl) (l : List PL), nv (argN E0 W) v = .slice s.a s.len s.cap ∧ Pgs (argS E0 W) s l ∧ (∀ p ∈ l, OrdW (pO p.1)) ∧ ∀ p ∈ l, ∀ a, (pS p.1).a = some a → a.spot = none := by
  obtain ⟨s, l, h1, h2, h3, _⟩ := arg_slX (E := E0) (f := fP) (sz := 8) (Wf := WfP W) (fun _ => rfl) (by omega) Tryd.underlying41 (by kernel_rfl) (fun fuel cs r h _ => read_pg hsp h) hsp hok h
  exact ⟨s, l, h1, ⟨h2, fun p hp => (h3 p hp).2.1⟩, fun p hp => (h3 p hp).1, fun p hp => (h3 p hp).2.2⟩
end
end
end Go.Proofs.YtfopfocedlbihaaDoor
