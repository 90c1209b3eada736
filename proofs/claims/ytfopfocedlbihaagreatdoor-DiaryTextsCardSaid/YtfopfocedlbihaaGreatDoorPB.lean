/- Parts of the proof, put together. -/
import Derived.Test.YtfopfocedlbihaaGreatDoorPA
import Derived.Test.YtfopfocedlbihaaGreatDoorOC
import Derived.Test.YtfopfocedlbihaaGreatDoorDK
/- Pages: a text's diary. -/
namespace Go.Proofs.YtfopfocedlbihaaGreatDoor
open Go Go.Proofs.YtfopfocedlbihaaGreatDoor.D
set_option linter.unusedVariables false
set_option linter.unusedSimpArgs false
noncomputable section

abbrev boxesT (b5 b4 bC b3 b2 b1 : Nat) (st : DObj) (r : List UInt8) (n : Nat) (sl : Sl) : List (Nat × DObj) :=
  [(b5, st), (b4, .deferred), (bC, .cells [strV r] none false none), (b3, .cells [.int .i64 0] none false none), (b2, .cells [.int .i64 (n : Int)] none false none), (b1, .cells [.slice sl.a sl.len sl.cap] none false none)]
theorem dG_eq {x : Pg} {d : Pgd} (h1 : pO x = d.1) (h2 : pE x = d.2.1) : dG (x, d.2.2) = d := by
  show (pO x, pE x, d.2.2) = d
  rw [h1, h2]
set_option maxHeartbeats 1000000 in
theorem s7 {S : St} {s : List UInt8} {k : Value → St → Prop} (g : Gd S) (hlen : s.length ≤ 10000000)
    (hk : ∀ sl ps S', Ext S S' → Pgs S' sl ps → ps.map dG = (pgP s).1 → (∀ c, pgO sl ps c → S.next ≤ c) → k (.tuple #[.slice sl.a sl.len sl.cap, .int .i64 (pgP s).2.1, .int .i64 (pgP s).2.2]) S') : WC E0 7 [strV s] S k := by
  refine w7 s ?_
  unfold c7
  have hL := (Pk.start S).cx
  have hnew := (Pk.start S).new
  refine hL.new fun b1 S1 hL _ _ => ?_
  refine hL.new fun b2 S2 hL _ _ => ?_
  refine hL.new fun b3 S3 hL _ _ => ?_
  refine evC_of (w21 _ ?_)
  unfold c21
  refine hL.new fun bC S4 hL _ _ => ?_
  refine ⟨_, rfl, ?_⟩
  refine hL.new fun b4 S5 hL _ _ => ?_
  rintro b5 S6 L rfl rfl hLL hR
  have hL := hL.record (o := L .ready none)
  generalize (S5.alloc (L .ready none)).2 = S6 at hL ⊢
  generalize hb5 : S5.next = b5 at hL hR ⊢
  refine WG_of rfl (s40 (fun r S' => ∃ (n : Nat) (acc : List PL) (sl : Sl), Pk S S' (boxesT b5 b4 bC b3 b2 b1 (L .ready none) r n sl) sl acc acc ∧ pgA [] (acc.map dG) n r = pgP s ∧ n + r.length ≤ s.length ∧ acc.length = n)
    (by omega) ⟨0, [], ⟨none, 0, 0⟩, ⟨hL, hnew, fun p hp => by cases hp⟩, rfl, by omega, rfl⟩ (fun r S' ⟨n, acc, sl, hP, _⟩ => hP.cx.at 2 rfl) ?_ ?_)
  · rintro one rest S' S7 ⟨n, acc, sl, hP, hp, hn, hac⟩ h1 horl hor ha m hnx'
    refine hR one S7 _ ?_
    have hL := hP.cx.set 2 (o' := .cells [strV rest] none false none) rfl m ha
    rw [List.length_append] at hn horl
    have hol : 0 < one.length := List.length_pos_iff.2 h1
    obtain ⟨u, hu, hun⟩ : ∃ u, (one = u ++ [10] ∨ (one = u ∧ 10 ∉ u)) ∧ 10 ∉ u := by
      rcases hor with ⟨u, h, h'⟩ | ⟨_, h'⟩
      · exact ⟨u, .inl h, h'⟩
      · exact ⟨one, .inr ⟨rfl, h'⟩, h'⟩
    have hul : u.length ≤ one.length := by
      rcases hu with h | ⟨h, _⟩
      · rw [h, List.length_append]; omega
      · rw [h]; exact Nat.le_refl _
    (first | refine hL.has 0 rfl ?_ | refine hL.has 1 rfl ?_ | refine hL.has 2 rfl ?_ | refine hL.has 3 rfl ?_ | refine hL.has 4 rfl ?_ | refine hL.has 5 rfl ?_ | refine hL.has 6 rfl ?_ | refine hL.has 7 rfl ?_)
    (first | refine hL.has 0 rfl ?_ | refine hL.has 1 rfl ?_ | refine hL.has 2 rfl ?_ | refine hL.has 3 rfl ?_ | refine hL.has 4 rfl ?_ | refine hL.has 5 rfl ?_ | refine hL.has 6 rfl ?_ | refine hL.has 7 rfl ?_)
    refine hL.upd 0 rfl fun S8 hL _ => ?_
    refine hL.ld 4 rfl (by kernel_rfl) ((n : Nat) : Int) rfl ?_
    rw [wrap_succ (by omega)]
    refine hL.st 4 _ rfl (by kernel_rfl) rfl (Nat.le_of_ble_eq_true rfl) rfl rfl fun S9 hL _ => ?_
    refine evC_of (s23 h1 (by omega) hu ⟨u, rfl, ?_⟩)
    refine evC_of (s22 (g.ext hL.mod) (by omega) fun x S11 e11 hx1 hx2 g3 h3 => ⟨(x, (rdA u).2), rfl, ?_⟩)
    have hQ := (hP.with hL).read e11 g3 h3
    have hL := hQ.cx
    have h2 := rdA_2 u
    have hpl : ∀ v, one = v ++ [10] → pgP s = if (rdA u).2 ≠ 0 ∨ 10000 < n + 1 then ([], ((n + 1 : Nat) : Int), 280) else pgA [] ((acc ++ [(x, (rdA u).1.2.2)]).map dG) (n + 1) rest := by
      intro v hv
      have hvu : one = u ++ [10] := by
        rcases hu with h | ⟨h, h'⟩
        · exact h
        · exact (h' (by rw [← h, hv]; simp)).elim
      rw [← hp, hvu, pgA_line u (acc.map dG) n rest hun, List.map_append, List.map_singleton, dG_eq hx1 hx2]
    have hpn : (¬ ∃ v, one = v ++ [10]) → pgP s = ([], ((n + 1 : Nat) : Int), 280) := by
      intro hno
      rcases hor with ⟨v, h, _⟩ | ⟨h, h'⟩
      · exact (hno ⟨v, h⟩).elim
      · rw [← hp, h, List.append_nil, pgA_last one (acc.map dG) n h' h1]
    generalize (rdA u).1.2.2 = l at hQ hL hpl ⊢
    generalize (rdA u).2 = y at h2 hpl ⊢
    refine hL.new fun b6 S12 hL _ _ => ?_
    refine hL.st 0 _ rfl (by kernel_rfl) rfl (Nat.le_of_ble_eq_true rfl) rfl rfl fun S13 hL _ => ?_
    intro k3 hk3
    have key : ∀ t : Bool, (t = true → pgP s = ([], ((n + 1 : Nat) : Int), 280)) → (t = false → pgA [] ((acc ++ [(x, l)]).map dG) (n + 1) rest = pgP s) → k3 t S13 := by
      intro t ht1 ht2
      refine hk3 _ _ ?_
      refine ifW_of (fun hb => ?_) fun hb => ?_
      · have hps := ht1 hb
        refine hL.ld 5 rfl (by kernel_rfl) (((n + 1 : Nat)) : Int) rfl ?_
        refine hL.st 6 _ rfl (by kernel_rfl) rfl (Nat.le_of_ble_eq_true rfl) rfl rfl fun S15 hL _ => ?_
        refine hL.ld 5 rfl (by kernel_rfl) (((n + 1 : Nat)) : Int) rfl ?_
        refine sameV_of ?_
        refine hL.st 5 _ rfl (by kernel_rfl) rfl (Nat.le_of_ble_eq_true rfl) rfl rfl fun S16 hL _ => ?_
        refine hL.st 4 _ rfl (by kernel_rfl) rfl (Nat.le_of_ble_eq_true rfl) rfl rfl fun S17 hL _ => ?_
        refine hL.has 1 rfl ?_
        refine hL.upd 1 rfl fun S18 hL _ => ?_
        refine ⟨fun h => (by cases h), fun _ => .inr (.inl ?_)⟩
        refine hL.has 1 rfl ?_
        refine hL.upd 1 rfl fun S19 hL _ => ?_
        refine hL.has 2 rfl ?_
        refine hL.upd 2 rfl fun S20 hL _ => ?_
        refine hL.ld 6 rfl (by kernel_rfl) (⟨none, 0, 0⟩ : Sl) rfl ?_
        refine hL.ld 5 rfl (by kernel_rfl) (((n + 1 : Nat)) : Int) rfl ?_
        refine hL.ld 4 rfl (by kernel_rfl) (280 : Int) rfl ?_
        have := hk ⟨none, 0, 0⟩ [] S20 hL.mod ⟨⟨rfl, fun h => (h rfl).elim⟩, fun p hp => by cases hp⟩ (by rw [hps]; rfl) (Pk.start S).new
        rw [hps] at this
        exact this
      · have hps := ht2 hb
        refine hL.ld 6 rfl (by kernel_rfl) sl rfl ?_
        refine hL.lda 0 rfl (by kernel_rfl) x rfl ?_
        refine hL.new fun b7 S19 hL _ _ => ?_
        refine (hQ.with hL).app 0 rfl (by omega) fun s' S20 hQ => ?_
        have hL := hQ.cx
        refine hL.st 7 _ rfl (by kernel_rfl) rfl (Nat.le_of_ble_eq_true rfl) rfl rfl fun S21 hL _ => ?_
        refine hL.has 2 rfl ?_
        refine hL.upd 2 rfl fun S22 hL _ => ?_
        refine ⟨fun _ => ⟨n + 1, acc ++ [(x, l)], s', hQ.with (hL.tl 2), hps, by omega, by simp; omega⟩, fun h => by cases h⟩
    refine ifW_ndec (fun hy => ?_) fun hy => ?_
    · have hy : ¬ y = 0 := hy
      refine key true (fun _ => ?_) (fun h => by cases h)
      by_cases hv : ∃ v, one = v ++ [10]
      · obtain ⟨v, hv⟩ := hv
        rw [hpl v hv, if_pos (.inl hy)]
      · exact hpn hv
    have hy : y = 0 := hy
    refine hL.ld 5 rfl (by kernel_rfl) (((n + 1 : Nat)) : Int) rfl ?_
    refine ifW_dec (fun hn1 => ?_) fun hn1 => ?_
    · refine key true (fun _ => ?_) (fun h => by cases h)
      by_cases hv : ∃ v, one = v ++ [10]
      · obtain ⟨v, hv⟩ := hv
        rw [hpl v hv, if_pos (.inr (by omega))]
      · exact hpn hv
    refine evC_of (s24 h1 (by omega) fun t ht => ⟨t, rfl, ?_⟩)
    refine key _ (fun h => ?_) (fun h => ?_)
    · exact hpn fun hv => by rw [ht.2 hv] at h; cases h
    · have hv : ∃ v, one = v ++ [10] := ht.1 (by simpa using h)
      obtain ⟨v, hv⟩ := hv
      rw [hpl v hv, if_neg (fun h => h.elim (fun h => h hy) (fun h => by omega))]
  · rintro S' ⟨n, acc, sl, hQ, hp, hn, hac⟩
    left
    have hL := hQ.cx
    rw [pgA, if_pos rfl] at hp
    refine hL.has 0 rfl ?_
    refine hL.upd 0 rfl fun S25 hL _ => ?_
    refine hL.ld 5 rfl (by kernel_rfl) sl rfl ?_
    refine hL.st 5 _ rfl (by kernel_rfl) rfl (Nat.le_of_ble_eq_true rfl) rfl rfl fun S26 hL _ => ?_
    refine hL.st 4 _ rfl (by kernel_rfl) rfl (Nat.le_of_ble_eq_true rfl) rfl rfl fun S27 hL _ => ?_
    refine hL.st 3 _ rfl (by kernel_rfl) rfl (Nat.le_of_ble_eq_true rfl) rfl rfl fun S28 hL _ => ?_
    refine hL.has 1 rfl ?_
    refine hL.upd 1 rfl fun S29 hL _ => ?_
    refine hL.ld 5 rfl (by kernel_rfl) sl rfl ?_
    refine hL.ld 4 rfl (by kernel_rfl) (0 : Int) rfl ?_
    refine hL.ld 3 rfl (by kernel_rfl) (0 : Int) rfl ?_
    rw [← hp] at hk
    exact hk sl acc S29 hL.mod ⟨GrX.of (f := fP) (sz := 8) (fun _ => rfl) hL.p.1, hL.p.2⟩ rfl hQ.new
end
end Go.Proofs.YtfopfocedlbihaaGreatDoor

/- Pages: two diaries; how many; the law of diaries that are written and read. -/
namespace Go.Proofs.YtfopfocedlbihaaGreatDoor
open Go Go.Proofs.YtfopfocedlbihaaGreatDoor.D
set_option linter.unusedVariables false
set_option linter.unusedSimpArgs false
noncomputable section

theorem sameG_iff {x y : Pg} {l m : List Stp} : sameG x l y m = true ↔ dG (x, l) = dG (y, m) := by
  unfold sameG
  rw [decide_eq_true_iff]
  refine ⟨fun h => ?_, fun h => ?_⟩
  · show (pO x, pE x, l) = (pO y, pE y, m)
    rw [h.1, h.2.1, h.2.2]
  · exact ⟨congrArg (fun d : Pgd => d.1) h, congrArg (fun d : Pgd => d.2.1) h, congrArg (fun d : Pgd => d.2.2) h⟩
theorem s11 {S : St} {s1 s2 : Sl} {p1 p2 : List PL} {k : Value → St → Prop} (h1 : Pgs S s1 p1) (h2 : Pgs S s2 p2) (hlen : p1.length ≤ 100000000) (hst : ∀ p ∈ p1, p.2.length ≤ 100000000)
    (hk : ∀ t S', Ext S S' → (t = true ↔ p1.map dG = p2.map dG) → k (.bool t) S') : WC E0 11 [.slice s1.a s1.len s1.cap, .slice s2.a s2.len s2.cap] S k := by
  refine w11 s1 s2 ?_
  unfold c11
  have e1 := h1.len
  have e2 := h2.len
  have no : ∀ {S'}, p1.map dG ≠ p2.map dG → Ext S S' → k (.bool false) S' := fun h e => hk _ _ e ⟨fun h => (by cases h), fun h' => (h h').elim⟩
  refine ifW_ndec (fun hne => no (fun e => hne (by have := congrArg List.length e; rw [List.length_map, List.length_map] at this; rw [e1, e2, this])) (Mod.refl _ _)) fun heq => ?_
  have heq : p1.length = p2.length := by omega
  refine loopW_ind (fun q (n1 : Int) S' => ∃ n : Nat, n1 = n ∧ n ≤ p1.length ∧ q = p1.length - n ∧ Ext S S' ∧ (p1.take n).map dG = (p2.take n).map dG) (m := p1.length) ⟨0, rfl, by omega, rfl, Mod.refl _ _, by simp⟩ ?_
  rintro P q n1 S1 ⟨n, rfl, hn, rfl, x1, hm⟩ hP
  have g1 := h1.ext x1
  have g2 := h2.ext x1
  refine ifW_dec (fun hlt => ?_) fun hlt => ?_
  · have n1 : n < p1.length := by omega
    have n2 : n < p2.length := by omega
    refine g1.ix n1 ?_
    refine g2.ix n2 ?_
    refine evC_of (s26 (g1.st.at n1) (g2.st.at n2) (hst _ (List.getElem_mem n1)) fun S2 x2 => ⟨_, rfl, ?_⟩)
    refine ifW_of (fun hb => ?_) fun hb => ?_
    · have hb : sameG p1[n].1 p1[n].2 p2[n].1 p2[n].2 = false := by simpa using hb
      refine no (fun e => ?_) (x1.tr x2)
      have := congrArg (fun l => l[n]?) e
      simp only [List.getElem?_map, List.getElem?_eq_getElem n1, List.getElem?_eq_getElem n2, Option.map_some, Option.some.injEq] at this
      have := sameG_iff.2 (show dG (p1[n].1, p1[n].2) = dG (p2[n].1, p2[n].2) from this)
      rw [hb] at this; cases this
    · have hb : sameG p1[n].1 p1[n].2 p2[n].1 p2[n].2 = true := by simpa using hb
      rw [wrap_succ (by omega)]
      refine hP _ _ _ (by omega) ⟨n + 1, rfl, by omega, rfl, x1.tr x2, ?_⟩
      rw [take_snoc n1, take_snoc n2, List.map_append, List.map_append, hm]
      show _ ++ [dG p1[n]] = _ ++ [dG p2[n]]
      rw [show dG p1[n] = dG p2[n] from sameG_iff.1 hb]
  · have hn' : n = p1.length := by omega
    have hd : p1.map dG = p2.map dG := by
      rw [hn', List.take_length, heq, List.take_length] at hm
      exact hm
    exact hk _ S1 x1 ⟨fun _ => hd, fun _ => rfl⟩
/-- A page's steps' slice. -/
theorem Pgs.stp {S : St} {s : Sl} {ps : List PL} (h : Pgs S s ps) {n : Nat} (hn : n < ps.length) {k : Sl → Prop} (hk : k (pS ps[n].1)) : idxW s.a s.len (n : Int) fun b1 b2 => ptrW (some ⟨b1, b2 + Int.toNat (n : Int) * 8, none⟩) fun b3 b4 => evV tS (loadV E0 S 33 (.pointer (some ⟨b3, b4 + 7, none⟩))) k := by
  refine h.sl.idxL (f := fP) (sz := 8) (fun _ => rfl) h.sl.len hn fun b o cs m ro fz hat _ hv => ?_
  refine ptrW_of ?_
  exact evV_of (ty := tS) (pS ps[n].1) ((load_one hat (by kernel_rfl)).trans ((at_take hv (j := 7) (by omega)).trans rfl)) hk
theorem s4 {S : St} {s : Sl} {ps : List PL} {k : Value → St → Prop} (h : Pgs S s ps) (hk : ∀ n : Int, 0 ≤ n → (n = 0 → ps.length ≤ 60 ∧ ∀ p ∈ ps, p.2.length ≤ 1001) → k (.int .i64 n) S) : WC E0 4 [.slice s.a s.len s.cap] S k := by
  refine w4 s ?_
  unfold c4
  have hl := h.len
  refine ifW_dec (fun hb => hk 1 (by decide) (fun h => by cases h)) fun hb => ?_
  have hlen : ps.length ≤ 60 := by omega
  refine loopW_ind (fun q (n1 : Int) S' => ∃ n : Nat, n1 = n ∧ n ≤ ps.length ∧ q = ps.length - n ∧ S' = S ∧ ∀ p ∈ ps.take n, p.2.length ≤ 1001) (m := ps.length) ⟨0, rfl, by omega, rfl, rfl, by simp⟩ ?_
  rintro P q n1 S1 ⟨n, rfl, hn, rfl, rfl, hm⟩ hP
  refine ifW_dec (fun hlt => ?_) fun hlt => ?_
  · have hn' : n < ps.length := by omega
    have hsl := (h.st.at hn').len
    have go : ps[n].2.length ≤ 1001 → ∀ p ∈ ps.take (n + 1), p.2.length ≤ 1001 := fun hx p hp => by
      rw [take_snoc hn'] at hp
      rcases List.mem_append.1 hp with hp | hp
      · exact hm p hp
      · rw [List.mem_singleton.1 hp]; exact hx
    refine h.stp hn' ?_
    rw [wrap_succ (by omega)]
    refine ifW_dec (fun h1 => ?_) fun h1 => ?_
    · refine h.stp hn' ?_
      refine ifW_ndec (fun h2 => hk 1 (by decide) (fun h => by cases h)) fun h2 => ?_
      exact hP _ _ _ (by omega) ⟨n + 1, rfl, by omega, rfl, rfl, go (by omega)⟩
    · exact hP _ _ _ (by omega) ⟨n + 1, rfl, by omega, rfl, rfl, go (by omega)⟩
  · have hn' : n = ps.length := by omega
    rw [hn', List.take_length] at hm
    exact hk 0 (by decide) fun _ => ⟨hlen, hm⟩
end
end Go.Proofs.YtfopfocedlbihaaGreatDoor

/- Many pages as an argument. -/
namespace Go.Proofs.YtfopfocedlbihaaGreatDoor
open Go Go.ChangeShapes Go.WideShapes Go.ChangeAt Go.RowKit Go.Proofs.YtfopfocedlbihaaGreatDoor.D
set_option linter.unusedVariables false
set_option linter.unusedSimpArgs false
noncomputable section
section
variable {H : Type} {enc : TypeId × Value → H} {W : World} {base b0 : Nat} {spare : Nat → Bool} {held : Bool} {r : Reach}
/-- A page, as it lies in memory. -/
abbrev WfP (W : World) (p : PL) : Prop := OrdW (pO p.1) ∧ Sts (argS E0 W) (pS p.1) p.2 ∧ ∀ a, (pS p.1).a = some a → a.spot = none
set_option maxRecDepth 100000 in
theorem read_pg {fuel : Nat} {cs : List Value} {r : DataW H × List MemPlace} (hsp : ∀ b, spare b = true) (h : DataW.trod enc Tryz.prog W base spare held fuel 39 cs = some r) : ∃ p : PL, WfP W p ∧ cs.map (nv (argN E0 W)) = fP p := by
  obtain ⟨hlen, fuel', hf⟩ := trod_struct und39p h
  have hl := fl39
  rw [show Tryz.prog.cellsOf 39 = 8 by kernel_rfl] at hlen
  obtain ⟨a0, a1, a2, a3, a4, a5, a6, a7, hcs⟩ := len8 hlen
  rw [hcs] at hf
  obtain ⟨_, h0⟩ := cut hl (t := 37) (o := 0) (by simp) hf
  obtain ⟨_, h1⟩ := cut hl (t := 24) (o := 6) (by simp) hf
  obtain ⟨⟨dd, pp⟩, h2⟩ := cut hl (t := 33) (o := 7) (by simp) hf
  rw [cells37p] at h0
  rw [show Tryz.prog.cellsOf 24 = 1 by kernel_rfl] at h1
  rw [show Tryz.prog.cellsOf 33 = 1 by kernel_rfl] at h2
  obtain ⟨o, hw, ho⟩ := read_ord h0
  obtain ⟨e, he, _⟩ := trod_int Tryz.underlying24 h1
  have h2 : DataW.trod enc Tryz.prog W base spare held fuel' 33 [a7] = some (dd, pp) := h2
  obtain ⟨s, l, n3, g3, _, _, _, g7⟩ := trod_slX (E := E0) (f := cellsS) (sz := 3) (Wf := fun _ => True) (fun _ => rfl) (by omega) Tryz.underlying33 cells41p (fun fuel cs r h _ => by
    obtain ⟨y, rfl⟩ := read_stp h
    exact ⟨y, trivial, by simp [cellsS]⟩) hsp h2
  simp at ho he
  obtain ⟨rfl, rfl, rfl, rfl, rfl, rfl⟩ := ho
  subst he
  refine ⟨(pgX o e s, l), ⟨hw, g3, g7⟩, ?_⟩
  rw [hcs]
  simp [encs, Sc.enc, n3]
set_option maxRecDepth 100000 in
theorem arg_pgs {v : Value} {d : DataW H} {ps : List MemPlace} (hsp : ∀ b, spare b = true) (hok : Value.okWide Tryz.prog W r b0 22 v) (h : DataW.Trod enc Tryz.prog W base spare held 22 v d ps) :
    ∃ (s : Sl) (l : List PL), nv (argN E0 W) v = .slice s.a s.len s.cap ∧ Pgs (argS E0 W) s l ∧ (∀ p ∈ l, OrdW (pO p.1)) ∧ ∀ p ∈ l, ∀ a, (pS p.1).a = some a → a.spot = none := by
  obtain ⟨s, l, h1, h2, h3, _⟩ := arg_slX (E := E0) (f := fP) (sz := 8) (Wf := WfP W) (fun _ => rfl) (by omega) Tryz.underlying22 (by kernel_rfl) (fun fuel cs r h _ => read_pg hsp h) hsp hok h
  exact ⟨s, l, h1, ⟨h2, fun p hp => (h3 p hp).2.1⟩, fun p hp => (h3 p hp).1, fun p hp => (h3 p hp).2.2⟩
end
end
end Go.Proofs.YtfopfocedlbihaaGreatDoor
