/- Parts of the proof, put together. -/
import Derived.Test.YtfopfocedlbihaaGreatDoorDJ
import Derived.Test.YtfopfocedlbihaaGreatDoorOD
/- Pages: steps of words. -/
namespace Go.Proofs.YtfopfocedlbihaaGreatDoor
open Go Go.Proofs.YtfopfocedlbihaaGreatDoor.D
set_option linter.unusedVariables false
set_option linter.unusedSimpArgs false
noncomputable section

def kdS (w : List UInt8) : Nat → Int
  | 0 => 0
  | n + 1 => if 0 < n ∧ nmS (n : Int) = w then (n : Int) else kdS w n
theorem kdS_4 (w : List UInt8) : kdS w 4 = kindS w := by
  unfold kdS kdS kdS kdS kdS kindS
  simp only [Nat.zero_lt_succ, true_and, Nat.lt_irrefl, false_and, if_false]
  by_cases h3 : nmS 3 = w
  · rw [if_pos (show nmS ((3 : Nat) : Int) = w from h3), if_pos h3.symm]; rfl
  rw [if_neg (show ¬ nmS ((3 : Nat) : Int) = w from h3), if_neg (show ¬ w = nmS 3 from fun e => h3 e.symm)]
  by_cases h2 : nmS 2 = w
  · rw [if_pos (show nmS ((2 : Nat) : Int) = w from h2), if_pos h2.symm]; rfl
  rw [if_neg (show ¬ nmS ((2 : Nat) : Int) = w from h2), if_neg (show ¬ w = nmS 2 from fun e => h2 e.symm)]
  by_cases h1 : nmS 1 = w
  · rw [if_pos (show nmS ((1 : Nat) : Int) = w from h1), if_pos h1.symm]; rfl
  rw [if_neg (show ¬ nmS ((1 : Nat) : Int) = w from h1), if_neg (show ¬ w = nmS 1 from fun e => h1 e.symm)]
theorem cut_len (s sep : List UInt8) : (Lib.cut s sep).1.length ≤ s.length ∧ (Lib.cut s sep).2.1.length ≤ s.length := by
  unfold Lib.cut
  split
  · simp; omega
  · simp
theorem s70 {S : St} {w : List UInt8} {k : Value → St → Prop} (g : Gd S) (hlen : w.length ≤ 100000000) (hk : ∀ S', Ext S S' → k (sv G40 (stepA w)) S') : WC E0 70 [strV w] S k := by
  refine w70 w ?_
  unfold c70
  have hL := Cx.start (S := S) (P := fun _ => True) noB trivial Frm.true (fun _ h => h.elim)
  refine hL.new fun b1 S1 hL _ _ => ?_
  have c1 := cut_len w [58]
  have c2 := cut_len (Lib.cut w [58]).2.1 [58]
  refine evC_of (s42 (g.ext hL.mod).g hlen ⟨((Lib.cut w [58]).1, (Lib.cut w [58]).2.1, (Lib.cut w [58]).2.2), rfl, ?_⟩)
  refine evC_of (s42 (g.ext hL.mod).g (by show (Lib.cut w [58]).2.1.length ≤ _; omega) ⟨((Lib.cut (Lib.cut w [58]).2.1 [58]).1, (Lib.cut (Lib.cut w [58]).2.1 [58]).2.1, (Lib.cut (Lib.cut w [58]).2.1 [58]).2.2), rfl, ?_⟩)
  refine evC_of (s44 (g.ext hL.mod).g (by show (Lib.cut (Lib.cut w [58]).2.1 [58]).1.length ≤ _; omega) ⟨_, rfl, ?_⟩)
  refine evC_of (s44 (g.ext hL.mod).g (by show (Lib.cut (Lib.cut w [58]).2.1 [58]).2.1.length ≤ _; omega) ⟨_, rfl, ?_⟩)
  have hst : stepA w = (kdS (Lib.cut w [58]).1 4, numA (Lib.cut (Lib.cut w [58]).2.1 [58]).1, numA (Lib.cut (Lib.cut w [58]).2.1 [58]).2.1) := by rw [kdS_4]; rfl
  rw [hst] at hk
  generalize numA (Lib.cut (Lib.cut w [58]).2.1 [58]).1 = n1 at hk ⊢
  generalize numA (Lib.cut (Lib.cut w [58]).2.1 [58]).2.1 = n2 at hk ⊢
  generalize (Lib.cut w [58]).1 = kd at hk ⊢
  refine hL.new fun b2 S6 hL _ _ => ?_
  refine hL.st 0 _ rfl (by kernel_rfl) rfl (Nat.le_of_ble_eq_true rfl) rfl rfl fun S7 hL _ => ?_
  refine loopW_ind (fun q (n3 : Int) S' => ∃ n : Nat, n3 = n ∧ n ≤ 4 ∧ q = 4 - n ∧ Cx noB S S' [(b2, .cells (cellsS (kdS kd n, n1, n2)) none false none), (b1, .cells [.int .i64 0, .int .i64 0, .int .i64 0] none false none)] noB (fun _ => True)) (m := 4) ⟨0, rfl, by omega, rfl, hL⟩ ?_
  rintro P q n3 S8 ⟨n, rfl, hn, rfl, hL⟩ hP
  refine ifW_dec (fun hlt => ?_) fun hlt => ?_
  · have hw : wrapI .i64 ((n : Int) + 1) = ((n + 1 : Nat) : Int) := wrap_succ (by omega)
    have hsucc : kdS kd (n + 1) = if 0 < n ∧ nmS (n : Int) = kd then (n : Int) else kdS kd n := rfl
    rw [hw]
    refine ifW_dec (fun hpos => ?_) fun hpos => ?_
    · refine ⟨0, 0, rfl, by omega, by omega, ?_⟩
      obtain ⟨more, ro, fz, hat⟩ := (g.ext hL.mod).d
      refine evV_of (ty := tT) (nmS (n : Int)) ((load_one hat (by kernel_rfl)).trans (tabD_get (by omega) (by omega))) ?_
      refine ifW_of (fun h => ?_) fun h => ?_
      · have h : nmS (n : Int) = kd := by simpa using h
        rw [if_pos ⟨by omega, h⟩] at hsucc
        refine ptrW_of ?_
        refine hL.st 0 _ rfl (by kernel_rfl) rfl (Nat.le_of_ble_eq_true rfl) rfl rfl fun S9 hL _ => ?_
        exact hP _ _ _ (by omega) ⟨n + 1, rfl, by omega, rfl, by rw [hsucc]; exact hL⟩
      · have h : ¬ nmS (n : Int) = kd := by simpa using h
        rw [if_neg (fun h' => h h'.2)] at hsucc
        exact hP _ _ _ (by omega) ⟨n + 1, rfl, by omega, rfl, by rw [hsucc]; exact hL⟩
    · rw [if_neg (fun h' => by omega)] at hsucc
      exact hP _ _ _ (by omega) ⟨n + 1, rfl, by omega, rfl, by rw [hsucc]; exact hL⟩
  · have hn4 : n = 4 := by omega
    subst hn4
    refine hL.lda 0 rfl (by kernel_rfl) (kdS kd 4, n1, n2) rfl ?_
    refine hL.st 1 _ rfl (by kernel_rfl) rfl (Nat.le_of_ble_eq_true rfl) rfl rfl fun S10 hL _ => ?_
    refine hL.lda 1 rfl (by kernel_rfl) (kdS kd 4, n1, n2) rfl ?_
    exact hk S10 hL.mod
/-- The steps of words, one by one. -/
theorem s69 {y : Value} {c1 : Nat} {S : St} {s : Sl} {ws : List (List UInt8)} (hlen : ws.length ≤ 100000000) (hwl : ∀ w ∈ ws, w.length ≤ 100000000) (I : Nat → St → Prop) {Q : St → Prop} (ha : At S c1 (.cells [.slice s.a s.len s.cap] none false none))
    (hm : ∀ i S', I i S' → Gd S' ∧ SlOf strC 1 S' s ws) (h0 : I 0 S) (hext : ∀ i S' S'', I i S' → Ext S' S'' → I i S'')
    (hstep : ∀ i (hi : i < ws.length) S', I i S' → evY E0 tB y [sv G40 (stepA ws[i])] S' fun t S'' => (t = true → I (i + 1) S'') ∧ (t = false → Q S''))
    (hend : ∀ S', I ws.length S' → Q S') : WC E0 69 [y, .pointer (some ⟨c1, 0, none⟩)] S fun _ S' => Q S' := by
  refine w69 y c1 ?_
  unfold c69
  refine evV_of (ty := tS) s (load_one ha (by kernel_rfl)) ?_
  refine loopW_ind (fun q (x : Int) S' => ∃ n : Nat, x = n ∧ n ≤ ws.length ∧ q = ws.length - n ∧ I n S') (m := ws.length) ⟨0, rfl, by omega, rfl, h0⟩ ?_
  rintro P q x S1 ⟨n, rfl, h1, rfl, hin⟩ hP
  obtain ⟨gd, hsl⟩ := hm n S1 hin
  have hl := hsl.len
  refine ifW_dec (fun hlt => ?_) fun hlt => ?_
  · have hn : n < ws.length := by omega
    refine SlOf.str hsl hn ?_
    refine evC_of (s70 gd (hwl _ (List.getElem_mem hn)) fun S2 e2 => ⟨_, rfl, ?_⟩)
    refine WV.mono (hstep n hn S2 (hext n S1 S2 hin e2)) ?_
    rintro v S3 ⟨b, rfl, hb1, hb2⟩
    refine ⟨b, rfl, ifW_of (fun h => hb2 (by simpa using h)) fun h => ?_⟩
    rw [wrap_succ (by omega)]
    exact hP _ _ _ (by omega) ⟨n + 1, rfl, by omega, rfl, hb1 (by simpa using h)⟩
  · have hn : n = ws.length := by omega
    subst hn
    exact hend S1 hin
/-! ### Two pages -/
theorem eqStp (S : St) (x y : Stp) : eqD E0 S 6 41 (sv G40 x) (sv G40 y) = some (decide (x = y)) := by
  have h : eqD E0 S 6 41 (sv G40 x) (sv G40 y) = cond (decide (x.1 = y.1)) (cond (decide (x.2.1 = y.2.1)) (cond (decide (x.2.2 = y.2.2)) (some true) (some false)) (some false)) (some false) := by kernel_rfl
  rw [h]
  obtain ⟨x1, x2, x3⟩ := x
  obtain ⟨y1, y2, y3⟩ := y
  dsimp only
  by_cases h1 : x1 = y1 <;> by_cases h2 : x2 = y2 <;> by_cases h3 : x3 = y3 <;> simp [h1, h2, h3]
def sameG (x : Pg) (l : List Stp) (y : Pg) (m : List Stp) : Bool := decide (pO x = pO y ∧ pE x = pE y ∧ l = m)
theorem s26 {S : St} {x y : Pg} {l m : List Stp} {k : Value → St → Prop} (h1 : Sts S (pS x) l) (h2 : Sts S (pS y) m) (hlen : l.length ≤ 100000000) (hk : ∀ S', Ext S S' → k (.bool (sameG x l y m)) S') : WC E0 26 [sv G38 x, sv G38 y] S k := by
  refine w26 x y ?_
  unfold c26
  have hL := Hld.start noB S
  refine hL.new fun b1 S1 hL _ _ => ?_
  refine hL.new fun b2 S2 hL _ _ => ?_
  have hk := hk S2 hL.mod
  unfold sameG at hk
  have no : ¬ (pO x = pO y ∧ pE x = pE y ∧ l = m) → k (.bool false) S2 := fun h => by rw [decide_eq_false h] at hk; exact hk
  refine ptrW_of ?_
  refine hL.lda 1 rfl (by kernel_rfl) (pO x) rfl ?_
  refine ptrW_of ?_
  refine hL.lda 0 rfl (by kernel_rfl) (pO y) rfl ?_
  refine ⟨_, eqOrd _ (pO x) (pO y), ?_⟩
  refine ifW_ndec (fun ho => no fun h => ho h.1) fun ho => ?_
  refine ptrW_of ?_
  refine hL.ld 1 rfl (by kernel_rfl) (pE x) rfl ?_
  refine ptrW_of ?_
  refine hL.ld 0 rfl (by kernel_rfl) (pE y) rfl ?_
  refine ifW_ndec (fun he => no fun h => he h.2.1) fun he => ?_
  refine ptrW_of ?_
  refine hL.ld 1 rfl (by kernel_rfl) (pS x) rfl ?_
  refine ptrW_of ?_
  refine hL.ld 0 rfl (by kernel_rfl) (pS y) rfl ?_
  have g1 : Sts S2 (pS x) l := Ext.slOf hL.mod h1
  have g2 : Sts S2 (pS y) m := Ext.slOf hL.mod h2
  have l1 := g1.len
  have l2 := g2.len
  refine ifW_ndec (fun hl => no fun h => hl (by rw [l1, l2, h.2.2])) fun hl => ?_
  have heq : l.length = m.length := by omega
  refine loopW_ind (fun q (n1 : Int) S' => ∃ n : Nat, n1 = n ∧ n ≤ l.length ∧ q = l.length - n ∧ S' = S2 ∧ l.take n = m.take n) (m := l.length) ⟨0, rfl, by omega, rfl, rfl, by simp⟩ ?_
  rintro P q n1 S3 ⟨n, rfl, hn, rfl, rfl, hm⟩ hP
  refine ptrW_of ?_
  refine hL.ld 1 rfl (by kernel_rfl) (pS x) rfl ?_
  refine ifW_dec (fun hlt => ?_) fun hlt => ?_
  · have n1 : n < l.length := by omega
    have n2 : n < m.length := by omega
    refine ptrW_of ?_
    refine hL.ld 1 rfl (by kernel_rfl) (pS x) rfl ?_
    refine SlOf.stp g1 n1 ?_
    refine ptrW_of ?_
    refine hL.ld 0 rfl (by kernel_rfl) (pS y) rfl ?_
    refine SlOf.stp g2 n2 ?_
    refine ⟨_, eqStp _ l[n] m[n], ?_⟩
    refine ifW_ndec (fun hb => no fun h => hb (by obtain ⟨_, _, rfl⟩ := h; rfl)) fun hb => ?_
    rw [wrap_succ (by omega)]
    exact hP _ _ _ (by omega) ⟨n + 1, rfl, by omega, rfl, rfl, by rw [take_snoc n1, take_snoc n2, hm, hb]⟩
  · have hn' : n = l.length := by omega
    have hd : l = m := by
      rw [hn', List.take_length, heq, List.take_length] at hm
      exact hm
    rw [decide_eq_true ⟨ho, he, hd⟩] at hk
    exact hk
end
end Go.Proofs.YtfopfocedlbihaaGreatDoor

/- Pages: the page of a line. -/
namespace Go.Proofs.YtfopfocedlbihaaGreatDoor
open Go Go.Proofs.YtfopfocedlbihaaGreatDoor.D
set_option linter.unusedVariables false
set_option linter.unusedSimpArgs false
noncomputable section

theorem und33 : E0.und 33 = some (.slice 41) := by kernel_rfl
theorem inf41 : E0.inf 41 = some DEnv.i41 := by kernel_rfl
theorem bytes41 : DEnv.i41.bytes = 24 := by kernel_rfl
theorem zero41 : DEnv.i41.zero = some (.agg #[.int .i64 0, .int .i64 0, .int .i64 0]) := by kernel_rfl
theorem app_stp {S : St} {s : Sl} {l : List Stp} {b : Nat} {x : Stp} (h : GrX cellsS 3 0 S s l) (hat : At S b (.cells (cellsS x) none false none)) (hl : l.length ≤ 100000000)
    {k : Sl → St → Prop} (hk : ∀ s' S', GrX cellsS 3 0 S' s' (l ++ [x]) → Mod (slO s) S S' → (∀ c, slO s' c → slO s c ∨ S.next ≤ c) → k s' S') :
    evP tS (appendD E0 S 33 33 (.slice s.a s.len s.cap) (.slice (some ⟨b, 0, none⟩) 1 1)) k :=
  GrX.append (E := E0) (f := cellsS) (sz := 3) (N := 0) (fun _ => rfl) (by omega) h und33 inf41 und33 (by kernel_rfl) (by kernel_rfl) zero41 rfl (vs := [x]) rfl (firstD_box (f := cellsS) (sz := 3) (fun _ => rfl) (by omega) hat) rfl
    (show (l.length + 1) * DEnv.i41.bytes ≤ 17592186044416 by rw [bytes41]; omega) (show l.length + 1 ≤ 17592186044416 by omega) (by simp) (show (l.length + 1) * 3 < inex by have h := lt_inex; omega)
    (fun s' S' g m hs' => hk s' S' g (m.mono fun c hc _ => ⟨0, hc.2⟩) fun c hc => by
      obtain ⟨o, e⟩ := hc
      rcases hs' with h | ⟨b', h, h'⟩
      · exact .inl ⟨o, by rw [← h]; exact e⟩
      · rw [h] at e; cases e; exact .inr h') (Nat.zero_le _)
abbrev zeroX : Pg := (0, 0, 0, 0, 0, 0, 0, ⟨none, 0, 0⟩)
abbrev pgX (o : Ord) (e : Int) (sl : Sl) : Pg := (o.1, o.2.1, o.2.2.1, o.2.2.2.1, o.2.2.2.2.1, o.2.2.2.2.2, e, sl)
abbrev boxesD (b10 b9 bC b8 b5 b4 b1 : Nat) (st : DObj) (s2 : Sl) (t : Bool) (o : Ord) (e : Int) (sl : Sl) : List (Nat × DObj) :=
  [(b10, st), (b9, .deferred), (bC, .cells [.slice s2.a s2.len s2.cap] none false none), (b8, .cells [.bool t] none false none), (b5, .cells (cellsO o) none false none), (b4, .cells (cellsG (pgX o e sl)) none false none), (b1, .cells (cellsG zeroX) none false none)]
set_option maxHeartbeats 1000000 in
theorem s22 {S : St} {s : List UInt8} {k : Value → St → Prop} (g : Gd S) (hlen : s.length ≤ 10000000)
    (hk : ∀ (x : Pg) S', Ext S S' → pO x = (rdA s).1.1 → pE x = (rdA s).1.2.1 → GrX cellsS 3 0 S' (pS x) (rdA s).1.2.2 → (∀ c, slO (pS x) c → S.next ≤ c) → k (.tuple #[sv G38 x, .int .i64 (rdA s).2]) S') : WC E0 22 [strV s] S k := by
  refine w22 s ?_
  unfold c22
  have h0 : GrX cellsS 3 0 S ⟨none, 0, 0⟩ [] := .inl ⟨rfl, rfl⟩
  have zero : ∀ S', Ext S S' → rdA s = (zeroG, 280) → k (.tuple #[sv G38 zeroX, .int .i64 280]) S' := by
    intro S' e hr
    have := hk zeroX S' e (by rw [hr]; rfl) (by rw [hr]; rfl) (by rw [hr]; exact .inl ⟨rfl, rfl⟩) (fun c hc => by obtain ⟨o, hc⟩ := hc; cases hc)
    rw [hr] at this
    exact this
  have hL := Cx.start (S := S) noB h0 grX_frm (fun c hc => grX_lt h0 hc)
  refine hL.new fun b1 S1 hL _ _ => ?_
  have hcl := cut_len s [32, 61, 32]
  have hrd : rdA s = if (Lib.cut s [32, 61, 32]).2.2 = true ∧ (rdL (Lib.cut s [32, 61, 32]).1).2 = 0 then outG ((rdL (Lib.cut s [32, 61, 32]).1).1, numA ((wd (Lib.cut s [32, 61, 32]).2.1).getD 0 []), (wd (Lib.cut s [32, 61, 32]).2.1).tail.map stepA) s else (zeroG, 280) := rfl
  refine evC_of (s42 (g.ext hL.mod).g (by omega) ⟨((Lib.cut s [32, 61, 32]).1, (Lib.cut s [32, 61, 32]).2.1, (Lib.cut s [32, 61, 32]).2.2), rfl, ?_⟩)
  generalize Lib.cut s [32, 61, 32] = c at hcl hrd ⊢
  obtain ⟨hd, tl, is⟩ := c
  dsimp only at hcl hrd ⊢
  refine ifW_of (fun his => ?_) fun his => ?_
  · have his : is = false := by simpa using his
    rw [if_neg (fun h => by rw [his] at h; cases h.1)] at hrd
    refine hL.st 0 _ rfl (by kernel_rfl) rfl (Nat.le_of_ble_eq_true rfl) rfl rfl fun S3 hL _ => ?_
    refine hL.lda 0 rfl (by kernel_rfl) zeroX rfl ?_
    exact zero S3 hL.mod hrd
  have his : is = true := by simpa using his
  have hn1 := hL.mod.next
  refine evC_of (s43 (g.ext hL.mod).g (by omega) fun b S4 hat hb e4 => ⟨⟨some ⟨b, 0, none⟩, (wd tl).length, (wd tl).length⟩, rfl, ?_⟩)
  have hbn : S.next ≤ b := by omega
  have hL : Cx noB S S4 [(b1, .cells (cellsG zeroX) none false none)] (fun c => slO ⟨none, 0, 0⟩ c ∨ c = b) (fun S => GrX cellsS 3 0 S ⟨none, 0, 0⟩ [] ∧ At S b (.cells ((wd tl).map strV) none false none)) := by
    refine hL.op e4 (fun _ h => h.elim) (fun _ h => h.elim) ⟨(hL.ext e4).p, hat⟩ (Frm.and grX_frm fun F S S' m hF h => m.at h (hF b rfl)) (fun c hc => ?_) fun c hc => ?_
    · rcases hc with hc | rfl
      · exact .inl hc
      · exact .inr (by omega)
    · rcases hc with ⟨o, hc⟩ | rfl
      · cases hc
      · exact hat.lt
  have hwl : ∀ w ∈ wd tl, w.length ≤ 100000000 := fun w hw => by
    obtain ⟨i, hi, rfl⟩ := List.getElem_of_mem hw
    have := wd_getD tl i
    rw [List.getD_eq_getElem?_getD, List.getElem?_eq_getElem hi] at this
    have h2 : (wd tl)[i].length ≤ tl.length := this
    omega
  have hcnt := wd_count tl
  have hne := wd_ne tl
  generalize wd tl = ws at hrd hat hL hwl hcnt hne ⊢
  have hpos : 0 < ws.length := List.length_pos_iff.2 hne
  have hws : SlOf strC 1 S4 ⟨some ⟨b, 0, none⟩, ws.length, ws.length⟩ ws := ⟨rfl, fun _ => ⟨b, 0, _, _, _, _, rfl, hat, by rw [flat_str, List.drop_zero, List.take_of_length_le (by simp)]⟩⟩
  have hin : ws.length < inex := by have := lt_inex; omega
  refine SlOf.strI hws (j := 0) rfl hpos ?_
  refine evC_of (s44 (g.ext hL.mod).g (by rw [List.getD_eq_getElem?_getD, List.getElem?_eq_getElem hpos]; exact hwl _ (List.getElem_mem hpos)) ⟨_, rfl, ?_⟩)
  generalize numA (ws.getD 0 []) = n1 at hrd ⊢
  -- the words behind the first
  have hwt : ∀ {S'}, SlOf strC 1 S' ⟨some ⟨b, 0, none⟩, ws.length, ws.length⟩ ws → SlOf strC 1 S' ⟨some ⟨b, cond (Nat.beq ws.length 1) 0 (0 + 1 * 1), none⟩, ws.length - 1, ws.length - 1⟩ ws.tail := fun h => by
    have := h.part (sz := 1) (fun _ => rfl) (lo := 1) (hi := ws.length) (c := ws.length - 1) (o' := cond (Nat.beq ws.length 1) 0 (0 + 1 * 1)) rfl (by omega) (Nat.le_refl _) (fun hh => by rw [PM.beq_f hh]; rfl)
    rw [List.take_of_length_le (by simp), List.drop_one] at this
    exact this
  have hsW : ∀ {S'}, At S' b (.cells (ws.map strV) none false none) → SlOf strC 1 S' ⟨some ⟨b, 0, none⟩, ws.length, ws.length⟩ ws := fun h => ⟨rfl, fun _ => ⟨b, 0, _, _, _, _, rfl, h, by rw [flat_str, List.drop_zero, List.take_of_length_le (by simp)]⟩⟩
  refine hL.new fun b4 S6 hL _ _ => ?_
  refine hL.st 0 _ rfl (by kernel_rfl) rfl (Nat.le_of_ble_eq_true rfl) rfl rfl fun S7 hL _ => ?_
  refine evC_of (s45 (g.ext hL.mod).g (by omega) fun S8 e8 => ⟨((rdL hd).1, (rdL hd).2), by rw [read_same]; rfl, ?_⟩)
  have hL := hL.ext e8
  have how : OrdW (rdL hd).1 := rdL_w
  generalize (rdL hd).1 = o at hrd how ⊢
  generalize (rdL hd).2 = fe at hrd ⊢
  refine hL.new fun b5 S9 hL _ _ => ?_
  refine hL.st 0 _ rfl (by kernel_rfl) rfl (Nat.le_of_ble_eq_true rfl) rfl rfl fun S10 hL _ => ?_
  refine hL.lda 0 rfl (by kernel_rfl) o rfl ?_
  refine ptrW_of ?_
  refine hL.st 1 _ rfl (by kernel_rfl) rfl (Nat.le_of_ble_eq_true rfl) rfl rfl fun S11 hL _ => ?_
  refine hL.new fun b8 S12 hL _ _ => ?_
  refine hL.st 0 _ rfl (by kernel_rfl) rfl (Nat.le_of_ble_eq_true rfl) rfl rfl fun S13 hL _ => ?_
  intro k1 hk1
  -- the end
  have fin : ∀ (S' : St) (st : DObj) (b10 b9 bC : Nat) (s2 : Sl) (t : Bool) (sl : Sl) (acc : List Stp), Cx noB S S' (boxesD b10 b9 bC b8 b5 b4 b1 st s2 t o n1 sl) (fun c => slO sl c ∨ c = b) (fun S => GrX cellsS 3 0 S sl acc ∧ At S b (.cells (ws.map strV) none false none)) →
      (∀ c, slO sl c → S.next ≤ c) → (t = false → rdA s = (zeroG, 280)) → (t = true → rdA s = outG (o, n1, acc) s) → k1 ([b9], PUnit.unit) S' := by
    intro S' st b10 b9 bC s2 t sl acc hL hsl ht1 ht2
    refine hk1 _ _ ?_
    refine hL.lda 5 rfl (by kernel_rfl) (pgX o n1 sl) rfl ?_
    refine evC_of (s17 (g.ext hL.mod) (x := pgX o n1 sl) (l := acc) how (GrX.of (f := cellsS) (sz := 3) (fun _ => rfl) hL.p.1) fun S15 e15 => ⟨((lineGP o n1 acc).1, (lineGP o n1 acc).2), rfl, ?_⟩)
    have hL := hL.ext e15
    refine hL.ld 3 rfl (by kernel_rfl) t rfl ?_
    refine ifW_of (fun hb => ?_) fun hb => ?_
    · have hr := ht1 (by simpa using hb)
      refine hL.st 6 _ rfl (by kernel_rfl) rfl (Nat.le_of_ble_eq_true rfl) rfl rfl fun S16 hL _ => ?_
      unfold shutW shutW
      refine hL.has 1 rfl ?_
      refine hL.upd 1 rfl fun S17 hL _ => ?_
      refine hL.lda 6 rfl (by kernel_rfl) zeroX rfl ?_
      exact zero S17 hL.mod hr
    have hr := ht2 (by simpa using hb)
    unfold outG at hr
    by_cases hm : mayG o n1 acc
    · have hlp : lineGP o n1 acc = (lineG o n1 acc, 0) := if_pos hm
      rw [hlp]
      refine ifW_ndec (fun h => (h rfl).elim) fun _ => ?_
      refine ifW_of (fun hq => ?_) fun hq => ?_
      · have hq : ¬ lineG o n1 acc = s := by simpa using hq
        rw [if_neg (fun h => hq h.2)] at hr
        refine hL.st 6 _ rfl (by kernel_rfl) rfl (Nat.le_of_ble_eq_true rfl) rfl rfl fun S16 hL _ => ?_
        unfold shutW shutW
        refine hL.has 1 rfl ?_
        refine hL.upd 1 rfl fun S17 hL _ => ?_
        refine hL.lda 6 rfl (by kernel_rfl) zeroX rfl ?_
        exact zero S17 hL.mod hr
      · have hq : lineG o n1 acc = s := by simpa using hq
        rw [if_pos ⟨hm, hq⟩] at hr
        refine hL.lda 5 rfl (by kernel_rfl) (pgX o n1 sl) rfl ?_
        refine hL.st 6 _ rfl (by kernel_rfl) rfl (Nat.le_of_ble_eq_true rfl) rfl rfl fun S16 hL _ => ?_
        unfold shutW shutW
        refine hL.has 1 rfl ?_
        refine hL.upd 1 rfl fun S17 hL _ => ?_
        refine hL.lda 6 rfl (by kernel_rfl) (pgX o n1 sl) rfl ?_
        have := hk (pgX o n1 sl) S17 hL.mod (by rw [hr]) (by rw [hr]) (by rw [hr]; exact hL.p.1) hsl
        rw [hr] at this
        exact this
    · have hlp : lineGP o n1 acc = ([], 280) := if_neg hm
      rw [hlp]
      rw [if_neg (fun h => hm h.1)] at hr
      refine ifW_ndec (fun _ => ?_) fun h => by cases h
      refine hL.st 6 _ rfl (by kernel_rfl) rfl (Nat.le_of_ble_eq_true rfl) rfl rfl fun S16 hL _ => ?_
      unfold shutW shutW
      refine hL.has 1 rfl ?_
      refine hL.upd 1 rfl fun S17 hL _ => ?_
      refine hL.lda 6 rfl (by kernel_rfl) zeroX rfl ?_
      exact zero S17 hL.mod hr
  refine evV_of (ty := tS) ⟨some ⟨b, cond (Nat.beq ws.length 1) 0 (0 + 1 * 1), none⟩, ws.length - 1, ws.length - 1⟩ (sliceD_some (lo := 1) (hi := ws.length) (mx := ws.length) und78 size9 rfl (show ws.length < inex by omega) (natOf_int (k := .i64) (n := 1)) rfl rfl (by omega) (Nat.le_refl _) (Nat.le_refl _)) ?_
  generalize (⟨some ⟨b, cond (Nat.beq ws.length 1) 0 (0 + 1 * 1), none⟩, ws.length - 1, ws.length - 1⟩ : Sl) = s2 at hwt ⊢
  refine evC_of (w46 s2 ?_)
  unfold c46
  refine hL.new fun bC S14 hL _ _ => ?_
  refine ⟨_, rfl, ?_⟩
  refine hL.new fun b9 S25 hL _ _ => ?_
  rintro b10 S26 L rfl rfl hLL hR
  have hL := hL.record (o := L .ready none)
  generalize (S25.alloc (L .ready none)).2 = S26 at hL ⊢
  generalize hb10 : S25.next = b10 at hL hR ⊢
  have hL : Cx noB S S26 (boxesD b10 b9 bC b8 b5 b4 b1 (L .ready none) s2 (eqI fe 0) o n1 ⟨none, 0, 0⟩) (fun c => slO ⟨none, 0, 0⟩ c ∨ c = b) (fun S => GrX cellsS 3 0 S ⟨none, 0, 0⟩ (((ws.tail).take 0).map stepA) ∧ At S b (.cells (ws.map strV) none false none)) := hL
  have htl : ws.tail.length ≤ 100000000 := by rw [List.length_tail]; omega
  have bad1 : ¬ fe = 0 → rdA s = (zeroG, 280) := fun h => by rw [hrd, if_neg (fun h' => h h'.2)]
  have good : fe = 0 → rdA s = outG (o, n1, ws.tail.map stepA) s := fun h => by rw [hrd, if_pos ⟨his, h⟩]
  refine WG_of rfl (s69 (s := s2) (ws := ws.tail) htl (fun w hw => hwl w (List.mem_of_mem_tail hw)) (fun i S' => ∃ sl, Cx noB S S' (boxesD b10 b9 bC b8 b5 b4 b1 (L .ready none) s2 (eqI fe 0) o n1 sl) (fun c => slO sl c ∨ c = b) (fun S => GrX cellsS 3 0 S sl ((ws.tail.take i).map stepA) ∧ At S b (.cells (ws.map strV) none false none)) ∧ (∀ c, slO sl c → S.next ≤ c ∧ c ≠ b) ∧ (0 < i → fe = 0))
    (hL.at 2 rfl) ?_ ⟨_, hL, (fun c hc => by obtain ⟨o, hc⟩ := hc; cases hc), fun h => by omega⟩ ?_ ?_ ?_)
  · rintro i S' ⟨sl, hL, _⟩
    exact ⟨g.ext hL.mod, hwt (hsW hL.p.2)⟩
  · rintro i S' S'' ⟨sl, hL, h2, h3⟩ e
    exact ⟨sl, hL.ext e, h2, h3⟩
  · rintro i hi S' ⟨sl, hL, hs, hfe⟩
    refine hR _ S' _ ?_
    have hsn : (ws.tail.take (i + 1)).map stepA = (ws.tail.take i).map stepA ++ [stepA ws.tail[i]] := by rw [take_snoc hi, List.map_append]; rfl
    have hmem : stepA ws.tail[i] ∈ ws.tail.map stepA := List.mem_map.2 ⟨_, List.getElem_mem hi, rfl⟩
    generalize stepA ws.tail[i] = y at hsn hmem ⊢
    refine hL.has 0 rfl ?_
    refine hL.new fun b11 S28 hL _ _ => ?_
    refine hL.st 0 _ rfl (by kernel_rfl) rfl (Nat.le_of_ble_eq_true rfl) rfl rfl fun S29 hL _ => ?_
    refine hL.has 1 rfl ?_
    refine hL.upd 1 rfl fun S30 hL _ => ?_
    refine hL.ld 4 rfl (by kernel_rfl) (eqI fe 0) rfl ?_
    by_cases hz : fe = 0
    case neg =>
      have he : eqI fe 0 = false := by rw [eqI_eq]; simpa using hz
      rw [he] at hL ⊢
      refine ifW_of (fun h => by cases h) fun _ => ?_
      refine hL.st 4 _ rfl (by kernel_rfl) rfl (Nat.le_of_ble_eq_true rfl) rfl rfl fun S38 hL _ => ?_
      refine hL.ld 4 rfl (by kernel_rfl) false rfl ?_
      refine ifW_of (fun _ => ?_) fun h => by cases h
      refine hL.has 1 rfl ?_
      refine hL.upd 1 rfl fun S39 hL _ => ?_
      refine ⟨fun h => (by cases h), fun _ => .inr (.inl ?_)⟩
      have hL := hL.tl 1
      refine hL.has 0 rfl ?_
      refine hL.upd 0 rfl fun S46 hL _ => ?_
      exact fin S46 _ b10 b9 bC s2 false sl _ hL (fun c hc => (hs c hc).1) (fun _ => bad1 hz) (fun h => by cases h)
    have he : eqI fe 0 = true := by rw [eqI_eq]; simpa using hz
    rw [he] at hL ⊢
    refine ifW_of (fun _ => ?_) fun h => by cases h
    refine hL.lda 0 rfl (by kernel_rfl) y rfl ?_
    refine evC_of (s29 fun S31 e31 => ⟨_, rfl, ?_⟩)
    have hL := hL.ext e31
    refine hL.st 4 _ rfl (by kernel_rfl) rfl (Nat.le_of_ble_eq_true rfl) rfl rfl fun S32 hL _ => ?_
    refine hL.ld 4 rfl (by kernel_rfl) (decide (mayS y)) rfl ?_
    by_cases hy : mayS y
    case neg =>
      rw [decide_eq_false hy] at hL ⊢
      refine ifW_of (fun _ => ?_) fun h => by cases h
      refine hL.has 1 rfl ?_
      refine hL.upd 1 rfl fun S39 hL _ => ?_
      refine ⟨fun h => (by cases h), fun _ => .inr (.inl ?_)⟩
      have hL := hL.tl 1
      refine hL.has 0 rfl ?_
      refine hL.upd 0 rfl fun S46 hL _ => ?_
      refine fin S46 _ b10 b9 bC s2 false sl _ hL (fun c hc => (hs c hc).1) (fun _ => ?_) (fun h => by cases h)
      rw [good hz]
      unfold outG
      rw [if_neg]
      rintro ⟨h1, _⟩
      exact hy (h1.2.2.2.2 y hmem)
    rw [decide_eq_true hy] at hL ⊢
    refine ifW_of (fun h => by cases h) fun _ => ?_
    refine ptrW_of ?_
    refine hL.ld 6 rfl (by kernel_rfl) sl rfl ?_
    refine hL.lda 0 rfl (by kernel_rfl) y rfl ?_
    refine hL.new fun b14 S34 hL _ _ => ?_
    have hnx := hL.mod.next
    have hat2 := hL.p.2
    refine app_stp (s := sl) hL.p.1 (hL.at 0 rfl) (by rw [List.length_map, List.length_take]; omega) fun s4 S35 g' m hs' => ?_
    have hat3 := m.at hat2 (fun hc => (hs b hc).2 rfl)
    have hL := hL.op m (fun _ h => .inl h) (fun c hc hlt => by have := (hs c hc).1; omega) (O' := fun c => slO s4 c ∨ c = b) (P' := fun S => GrX cellsS 3 0 S s4 ((ws.tail.take (i + 1)).map stepA) ∧ At S b (.cells (ws.map strV) none false none)) ⟨by rw [hsn]; exact g', hat3⟩ (Frm.and grX_frm fun F S S' m hF h => m.at h (hF b rfl))
      (fun c hc => hc.elim (fun h => (hs' c h).elim (fun h => .inl (.inl h)) .inr) fun h => .inl (.inr h)) (fun c hc => hc.elim (fun h => grX_lt g' h) fun h => by subst h; exact hat3.lt)
    refine ptrW_of ?_
    refine hL.st 7 _ rfl (by kernel_rfl) rfl (Nat.le_of_ble_eq_true rfl) rfl rfl fun S36 hL _ => ?_
    refine hL.has 2 rfl ?_
    refine hL.upd 2 rfl fun S37 hL _ => ?_
    refine ⟨fun _ => ⟨s4, hL.tl 2, fun c hc => (hs' c hc).elim (hs c) fun h => ⟨by omega, by have := hat2.lt; omega⟩, fun _ => hz⟩, fun h => by cases h⟩
  · rintro S' ⟨sl, hL, hs, hfe⟩
    left
    rw [List.take_length] at hL
    refine hL.has 0 rfl ?_
    refine hL.upd 0 rfl fun S45 hL _ => ?_
    refine fin S45 _ b10 b9 bC s2 (eqI fe 0) sl _ hL (fun c hc => (hs c hc).1) (fun h => ?_) (fun h => ?_)
    · exact bad1 (fun hz => by rw [eqI_eq, decide_eq_true hz] at h; cases h)
    · exact good (by rw [eqI_eq] at h; exact of_decide_eq_true h)
end
end Go.Proofs.YtfopfocedlbihaaGreatDoor

/- Pages: the page of a line, the document's. -/
namespace Go.Proofs.YtfopfocedlbihaaGreatDoor
open Go Go.Proofs.YtfopfocedlbihaaGreatDoor.D
set_option linter.unusedVariables false
set_option linter.unusedSimpArgs false
noncomputable section

theorem atB_eq : ∀ {ws : List (List UInt8)} {i : Nat}, ws.getD i [] = [61] → (∀ j, j < i → ws.getD j [] ≠ [61]) → atB ws = i
  | [], i, h, _ => by simp at h
  | w :: r, 0, h, _ => by
    show (if w = [61] then 0 else _) = 0
    rw [if_pos (by simpa using h)]
  | w :: r, i + 1, h, h2 => by
    have hw : ¬ w = [61] := by simpa using h2 0 (by omega)
    show (if w = [61] then 0 else atB r + 1) = _
    rw [if_neg hw, atB_eq (ws := r) (i := i) (by simpa using h) fun j hj => by simpa using h2 (j + 1) (by omega)]
theorem atB_none : ∀ {ws : List (List UInt8)}, (∀ j, j < ws.length → ws.getD j [] ≠ [61]) → atB ws = ws.length
  | [], _ => rfl
  | w :: r, h => by
    have hw : ¬ w = [61] := by simpa using h 0 (by simp)
    show (if w = [61] then 0 else atB r + 1) = _
    rw [if_neg hw, atB_none (ws := r) fun j hj => by simpa using h (j + 1) (by simpa using hj)]
    rfl
theorem jn_snoc {r : List (List UInt8)} (hr : r ≠ []) (w : List UInt8) : jn (r ++ [w]) = jn r ++ 32 :: w := by
  cases r with
  | nil => exact (hr rfl).elim
  | cons v r =>
    rw [List.cons_append, jn_flat, jn_flat, List.flatMap_append]
    simp
theorem take_getD {ws : List (List UInt8)} {i : Nat} (h : i < ws.length) : ws.take (i + 1) = ws.take i ++ [ws.getD i []] := by
  rw [take_snoc h, List.getD_eq_getElem?_getD, List.getElem?_eq_getElem h]
  rfl
theorem wd_words_len (s : List UInt8) : ∀ w ∈ wd s, w.length ≤ s.length := fun w hw => by
  obtain ⟨i, hi, rfl⟩ := List.getElem_of_mem hw
  have := wd_getD s i
  rw [List.getD_eq_getElem?_getD, List.getElem?_eq_getElem hi] at this
  exact this
theorem jn_take_len : ∀ (ws : List (List UInt8)) (n : Nat), (jn (ws.take n)).length ≤ (jn ws).length
  | [], n => by simp
  | w :: r, 0 => by simp [jn, Lib.join_nil]
  | w :: r, n + 1 => by
    rw [List.take_succ_cons, jn_flat, jn_flat, List.length_append, List.length_append]
    have : ∀ (r : List (List UInt8)) (n : Nat), ((r.take n).flatMap fun v => 32 :: v).length ≤ (r.flatMap fun v => (32 : UInt8) :: v).length := by
      intro r
      induction r with
      | nil => intro n; simp
      | cons v r ih =>
        intro n
        cases n with
        | zero => simp
        | succ n =>
          have := ih n
          rw [List.take_succ_cons, List.flatMap_cons, List.flatMap_cons, List.length_append, List.length_append]
          omega
    have := this r n
    omega
theorem jn_wd : ∀ (s : List UInt8), jn (wd s) = s
  | [] => by show jn [[]] = []; rw [jn_one]
  | c :: r => by
    have ih := jn_wd r
    show jn (if c = 32 then [] :: wd r else headC c (wd r)) = _
    cases h : wd r with
    | nil => exact (wd_ne r h).elim
    | cons w t =>
      rw [h] at ih
      split
      · rename_i hc
        subst hc
        rw [jn_cons, ih]; rfl
      · show jn ((c :: w) :: t) = _
        rw [jn_flat] at ih ⊢
        rw [List.cons_append, ih]
theorem wdc_len (b : UInt8) : ∀ (s : List UInt8), (wdc b s).length ≤ s.length + 1 ∧ ∀ w ∈ wdc b s, w.length ≤ s.length
  | [] => by simp [wdc]
  | c :: r => by
    obtain ⟨h1, h2⟩ := wdc_len b r
    unfold wdc
    split
    · refine ⟨by simp; omega, fun w hw => ?_⟩
      rcases List.mem_cons.1 hw with rfl | hw
      · simp
      · have := h2 w hw; simp; omega
    · cases h : wdc b r with
      | nil => exact (wdc_ne b r h).elim
      | cons x t =>
        rw [h] at h1 h2
        refine ⟨by simp [headC] at h1 ⊢; omega, fun w hw => ?_⟩
        rcases List.mem_cons.1 hw with rfl | hw
        · have := h2 x (by simp); simp; omega
        · have := h2 w (by simp [hw]); simp; omega
set_option maxHeartbeats 1000000 in
/-- Read, the document's. -/
theorem s25 {S : St} {s : List UInt8} {k : Value → St → Prop} (hlen : s.length ≤ 10000000)
    (hk : ∀ (x : Pg) S', Ext S S' → pO x = (rdB s).1.1 → pE x = (rdB s).1.2.1 → GrX cellsS 3 0 S' (pS x) (rdB s).1.2.2 → (∀ c, slO (pS x) c → S.next ≤ c) → k (.tuple #[sv G38 x, .int .i64 (rdB s).2]) S') : WC E0 25 [strV s] S k := by
  refine w25 s ?_
  unfold c25
  have h0 : GrX cellsS 3 0 S ⟨none, 0, 0⟩ [] := .inl ⟨rfl, rfl⟩
  have zero : ∀ S', Ext S S' → rdB s = (zeroG, 280) → k (.tuple #[sv G38 zeroX, .int .i64 280]) S' := by
    intro S' e hr
    have := hk zeroX S' e (by rw [hr]; rfl) (by rw [hr]; rfl) (by rw [hr]; exact .inl ⟨rfl, rfl⟩) (fun c hc => by obtain ⟨o, hc⟩ := hc; cases hc)
    rw [hr] at this
    exact this
  have hL := Cx.start (S := S) (P := fun _ => True) noB trivial Frm.true (fun _ h => h.elim)
  refine hL.new fun b1 S1 hL _ _ => ?_
  have hn1 := hL.mod.next
  refine evC_of (s49 (b0 := 32) hlen fun s1 S2 hO hs1' e2 => ⟨s1, rfl, ?_⟩)
  rw [wdc_32] at hO
  have hs1 : ∀ c, slO s1 c → S.next ≤ c := fun c hc => by have := hs1' c hc; omega
  have hL : Cx noB S S2 [(b1, .cells (cellsG zeroX) none false none)] (slO s1) (fun S => Ow strC 1 S s1 (wd s)) :=
    hL.op e2 (fun _ h => h.elim) (fun _ h => h.elim) hO Ow.frm (fun c hc => .inr (hs1' c hc)) (fun c hc => hO.lt hc)
  have hcnt := wd_count s
  have hwl := wd_words_len s
  have hne := wd_ne s
  have hjn : ∀ n, (jn ((wd s).take n)).length ≤ s.length := fun n => by have := jn_take_len (wd s) n; rw [jn_wd] at this; exact this
  have hrd : rdB s = if 1 ≤ atB (wd s) ∧ atB (wd s) + 1 < (wd s).length ∧ (rdL (jn ((wd s).take (atB (wd s))))).2 = 0 then outG ((rdL (jn ((wd s).take (atB (wd s))))).1, valG ((wd s).getD (atB (wd s) + 1) []), ((wd s).drop (atB (wd s) + 2)).map stepB) s else (zeroG, 280) := rfl
  generalize wd s = ws at hL hcnt hwl hne hjn hrd
  have hpos : 0 < ws.length := List.length_pos_iff.2 hne
  have hws : ∀ {S'}, Cx noB S S' [(b1, .cells (cellsG zeroX) none false none)] (slO s1) (fun S => Ow strC 1 S s1 ws) → s1.len = ws.length := fun h => h.p.len
  have hsl := hws hL
  have hgl : ∀ j, (ws.getD j []).length ≤ s.length := fun j => by
    rw [List.getD_eq_getElem?_getD]
    cases h : ws[j]? with
    | none => simp
    | some w => exact hwl w (List.mem_of_getElem? h)
  refine loopW_ind (fun q (x : Int × Int) S' => ∃ i : Nat, x.2 = i ∧ i ≤ ws.length ∧ q = ws.length - i ∧ S' = S2 ∧ ((x.1 = -1 ∧ ∀ j, j < i → ws.getD j [] ≠ [61]) ∨ ∃ a : Nat, x.1 = a ∧ a < i ∧ ws.getD a [] = [61] ∧ ∀ j, j < a → ws.getD j [] ≠ [61])) (m := ws.length) ⟨0, rfl, by omega, rfl, rfl, .inl ⟨rfl, fun j h => by omega⟩⟩ ?_
  rintro P q ⟨a0, i0⟩ S3 ⟨i, hi0, hi, rfl, rfl, hor⟩ hP
  dsimp only at hi0 hor ⊢
  subst hi0
  refine ifW_dec (fun hlt => ?_) fun hlt => ?_
  · have hi' : i < ws.length := by omega
    refine SlOf.strI (hL.p.of fun _ => rfl) (j := i) rfl hi' ?_
    have hw : wrapI .i64 ((i : Int) + 1) = ((i + 1 : Nat) : Int) := wrap_succ (by omega)
    rw [hw]
    refine ifW_of (fun h => ?_) fun h => ?_
    · have h : ws.getD i [] = [61] := by simpa using h
      refine ifW_dec (fun ha => ?_) fun ha => ?_
      · refine hP _ _ _ (by omega) ⟨i + 1, rfl, by omega, rfl, rfl, .inr ⟨i, rfl, by omega, h, ?_⟩⟩
        rcases hor with ⟨_, h2⟩ | ⟨a, h2, h3, _⟩
        · exact h2
        · omega
      · refine hP _ _ _ (by omega) ⟨i + 1, rfl, by omega, rfl, rfl, ?_⟩
        rcases hor with ⟨h2, _⟩ | ⟨a, h2, h3, h4⟩
        · omega
        · exact .inr ⟨a, h2, by omega, h4⟩
    · have h : ¬ ws.getD i [] = [61] := by simpa using h
      refine hP _ _ _ (by omega) ⟨i + 1, rfl, by omega, rfl, rfl, ?_⟩
      rcases hor with ⟨h2, h3⟩ | ⟨a, h2, h3, h4⟩
      · refine .inl ⟨h2, fun j hj => ?_⟩
        by_cases hji : j = i
        · rw [hji]; exact h
        · exact h3 j (by omega)
      · exact .inr ⟨a, h2, by omega, h4⟩
  have hil : i = ws.length := by omega
  subst hil
  have zst : ∀ {S' : St} {L : List (Nat × DObj)} {O : Nat → Prop} {P : St → Prop}, Cx noB S S' (L ++ [(b1, .cells (cellsG zeroX) none false none)]) O P → rdB s = (zeroG, 280) →
      evS (storeV E0 S' 39 (.pointer (some ⟨b1, 0, none⟩)) (.agg #[.int .i64 0, .int .i64 0, .int .i64 0, .int .i64 0, .int .i64 0, .int .u64 0, .int .i64 0, .slice none 0 0])) fun S4 =>
        evV (TT.one (Ty.agg G38)) (loadV E0 S4 39 (.pointer (some ⟨b1, 0, none⟩))) fun x2 => k (.tuple #[sv G38 x2, .int .i64 280]) S4 := by
    intro S' L O P h hr
    have hi : (L ++ [(b1, DObj.cells (cellsG zeroX) none false none)])[L.length]? = some (b1, DObj.cells (cellsG zeroX) none false none) := by rw [List.getElem?_append_right (Nat.le_refl _), Nat.sub_self]; rfl
    refine h.st L.length _ hi (by kernel_rfl) rfl (Nat.le_of_ble_eq_true rfl) rfl rfl fun S4 h _ => ?_
    refine h.lda L.length (by rw [List.getElem?_set_self (by simp)]) (by kernel_rfl) zeroX rfl ?_
    exact zero S4 h.mod hr
  refine ifW_dec (fun ha => ?_) fun ha => ?_
  · refine zst (L := []) hL ?_
    rw [hrd, if_neg]
    rintro ⟨h1, h2, _⟩
    rcases hor with ⟨h3, h4⟩ | ⟨a, h3, h4, h5, h6⟩
    · rw [atB_none h4] at h2; omega
    · rw [atB_eq h5 h6] at h1; omega
  obtain ⟨a, rfl, ha2, ha3, ha4⟩ : ∃ a : Nat, a0 = a ∧ a < ws.length ∧ ws.getD a [] = [61] ∧ ∀ j, j < a → ws.getD j [] ≠ [61] := by
    rcases hor with ⟨h3, _⟩ | h
    · omega
    · exact h
  rw [atB_eq ha3 ha4] at hrd
  have hw1 : wrapI .i64 ((a : Int) + 1) = ((a + 1 : Nat) : Int) := wrap_succ (by omega)
  have hw2 : wrapI .i64 ((a : Int) + 2) = ((a + 2 : Nat) : Int) := by rw [wrap_i64 (by omega) (by omega)]; omega
  rw [hw1, hw2]
  refine ifW_dec (fun hb => ?_) fun hb => ?_
  · refine zst (L := []) hL ?_
    rw [hrd, if_neg (fun h => by omega)]
  refine SlOf.strI (hL.p.of fun _ => rfl) (j := 0) rfl hpos ?_
  refine loopW_ind (fun q (x : List UInt8 × Int) S' => ∃ i : Nat, x = (jn (ws.take i), (i : Int)) ∧ 1 ≤ i ∧ i ≤ a ∧ q = a - i ∧ S' = S3) (m := a - 1) ⟨1, by
    rw [take_getD hpos, List.take_zero, List.nil_append, jn_one]; rfl, by omega, by omega, rfl, rfl⟩ ?_
  rintro P2 q2 x4 S6 ⟨i, rfl, hi1, hia, rfl, rfl⟩ hP2
  refine ifW_dec (fun hlt2 => ?_) fun hlt2 => ?_
  · have hi' : i < a := by
      have hlt2 : (i : Int) < (a : Int) := hlt2
      omega
    have hjl := hjn i
    have hgi := hgl i
    refine evV_of (ty := tT) (jn (ws.take i) ++ [32]) (cat_eq (by simp; omega)) ?_
    refine SlOf.strI (hL.p.of fun _ => rfl) (j := i) rfl (by omega) ?_
    refine evV_of (ty := tT) (jn (ws.take i) ++ [32] ++ ws.getD i []) (cat_eq (by simp only [List.length_append, List.length_cons, List.length_nil]; omega)) ?_
    refine hP2 _ _ _ (by omega) ⟨i + 1, ?_, by omega, by omega, rfl, rfl⟩
    show (_, wrapI .i64 ((i : Int) + 1)) = _
    rw [wrap_succ (by omega), take_getD (by omega), jn_snoc (by
      intro h
      have := congrArg List.length h
      rw [List.length_take, List.length_nil] at this
      omega)]
    simp
  have hia2 : i = a := by
    have hlt2 : ¬ (i : Int) < (a : Int) := hlt2
    omega
  subst hia2
  dsimp only
  have hjl := hjn i
  refine evC_of (s50 (by omega) fun S7 e7 => ⟨((rdL (jn (ws.take i))).1, (rdL (jn (ws.take i))).2), rfl, ?_⟩)
  have hL := hL.ext e7
  have how : OrdW (rdL (jn (ws.take i))).1 := rdL_w
  generalize (rdL (jn (ws.take i))).1 = o at hrd how ⊢
  generalize (rdL (jn (ws.take i))).2 = fe at hrd ⊢
  refine hL.new fun b8 S8 hL _ _ => ?_
  refine hL.st 0 _ rfl (by kernel_rfl) rfl (Nat.le_of_ble_eq_true rfl) rfl rfl fun S9 hL _ => ?_
  refine ifW_ndec (fun hf => ?_) fun hf => ?_
  · have hf : ¬ fe = 0 := hf
    refine zst (L := [_]) hL ?_
    rw [hrd, if_neg (fun h => hf h.2.2)]
  have hf : fe = 0 := hf
  rw [if_pos ⟨by omega, by omega, hf⟩] at hrd
  refine hL.new fun b9 S11 hL _ _ => ?_
  refine hL.lda 1 rfl (by kernel_rfl) o rfl ?_
  refine SlOf.strI (hL.p.of fun _ => rfl) (j := i + 1) rfl (by omega) ?_
  refine evC_of (s51 (by have := hgl (i + 1); omega) ⟨_, rfl, ?_⟩)
  generalize valG (ws.getD (i + 1) []) = n1 at hrd ⊢
  refine hL.lda 1 rfl (by kernel_rfl) o rfl ?_
  refine sameV_of ?_
  refine hL.st 0 _ rfl (by kernel_rfl) rfl (Nat.le_of_ble_eq_true rfl) rfl rfl fun S13 hL _ => ?_
  have hL : Cx noB S S13 [(b9, .cells (cellsG (pgX o n1 ⟨none, 0, 0⟩)) none false none), (b8, .cells (cellsO o) none false none), (b1, .cells (cellsG zeroX) none false none)] (fun c => slO s1 c ∨ slO ⟨none, 0, 0⟩ c) (fun S => Ow strC 1 S s1 ws ∧ GrX cellsS 3 0 S ⟨none, 0, 0⟩ (((ws.drop (i + 2)).take 0).map stepB)) :=
    hL.as ⟨hL.p, .inl ⟨rfl, rfl⟩⟩ (Frm.and Ow.frm grX_frm) (fun c hc => hc.elim (fun h => h) fun h => by obtain ⟨o, h⟩ := h; cases h)
  refine loopW_ind (fun q (n2 : Int) S' => ∃ (n : Nat) (sl : Sl), n2 = n ∧ i + 2 ≤ n ∧ n ≤ ws.length ∧ q = ws.length - n ∧ Cx noB S S' [(b9, .cells (cellsG (pgX o n1 sl)) none false none), (b8, .cells (cellsO o) none false none), (b1, .cells (cellsG zeroX) none false none)] (fun c => slO s1 c ∨ slO sl c) (fun S => Ow strC 1 S s1 ws ∧ GrX cellsS 3 0 S sl (((ws.drop (i + 2)).take (n - (i + 2))).map stepB)) ∧ ∀ c, slO sl c → S.next ≤ c ∧ ¬ slO s1 c) (m := ws.length - (i + 2))
    ⟨i + 2, ⟨none, 0, 0⟩, rfl, Nat.le_refl _, by omega, rfl, by rw [Nat.sub_self]; exact hL, fun c hc => by obtain ⟨o, hc⟩ := hc; cases hc⟩ ?_
  rintro P3 q3 n2 S14 ⟨n, sl, rfl, hn1, hn, rfl, hL, hsl3⟩ hP3
  refine ifW_dec (fun hlt3 => ?_) fun hlt3 => ?_
  · have hn' : n < ws.length := by omega
    refine SlOf.strI (hL.p.1.of fun _ => rfl) (j := n) rfl hn' ?_
    have hacc : ((ws.drop (i + 2)).take (n + 1 - (i + 2))).map stepB = ((ws.drop (i + 2)).take (n - (i + 2))).map stepB ++ [stepB (ws.getD n [])] := by
      have hd : n - (i + 2) < (ws.drop (i + 2)).length := by rw [List.length_drop]; omega
      rw [show n + 1 - (i + 2) = n - (i + 2) + 1 by omega, take_getD hd, List.map_append]
      have : (ws.drop (i + 2)).getD (n - (i + 2)) [] = ws.getD n [] := by
        rw [List.getD_eq_getElem?_getD, List.getD_eq_getElem?_getD, List.getElem?_drop, show i + 2 + (n - (i + 2)) = n by omega]
      rw [this]
      rfl
    have hgn := hgl n
    generalize ws.getD n [] = w at hacc hgn ⊢
    have hwc := wdc_len 58 w
    have hI0 := Cx.start (S := S14) (P := fun _ => True) noB trivial Frm.true (fun _ h => h.elim)
    refine evC_of (s49 (b0 := 58) (by omega) fun s2 S15 hO2 hs2 e15 => ⟨s2, rfl, ?_⟩)
    have hI : Cx noB S14 S15 [] (slO s2) (fun S => Ow strC 1 S s2 (wdc 58 w ++ List.replicate 0 [])) :=
      hI0.op e15 (fun _ h => h.elim) (fun _ h => h.elim) (by rw [List.replicate_zero, List.append_nil]; exact hO2) Ow.frm (fun c hc => .inr (hs2 c hc)) (fun c hc => hO2.lt hc)
    have hwne : 0 < (wdc 58 w).length := List.length_pos_iff.2 (wdc_ne 58 w)
    refine loopW_ind (fun q (s3 : Sl) S' => ∃ j : Nat, q = 3 - s3.len ∧ Cx noB S14 S' [] (slO s3) (fun S => Ow strC 1 S s3 (wdc 58 w ++ List.replicate j [])) ∧ ∀ c, slO s3 c → S14.next ≤ c) (m := 3 - s2.len) ⟨0, rfl, hI, hs2⟩ ?_
    rintro P4 q4 s3 S16 ⟨j, rfl, hI, hs3⟩ hP4
    have hl3 := hI.p.len
    rw [List.length_append, List.length_replicate] at hl3
    refine ifW_dec (fun hlt4 => ?_) fun hlt4 => ?_
    · refine newW_of fun b14 S17 hb14 ha14 e17 hn17 => ?_
      have hI := hI.ext e17
      have hnI := hI.mod.next
      refine app_str hI.p ha14 (by rw [List.length_append, List.length_replicate]; omega) fun s4 S18 g' m hs' => ?_
      have hl4 := g'.len
      rw [List.length_append, List.length_append, List.length_replicate, List.length_singleton] at hl4
      refine hP4 _ _ _ (by omega) ⟨j + 1, rfl, ?_, fun c hc => (hs' c hc).elim (hs3 c) fun h => by omega⟩
      refine hI.op m (fun _ h => h) (fun c hc hlt => by have := hs3 c hc; omega) ?_ Ow.frm hs' (fun c hc => g'.lt hc)
      rw [List.replicate_succ', ← List.append_assoc]
      exact g'
    have hget : ∀ t, (wdc 58 w ++ List.replicate j []).getD t [] = (wdc 58 w).getD t [] := fun t => getD_pad _ j t
    have h3l : 3 ≤ (wdc 58 w ++ List.replicate j []).length := by rw [List.length_append, List.length_replicate]; omega
    have hgl4 : ∀ t, ((wdc 58 w).getD t []).length ≤ w.length := fun t => by
      rw [List.getD_eq_getElem?_getD]
      cases h : (wdc 58 w)[t]? with
      | none => simp
      | some v => exact hwc.2 v (List.mem_of_getElem? h)
    have hst : stepB w = (kdS ((wdc 58 w).getD 0 []) 4, valG ((wdc 58 w).getD 1 []), valG ((wdc 58 w).getD 2 [])) := by rw [kdS_4]; rfl
    simp only [← hget] at hst hgl4
    generalize wdc 58 w ++ List.replicate j [] = w4 at hI h3l hst hgl4
    refine hI.new fun b15 S19 hI _ _ => ?_
    refine SlOf.strI (hI.p.of fun _ => rfl) (j := 1) rfl (by omega) ?_
    refine evC_of (s51 (by have := hgl4 1; omega) ⟨_, rfl, ?_⟩)
    have h2l : 2 < w4.length := by omega
    obtain ⟨bb, oo, cs, more, ro, fz, ea, hat, hv⟩ := SlOf.blk (f := strC) (sz := 1) (n := 2) (l := w4) (fun _ => rfl) (hI.p.of fun _ => rfl) h2l
    have hv2 : cs[oo + Int.toNat ((2 : Nat) : Int) * 1]? = some (strV (w4.getD 2 [])) := by
      have := at_take hv (j := 0) (by omega)
      rw [List.getD_eq_getElem?_getD, List.getElem?_eq_getElem h2l]
      exact this
    have hl4 := hI.p.len
    refine ⟨bb, oo, ea, by omega, by omega, ?_⟩
    refine evV_of (ty := tT) (w4.getD 2 []) ((load_one hat (by kernel_rfl)).trans hv2) ?_
    refine evV_of (ty := tT) (w4.getD 2 []) ((load_one hat (by kernel_rfl)).trans hv2) ?_
    refine sameV_of ?_
    refine evC_of (s51 (by have := hgl4 2; omega) ⟨_, rfl, ?_⟩)
    generalize valG (w4.getD 1 []) = v1 at hst ⊢
    generalize valG (w4.getD 2 []) = v2 at hst ⊢
    refine hI.st 0 _ rfl (by kernel_rfl) rfl (Nat.le_of_ble_eq_true rfl) rfl rfl fun S22 hI _ => ?_
    refine loopW_ind (fun q (n5 : Int) S' => ∃ m : Nat, n5 = m ∧ 1 ≤ m ∧ m ≤ 4 ∧ q = 4 - m ∧ Cx noB S14 S' [(b15, .cells (cellsS (kdS (w4.getD 0 []) m, v1, v2)) none false none)] (slO s3) (fun S => Ow strC 1 S s3 w4)) (m := 3) ⟨1, rfl, by omega, by omega, rfl, hI⟩ ?_
    rintro P5 q5 n5 S23 ⟨m, rfl, hm1, hm4, rfl, hI⟩ hP5
    refine ifW_dec (fun hlt5 => ?_) fun hlt5 => ?_
    · have hw5 : wrapI .i64 ((m : Int) + 1) = ((m + 1 : Nat) : Int) := wrap_succ (by omega)
      have hsucc : kdS (w4.getD 0 []) (m + 1) = if 0 < m ∧ nmS (m : Int) = w4.getD 0 [] then (m : Int) else kdS (w4.getD 0 []) m := rfl
      refine evC_of (s39 fun S24 e24 => ⟨_, rfl, ?_⟩)
      have hI := hI.ext e24
      refine SlOf.strI (hI.p.of fun _ => rfl) (j := 0) rfl (by omega) ?_
      rw [hw5]
      refine ifW_of (fun h => ?_) fun h => ?_
      · have h : nmS (m : Int) = w4.getD 0 [] := by simpa using h
        rw [if_pos ⟨by omega, h⟩] at hsucc
        refine ptrW_of ?_
        refine hI.st 0 _ rfl (by kernel_rfl) rfl (Nat.le_of_ble_eq_true rfl) rfl rfl fun S25 hI _ => ?_
        exact hP5 _ _ _ (by omega) ⟨m + 1, rfl, by omega, by omega, rfl, by rw [hsucc]; exact hI⟩
      · have h : ¬ nmS (m : Int) = w4.getD 0 [] := by simpa using h
        rw [if_neg (fun h' => h h'.2)] at hsucc
        exact hP5 _ _ _ (by omega) ⟨m + 1, rfl, by omega, by omega, rfl, by rw [hsucc]; exact hI⟩
    have hm : m = 4 := by omega
    subst hm
    have hL := hL.ext hI.mod
    refine ptrW_of ?_
    refine hL.ld 0 rfl (by kernel_rfl) sl rfl ?_
    refine hI.lda 0 rfl (by kernel_rfl) (kdS (w4.getD 0 []) 4, v1, v2) rfl ?_
    rw [← hst]
    refine hL.new fun b26 S26 hL _ _ => ?_
    have hnx := hL.mod.next
    have hO1 := hL.p.1
    refine app_stp (s := sl) hL.p.2 (hL.at 0 rfl) (by rw [List.length_map, List.length_take, List.length_drop]; omega) fun s6 S27 g' m hs' => ?_
    have hO2 := Ow.frm _ _ _ m.kp (fun c hc hF => (hsl3 c hF).2 hc) hO1
    have hL := hL.op m (fun _ h => .inr h) (fun c hc hlt => by have := (hsl3 c hc).1; omega) (O' := fun c => slO s1 c ∨ slO s6 c) (P' := fun S => Ow strC 1 S s1 ws ∧ GrX cellsS 3 0 S s6 (((ws.drop (i + 2)).take (n + 1 - (i + 2))).map stepB)) ⟨hO2, by rw [hacc]; exact g'⟩ (Frm.and Ow.frm grX_frm)
      (fun c hc => hc.elim (fun h => .inl (.inl h)) fun h => (hs' c h).elim (fun h => .inl (.inr h)) .inr) (fun c hc => hc.elim (fun h => hO2.lt h) fun h => grX_lt g' h)
    refine ptrW_of ?_
    refine hL.st 1 _ rfl (by kernel_rfl) rfl (Nat.le_of_ble_eq_true rfl) rfl rfl fun S28 hL _ => ?_
    rw [wrap_succ (by omega)]
    exact hP3 _ _ _ (by omega) ⟨n + 1, s6, rfl, by omega, by omega, rfl, hL.tl 1, fun c hc => (hs' c hc).elim (hsl3 c) fun h => ⟨by omega, fun h2 => by have := hO1.lt h2; omega⟩⟩
  · have hn' : n = ws.length := by omega
    subst hn'
    rw [List.take_of_length_le (by rw [List.length_drop]; exact Nat.le_refl _)] at hL
    generalize (ws.drop (i + 2)).map stepB = acc at hL hrd
    refine hL.lda 0 rfl (by kernel_rfl) (pgX o n1 sl) rfl ?_
    refine evC_of (s20 (x := pgX o n1 sl) (l := acc) how (GrX.of (f := cellsS) (sz := 3) (fun _ => rfl) hL.p.2) fun S29 e29 => ⟨((lineGP o n1 acc).1, (lineGP o n1 acc).2), rfl, ?_⟩)
    have hL := hL.ext e29
    have hr := hrd
    unfold outG at hr
    by_cases hm : mayG o n1 acc
    · have hlp : lineGP o n1 acc = (lineG o n1 acc, 0) := if_pos hm
      rw [hlp]
      refine ifW_ndec (fun h => (h rfl).elim) fun _ => ?_
      refine ifW_of (fun hq => ?_) fun hq => ?_
      · have hq : ¬ lineG o n1 acc = s := by simpa using hq
        rw [if_neg (fun h => hq h.2)] at hr
        exact zst (L := [_, _]) hL hr
      · have hq : lineG o n1 acc = s := by simpa using hq
        rw [if_pos ⟨hm, hq⟩] at hr
        refine hL.lda 0 rfl (by kernel_rfl) (pgX o n1 sl) rfl ?_
        refine hL.st 2 _ rfl (by kernel_rfl) rfl (Nat.le_of_ble_eq_true rfl) rfl rfl fun S16 hL _ => ?_
        refine hL.lda 2 rfl (by kernel_rfl) (pgX o n1 sl) rfl ?_
        have := hk (pgX o n1 sl) S16 hL.mod (by rw [hr]) (by rw [hr]) (by rw [hr]; exact hL.p.2) (fun c hc => (hsl3 c hc).1)
        rw [hr] at this
        exact this
    · have hlp : lineGP o n1 acc = ([], 280) := if_neg hm
      rw [hlp]
      rw [if_neg (fun h => hm h.1)] at hr
      refine ifW_ndec (fun _ => ?_) fun h => by cases h
      exact zst (L := [_, _]) hL hr
end
end Go.Proofs.YtfopfocedlbihaaGreatDoor

/- Pages as arguments; what their rows list. -/
namespace Go.Proofs.YtfopfocedlbihaaGreatDoor
open Go Go.ChangeShapes Go.WideShapes Go.ChangeAt Go.RowKit Go.Proofs.YtfopfocedlbihaaGreatDoor.D
set_option linter.unusedVariables false
set_option linter.unusedSimpArgs false
noncomputable section

abbrev laidD : List (String × DataW Unit) := Rows.diaryTextsRow.laid
theorem gl_laidD {W : World} (h : laidMetH Tryz.prog laidD W) (hs : W.ShapedOpen Tryz.prog) : Gl (argS E0 W) where
  words := by
    obtain ⟨g, t, cs, fuel, p, e1, e2, e3, e4⟩ := laid_mem h (n := "wagonway/order.words") (d := Rows.laid_wagonway_order_words) (List.mem_of_getElem? (i := 6) rfl) rfl
    obtain rfl : g = 1 := Option.some.inj (e1.symm.trans (by kernel_rfl : Tryz.prog.globalNamed "wagonway/order.words" = some 1))
    obtain rfl : t = 109 := Option.some.inj (e2.symm.trans (by kernel_rfl : (Tryz.prog.globals[1]?).map (·.type) = some 109))
    have hat := var_at (E := E0) e1 e3
    have hd : (Rows.laid_wagonway_order_words : DataW Unit) = .agg (tabW.map fun l => .lit (.string l)) := by kernel_rfl
    rw [hd] at e4
    rw [trod_strs (n := 10) Tryz.underlying109 Tryz.underlying9 (by kernel_rfl) (by kernel_rfl) e4, List.map_map] at hat
    refine ⟨none, true, some (0, cs.size), ?_⟩
    rw [show tabW.map strV = tabW.map (nv (argN E0 W) ∘ fun l => Value.string ⟨l.toArray⟩) from List.map_congr_left fun l _ => (nv_string _ _).symm]
    exact hat
  pow := by
    obtain ⟨g, t, cs, fuel, p, e1, e2, e3, e4⟩ := laid_mem h (n := "internal/strconv.uint64pow10") (d := Rows.laid_internal_strconv_uint64pow10) (List.mem_of_getElem? (i := 2) rfl) rfl
    obtain rfl : g = 3 := Option.some.inj (e1.symm.trans (by kernel_rfl : Tryz.prog.globalNamed "internal/strconv.uint64pow10" = some 3))
    obtain rfl : t = 138 := Option.some.inj (e2.symm.trans (by kernel_rfl : (Tryz.prog.globals[3]?).map (·.type) = some 138))
    have hat := var_at (E := E0) e1 e3
    have hd : (Rows.laid_internal_strconv_uint64pow10 : DataW Unit) = Lib.tabData .u64 powT := by kernel_rfl
    rw [hd] at e4
    rw [Lib.cells_of_tab (n := 20) Tryz.underlying138 Tryz.underlying35 (by kernel_rfl) (by kernel_rfl) e4, List.map_map] at hat
    refine ⟨none, true, some (0, cs.size), ?_⟩
    rw [show powT.map (Value.int .u64) = powT.map (nv (argN E0 W) ∘ fun z => Value.int .u64 z) from List.map_congr_left fun l _ => (nv_int _ _ _).symm]
    exact hat
  errS := by
    obtain ⟨g, t, cs, fuel, p, e1, e2, e3, e4⟩ := laid_mem h (n := "strconv.ErrSyntax") (d := Rows.laid_strconv_ErrSyntax) (List.mem_of_getElem? (i := 5) rfl) rfl
    obtain rfl : g = 4 := Option.some.inj (e1.symm.trans (by kernel_rfl : Tryz.prog.globalNamed "strconv.ErrSyntax" = some 4))
    obtain rfl : t = 57 := Option.some.inj (e2.symm.trans (by kernel_rfl : (Tryz.prog.globals[4]?).map (·.type) = some 57))
    refine ⟨_, _, _, _, var_at (E := E0) e1 e3, ?_⟩
    rcases trod_iface' Tryz.underlying57 e4 with hc | ⟨u, v, hc⟩
    · rw [hc]; unfold List.map nv; rfl
    · rw [hc]; unfold List.map nv; rfl
  errR := by
    obtain ⟨g, t, cs, fuel, p, e1, e2, e3, e4⟩ := laid_mem h (n := "strconv.ErrRange") (d := Rows.laid_strconv_ErrRange) (List.mem_of_getElem? (i := 4) rfl) rfl
    obtain rfl : g = 5 := Option.some.inj (e1.symm.trans (by kernel_rfl : Tryz.prog.globalNamed "strconv.ErrRange" = some 5))
    obtain rfl : t = 57 := Option.some.inj (e2.symm.trans (by kernel_rfl : (Tryz.prog.globals[5]?).map (·.type) = some 57))
    refine ⟨_, _, _, _, var_at (E := E0) e1 e3, ?_⟩
    rcases trod_iface' Tryz.underlying57 e4 with hc | ⟨u, v, hc⟩
    · rw [hc]; unfold List.map nv; rfl
    · rw [hc]; unfold List.map nv; rfl
  maxL := by
    obtain ⟨m, hm⟩ := Go.Proofs.cell_of_shapedOpen_int (g := 2) (zero := #[.int .i64 0]) (t := 3) hs (of_decide_eq_true (by kernel_rfl)) (by kernel_rfl) rfl (by kernel_rfl) (by kernel_rfl) Tryz.underlying3
    obtain ⟨c, e, fr, hw, _, hc⟩ := cell_some hm
    refine ⟨c.toList.map (nv (argN E0 W)), none, true, some (0, c.size), m, ⟨by rw [argS_get, hw]; rfl, ?_⟩, ?_⟩
    · have := (Array.getElem?_eq_some_iff.1 hw).1
      show (2 : Nat) < argN E0 W
      have h6 : (⟨2, 0, none⟩ : Addr).block < W.heap.size := this
      unfold argN
      have h7 : (2 : Nat) < W.heap.size := h6
      omega
    · have hc : c[0]? = some (.int .i64 m) := hc
      rw [List.getElem?_map, Array.getElem?_toList, hc, Option.map_some, nv_int]
theorem gd_laid {W : World} (h : laidMetH Tryz.prog laidD W) (hs : W.ShapedOpen Tryz.prog) : Gd (argS E0 W) where
  g := gl_laidD h hs
  d := by
    obtain ⟨g, t, cs, fuel, p, e1, e2, e3, e4⟩ := laid_mem h (n := "wagonway/diary.words") (d := Rows.laid_wagonway_diary_words) (List.mem_of_getElem? (i := 7) rfl) rfl
    obtain rfl : g = 0 := Option.some.inj (e1.symm.trans (by kernel_rfl : Tryz.prog.globalNamed "wagonway/diary.words" = some 0))
    obtain rfl : t = 79 := Option.some.inj (e2.symm.trans (by kernel_rfl : (Tryz.prog.globals[0]?).map (·.type) = some 79))
    have hat := var_at (E := E0) e1 e3
    have hd : (Rows.laid_wagonway_diary_words : DataW Unit) = .agg (tabD.map fun l => .lit (.string l)) := by kernel_rfl
    rw [hd] at e4
    rw [trod_strs (n := 4) Tryz.underlying79 Tryz.underlying9 (by kernel_rfl) (by kernel_rfl) e4, List.map_map] at hat
    refine ⟨none, true, some (0, cs.size), ?_⟩
    rw [show tabD.map strV = tabD.map (nv (argN E0 W) ∘ fun l => Value.string ⟨l.toArray⟩) from List.map_congr_left fun l _ => (nv_string _ _).symm]
    exact hat
theorem und39p : Tryz.prog.underlying 39 = some (.struct (fsOf 39)) := by kernel_rfl
theorem fl39 : (fsOf 39).toList.map (fun f => (f.type, f.offset)) = [(37, 0), (24, 6), (33, 7)] := by kernel_rfl
theorem und41p : Tryz.prog.underlying 41 = some (.struct (fsOf 41)) := by kernel_rfl
theorem fl41 : (fsOf 41).toList.map (fun f => (f.type, f.offset)) = [(3, 0), (3, 1), (3, 2)] := by kernel_rfl
theorem cells41p : Tryz.prog.cellsOf 41 = 3 := by kernel_rfl
theorem len3 {l : List Value} (h : l.length = 3) : ∃ a b c, l = [a, b, c] := by
  match l, h with
  | [a, b, c], _ => exact ⟨a, b, c, rfl⟩
theorem len8 {l : List Value} (h : l.length = 8) : ∃ a b c d e f g i, l = [a, b, c, d, e, f, g, i] := by
  match l, h with
  | [a, b, c, d, e, f, g, i], _ => exact ⟨a, b, c, d, e, f, g, i, rfl⟩
section
variable {H : Type} {enc : TypeId × Value → H} {W : World} {base b0 : Nat} {spare : Nat → Bool} {held : Bool} {r : Reach}
theorem read_stp {fuel : Nat} {cs : List Value} {r : DataW H × List MemPlace} (h : DataW.trod enc Tryz.prog W base spare held fuel 41 cs = some r) : ∃ y : Stp, cs = cellsS y := by
  obtain ⟨hlen, fuel', hf⟩ := trod_struct und41p h
  have hl := fl41
  rw [cells41p] at hlen
  obtain ⟨a, b, c, rfl⟩ := len3 hlen
  obtain ⟨_, h0⟩ := cut hl (t := 3) (o := 0) (by simp) hf
  obtain ⟨_, h1⟩ := cut hl (t := 3) (o := 1) (by simp) hf
  obtain ⟨_, h2⟩ := cut hl (t := 3) (o := 2) (by simp) hf
  rw [show Tryz.prog.cellsOf 3 = 1 by kernel_rfl] at h0 h1 h2
  obtain ⟨x0, e0, _⟩ := trod_int Tryz.underlying3 h0
  obtain ⟨x1, e1, _⟩ := trod_int Tryz.underlying3 h1
  obtain ⟨x2, e2, _⟩ := trod_int Tryz.underlying3 h2
  simp at e0 e1 e2
  subst e0 e1 e2
  exact ⟨(x0, x1, x2), rfl⟩
end
theorem lay_metD (os : Os) (args : Array Value) : laidMetH Tryz.prog laidD ((World.laidAll Tryz.prog os laidD).forCall (fun _ _ => 0) ⟨#[], args, []⟩).memory := by
  rw [MakeChecks.laidMetH_plain _ _ _ (by kernel_rfl)]
  exact laidMet_laidAll _ (by kernel_rfl) (by kernel_rfl)
end
end Go.Proofs.YtfopfocedlbihaaGreatDoor
