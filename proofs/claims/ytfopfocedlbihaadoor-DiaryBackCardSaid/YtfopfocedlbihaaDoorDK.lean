/- Parts of the proof, put together. -/
import Derived.Test.YtfopfocedlbihaaDoorDJ
import Derived.Test.YtfopfocedlbihaaDoorOD
/- Pages: steps of words. -/
namespace Go.Proofs.YtfopfocedlbihaaDoor
open Go Go.Proofs.YtfopfocedlbihaaDoor.D
set_option linter.unusedVariables false
set_option linter.unusedSimpArgs false
noncomputable section

def kdS (w : List UInt8) : Nat → Int
  | 0 => 0
  | n + 1 => if 0 < n ∧ nmS (n : Int) = w then (n : Int) else kdS w n
theorem kdS_4 (w : List UInt8) : kdS w 4 = kindS w := by
  unfold kdS kdS kdS kdS kdS kindS
  simp only [Nat.zero_lt_succ, true_and, Nat.lt_irrefl, false_and, if_false]
  by_cases h3 : nmS 3 = w
  · rw [if_pos (show nmS ((3 : Nat) : Int) = w from h3), if_pos h3.symm]; rfl
  rw [if_neg (show ¬ nmS ((3 : Nat) : Int) = w from h3), if_neg (show ¬ w = nmS 3 from fun e => h3 e.symm)]
  by_cases h2 : nmS 2 = w
  · rw [if_pos (show nmS ((2 : Nat) : Int) = w from h2), if_pos h2.symm]; rfl
  rw [if_neg (show ¬ nmS ((2 : Nat) : Int) = w from h2), if_neg (show ¬ w = nmS 2 from fun e => h2 e.symm)]
  by_cases h1 : nmS 1 = w
  · rw [if_pos (show nmS ((1 : Nat) : Int) = w from h1), if_pos h1.symm]; rfl
  rw [if_neg (show ¬ nmS ((1 : Nat) : Int) = w from h1), if_neg (show ¬ w = nmS 1 from fun e => h1 e.symm)]
theorem cut_len (s sep : List UInt8) : (Lib.cut s sep).1.length ≤ s.length ∧ (Lib.cut s sep).2.1.length ≤ s.length := by
  unfold Lib.cut
  split
  · simp; omega
  · simp
theorem s73 {S : St} {w : List UInt8} {k : Value → St → Prop} (g : Gd S) (hlen : w.length ≤ 100000000) (hk : ∀ S', Ext S S' → k (sv G32 (stepA w)) S') : WC E0 73 [strV w] S k := by
  refine w73 w ?_
  unfold c73
  have hL := Cx.start (S := S) (P := fun _ => True) noB trivial Frm.true (fun _ h => h.elim)
  refine hL.new fun b1 S1 hL _ _ => ?_
  have c1 := cut_len w [58]
  have c2 := cut_len (Lib.cut w [58]).2.1 [58]
  refine evC_of (s31 (g.ext hL.mod).g hlen ⟨((Lib.cut w [58]).1, (Lib.cut w [58]).2.1, (Lib.cut w [58]).2.2), rfl, ?_⟩)
  refine evC_of (s31 (g.ext hL.mod).g (by show (Lib.cut w [58]).2.1.length ≤ _; omega) ⟨((Lib.cut (Lib.cut w [58]).2.1 [58]).1, (Lib.cut (Lib.cut w [58]).2.1 [58]).2.1, (Lib.cut (Lib.cut w [58]).2.1 [58]).2.2), rfl, ?_⟩)
  refine evC_of (s33 (g.ext hL.mod).g (by show (Lib.cut (Lib.cut w [58]).2.1 [58]).1.length ≤ _; omega) ⟨_, rfl, ?_⟩)
  refine evC_of (s33 (g.ext hL.mod).g (by show (Lib.cut (Lib.cut w [58]).2.1 [58]).2.1.length ≤ _; omega) ⟨_, rfl, ?_⟩)
  have hst : stepA w = (kdS (Lib.cut w [58]).1 4, numA (Lib.cut (Lib.cut w [58]).2.1 [58]).1, numA (Lib.cut (Lib.cut w [58]).2.1 [58]).2.1) := by rw [kdS_4]; rfl
  rw [hst] at hk
  generalize numA (Lib.cut (Lib.cut w [58]).2.1 [58]).1 = n1 at hk ⊢
  generalize numA (Lib.cut (Lib.cut w [58]).2.1 [58]).2.1 = n2 at hk ⊢
  generalize (Lib.cut w [58]).1 = kd at hk ⊢
  refine hL.new fun b2 S6 hL _ _ => ?_
  refine hL.st 0 _ rfl (by kernel_rfl) rfl (Nat.le_of_ble_eq_true rfl) rfl rfl fun S7 hL _ => ?_
  refine loopW_ind (fun q (n3 : Int) S' => ∃ n : Nat, n3 = n ∧ n ≤ 4 ∧ q = 4 - n ∧ Cx noB S S' [(b2, .cells (cellsS (kdS kd n, n1, n2)) none false none), (b1, .cells [.int .i64 0, .int .i64 0, .int .i64 0] none false none)] noB (fun _ => True)) (m := 4) ⟨0, rfl, by omega, rfl, hL⟩ ?_
  rintro P q n3 S8 ⟨n, rfl, hn, rfl, hL⟩ hP
  refine ifW_dec (fun hlt => ?_) fun hlt => ?_
  · have hw : wrapI .i64 ((n : Int) + 1) = ((n + 1 : Nat) : Int) := wrap_succ (by omega)
    have hsucc : kdS kd (n + 1) = if 0 < n ∧ nmS (n : Int) = kd then (n : Int) else kdS kd n := rfl
    rw [hw]
    refine ifW_dec (fun hpos => ?_) fun hpos => ?_
    · refine ⟨1, 0, rfl, by omega, by omega, ?_⟩
      obtain ⟨more, ro, fz, hat⟩ := (g.ext hL.mod).d
      refine evV_of (ty := tT) (nmS (n : Int)) ((load_one hat (by kernel_rfl)).trans (tabD_get (by omega) (by omega))) ?_
      refine ifW_of (fun h => ?_) fun h => ?_
      · have h : nmS (n : Int) = kd := by simpa using h
        rw [if_pos ⟨by omega, h⟩] at hsucc
        refine ptrW_of ?_
        refine hL.st 0 _ rfl (by kernel_rfl) rfl (Nat.le_of_ble_eq_true rfl) rfl rfl fun S9 hL _ => ?_
        exact hP _ _ _ (by omega) ⟨n + 1, rfl, by omega, rfl, by rw [hsucc]; exact hL⟩
      · have h : ¬ nmS (n : Int) = kd := by simpa using h
        rw [if_neg (fun h' => h h'.2)] at hsucc
        exact hP _ _ _ (by omega) ⟨n + 1, rfl, by omega, rfl, by rw [hsucc]; exact hL⟩
    · rw [if_neg (fun h' => by omega)] at hsucc
      exact hP _ _ _ (by omega) ⟨n + 1, rfl, by omega, rfl, by rw [hsucc]; exact hL⟩
  · have hn4 : n = 4 := by omega
    subst hn4
    refine hL.lda 0 rfl (by kernel_rfl) (kdS kd 4, n1, n2) rfl ?_
    refine hL.st 1 _ rfl (by kernel_rfl) rfl (Nat.le_of_ble_eq_true rfl) rfl rfl fun S10 hL _ => ?_
    refine hL.lda 1 rfl (by kernel_rfl) (kdS kd 4, n1, n2) rfl ?_
    exact hk S10 hL.mod
/-- The steps of words, one by one. -/
theorem s72 {y : Value} {c1 : Nat} {S : St} {s : Sl} {ws : List (List UInt8)} (hlen : ws.length ≤ 100000000) (hwl : ∀ w ∈ ws, w.length ≤ 100000000) (I : Nat → St → Prop) {Q : St → Prop} (ha : At S c1 (.cells [.slice s.a s.len s.cap] none false none))
    (hm : ∀ i S', I i S' → Gd S' ∧ SlOf strC 1 S' s ws) (h0 : I 0 S) (hext : ∀ i S' S'', I i S' → Ext S' S'' → I i S'')
    (hstep : ∀ i (hi : i < ws.length) S', I i S' → evY E0 tB y [sv G32 (stepA ws[i])] S' fun t S'' => (t = true → I (i + 1) S'') ∧ (t = false → Q S''))
    (hend : ∀ S', I ws.length S' → Q S') : WC E0 72 [y, .pointer (some ⟨c1, 0, none⟩)] S fun _ S' => Q S' := by
  refine w72 y c1 ?_
  unfold c72
  refine evV_of (ty := tS) s (load_one ha (by kernel_rfl)) ?_
  refine loopW_ind (fun q (x : Int) S' => ∃ n : Nat, x = n ∧ n ≤ ws.length ∧ q = ws.length - n ∧ I n S') (m := ws.length) ⟨0, rfl, by omega, rfl, h0⟩ ?_
  rintro P q x S1 ⟨n, rfl, h1, rfl, hin⟩ hP
  obtain ⟨gd, hsl⟩ := hm n S1 hin
  have hl := hsl.len
  refine ifW_dec (fun hlt => ?_) fun hlt => ?_
  · have hn : n < ws.length := by omega
    refine SlOf.str hsl hn ?_
    refine evC_of (s73 gd (hwl _ (List.getElem_mem hn)) fun S2 e2 => ⟨_, rfl, ?_⟩)
    refine WV.mono (hstep n hn S2 (hext n S1 S2 hin e2)) ?_
    rintro v S3 ⟨b, rfl, hb1, hb2⟩
    refine ⟨b, rfl, ifW_of (fun h => hb2 (by simpa using h)) fun h => ?_⟩
    rw [wrap_succ (by omega)]
    exact hP _ _ _ (by omega) ⟨n + 1, rfl, by omega, rfl, hb1 (by simpa using h)⟩
  · have hn : n = ws.length := by omega
    subst hn
    exact hend S1 hin
/-! ### Two pages -/
theorem eqStp (S : St) (x y : Stp) : eqD E0 S 6 76 (sv G32 x) (sv G32 y) = some (decide (x = y)) := by
  have h : eqD E0 S 6 76 (sv G32 x) (sv G32 y) = cond (decide (x.1 = y.1)) (cond (decide (x.2.1 = y.2.1)) (cond (decide (x.2.2 = y.2.2)) (some true) (some false)) (some false)) (some false) := by kernel_rfl
  rw [h]
  obtain ⟨x1, x2, x3⟩ := x
  obtain ⟨y1, y2, y3⟩ := y
  dsimp only
  by_cases h1 : x1 = y1 <;> by_cases h2 : x2 = y2 <;> by_cases h3 : x3 = y3 <;> simp [h1, h2, h3]
def sameG (x : Pg) (l : List Stp) (y : Pg) (m : List Stp) : Bool := decide (pO x = pO y ∧ pE x = pE y ∧ l = m)
theorem s14 {S : St} {x y : Pg} {l m : List Stp} {k : Value → St → Prop} (h1 : Sts S (pS x) l) (h2 : Sts S (pS y) m) (hlen : l.length ≤ 100000000) (hk : ∀ S', Ext S S' → k (.bool (sameG x l y m)) S') : WC E0 14 [sv G50 x, sv G50 y] S k := by
  refine w14 x y ?_
  unfold c14
  have hL := Hld.start noB S
  refine hL.new fun b1 S1 hL _ _ => ?_
  refine hL.new fun b2 S2 hL _ _ => ?_
  have hk := hk S2 hL.mod
  unfold sameG at hk
  have no : ¬ (pO x = pO y ∧ pE x = pE y ∧ l = m) → k (.bool false) S2 := fun h => by rw [decide_eq_false h] at hk; exact hk
  refine ptrW_of ?_
  refine hL.lda 1 rfl (by kernel_rfl) (pO x) rfl ?_
  refine ptrW_of ?_
  refine hL.lda 0 rfl (by kernel_rfl) (pO y) rfl ?_
  refine ⟨_, eqOrd _ (pO x) (pO y), ?_⟩
  refine ifW_ndec (fun ho => no fun h => ho h.1) fun ho => ?_
  refine ptrW_of ?_
  refine hL.ld 1 rfl (by kernel_rfl) (pE x) rfl ?_
  refine ptrW_of ?_
  refine hL.ld 0 rfl (by kernel_rfl) (pE y) rfl ?_
  refine ifW_ndec (fun he => no fun h => he h.2.1) fun he => ?_
  refine ptrW_of ?_
  refine hL.ld 1 rfl (by kernel_rfl) (pS x) rfl ?_
  refine ptrW_of ?_
  refine hL.ld 0 rfl (by kernel_rfl) (pS y) rfl ?_
  have g1 : Sts S2 (pS x) l := Ext.slOf hL.mod h1
  have g2 : Sts S2 (pS y) m := Ext.slOf hL.mod h2
  have l1 := g1.len
  have l2 := g2.len
  refine ifW_ndec (fun hl => no fun h => hl (by rw [l1, l2, h.2.2])) fun hl => ?_
  have heq : l.length = m.length := by omega
  refine loopW_ind (fun q (n1 : Int) S' => ∃ n : Nat, n1 = n ∧ n ≤ l.length ∧ q = l.length - n ∧ S' = S2 ∧ l.take n = m.take n) (m := l.length) ⟨0, rfl, by omega, rfl, rfl, by simp⟩ ?_
  rintro P q n1 S3 ⟨n, rfl, hn, rfl, rfl, hm⟩ hP
  refine ptrW_of ?_
  refine hL.ld 1 rfl (by kernel_rfl) (pS x) rfl ?_
  refine ifW_dec (fun hlt => ?_) fun hlt => ?_
  · have n1 : n < l.length := by omega
    have n2 : n < m.length := by omega
    refine ptrW_of ?_
    refine hL.ld 1 rfl (by kernel_rfl) (pS x) rfl ?_
    refine SlOf.stp g1 n1 ?_
    refine ptrW_of ?_
    refine hL.ld 0 rfl (by kernel_rfl) (pS y) rfl ?_
    refine SlOf.stp g2 n2 ?_
    refine ⟨_, eqStp _ l[n] m[n], ?_⟩
    refine ifW_ndec (fun hb => no fun h => hb (by obtain ⟨_, _, rfl⟩ := h; rfl)) fun hb => ?_
    rw [wrap_succ (by omega)]
    exact hP _ _ _ (by omega) ⟨n + 1, rfl, by omega, rfl, rfl, by rw [take_snoc n1, take_snoc n2, hm, hb]⟩
  · have hn' : n = l.length := by omega
    have hd : l = m := by
      rw [hn', List.take_length, heq, List.take_length] at hm
      exact hm
    rw [decide_eq_true ⟨ho, he, hd⟩] at hk
    exact hk
end
end Go.Proofs.YtfopfocedlbihaaDoor

/- Pages: the page of a line. -/
namespace Go.Proofs.YtfopfocedlbihaaDoor
open Go Go.Proofs.YtfopfocedlbihaaDoor.D
set_option linter.unusedVariables false
set_option linter.unusedSimpArgs false
noncomputable section

theorem und49 : E0.und 49 = some (.slice 76) := by kernel_rfl
theorem inf76 : E0.inf 76 = some DEnv.i76 := by kernel_rfl
theorem bytes76 : DEnv.i76.bytes = 24 := by kernel_rfl
theorem zero76 : DEnv.i76.zero = some (.agg #[.int .i64 0, .int .i64 0, .int .i64 0]) := by kernel_rfl
theorem app_stp {S : St} {s : Sl} {l : List Stp} {b : Nat} {x : Stp} (h : GrX cellsS 3 0 S s l) (hat : At S b (.cells (cellsS x) none false none)) (hl : l.length ≤ 100000000)
    {k : Sl → St → Prop} (hk : ∀ s' S', GrX cellsS 3 0 S' s' (l ++ [x]) → Mod (slO s) S S' → (∀ c, slO s' c → slO s c ∨ S.next ≤ c) → k s' S') :
    evP tS (appendD E0 S 49 49 (.slice s.a s.len s.cap) (.slice (some ⟨b, 0, none⟩) 1 1)) k :=
  GrX.append (E := E0) (f := cellsS) (sz := 3) (N := 0) (fun _ => rfl) (by omega) h und49 inf76 und49 (by kernel_rfl) (by kernel_rfl) zero76 rfl (vs := [x]) rfl (firstD_box (f := cellsS) (sz := 3) (fun _ => rfl) (by omega) hat) rfl
    (show (l.length + 1) * DEnv.i76.bytes ≤ 17592186044416 by rw [bytes76]; omega) (show l.length + 1 ≤ 17592186044416 by omega) (by simp) (show (l.length + 1) * 3 < inex by have h := lt_inex; omega)
    (fun s' S' g m hs' => hk s' S' g (m.mono fun c hc _ => ⟨0, hc.2⟩) fun c hc => by
      obtain ⟨o, e⟩ := hc
      rcases hs' with h | ⟨b', h, h'⟩
      · exact .inl ⟨o, by rw [← h]; exact e⟩
      · rw [h] at e; cases e; exact .inr h') (Nat.zero_le _)
abbrev zeroX : Pg := (0, 0, 0, 0, 0, 0, 0, ⟨none, 0, 0⟩)
abbrev pgX (o : Ord) (e : Int) (sl : Sl) : Pg := (o.1, o.2.1, o.2.2.1, o.2.2.2.1, o.2.2.2.2.1, o.2.2.2.2.2, e, sl)
abbrev boxesD (b10 b9 bC b8 b5 b4 b1 : Nat) (st : DObj) (s2 : Sl) (t : Bool) (o : Ord) (e : Int) (sl : Sl) : List (Nat × DObj) :=
  [(b10, st), (b9, .deferred), (bC, .cells [.slice s2.a s2.len s2.cap] none false none), (b8, .cells [.bool t] none false none), (b5, .cells (cellsO o) none false none), (b4, .cells (cellsG (pgX o e sl)) none false none), (b1, .cells (cellsG zeroX) none false none)]
set_option maxHeartbeats 1000000 in
theorem s13 {S : St} {s : List UInt8} {k : Value → St → Prop} (g : Gd S) (hlen : s.length ≤ 10000000)
    (hk : ∀ (x : Pg) S', Ext S S' → pO x = (rdA s).1.1 → pE x = (rdA s).1.2.1 → GrX cellsS 3 0 S' (pS x) (rdA s).1.2.2 → (∀ c, slO (pS x) c → S.next ≤ c) → k (.tuple #[sv G50 x, .int .i64 (rdA s).2]) S') : WC E0 13 [strV s] S k := by
  refine w13 s ?_
  unfold c13
  have h0 : GrX cellsS 3 0 S ⟨none, 0, 0⟩ [] := .inl ⟨rfl, rfl⟩
  have zero : ∀ S', Ext S S' → rdA s = (zeroG, 280) → k (.tuple #[sv G50 zeroX, .int .i64 280]) S' := by
    intro S' e hr
    have := hk zeroX S' e (by rw [hr]; rfl) (by rw [hr]; rfl) (by rw [hr]; exact .inl ⟨rfl, rfl⟩) (fun c hc => by obtain ⟨o, hc⟩ := hc; cases hc)
    rw [hr] at this
    exact this
  have hL := Cx.start (S := S) noB h0 grX_frm (fun c hc => grX_lt h0 hc)
  refine hL.new fun b1 S1 hL _ _ => ?_
  have hcl := cut_len s [32, 61, 32]
  have hrd : rdA s = if (Lib.cut s [32, 61, 32]).2.2 = true ∧ (rdL (Lib.cut s [32, 61, 32]).1).2 = 0 then outG ((rdL (Lib.cut s [32, 61, 32]).1).1, numA ((wd (Lib.cut s [32, 61, 32]).2.1).getD 0 []), (wd (Lib.cut s [32, 61, 32]).2.1).tail.map stepA) s else (zeroG, 280) := rfl
  refine evC_of (s31 (g.ext hL.mod).g (by omega) ⟨((Lib.cut s [32, 61, 32]).1, (Lib.cut s [32, 61, 32]).2.1, (Lib.cut s [32, 61, 32]).2.2), rfl, ?_⟩)
  generalize Lib.cut s [32, 61, 32] = c at hcl hrd ⊢
  obtain ⟨hd, tl, is⟩ := c
  dsimp only at hcl hrd ⊢
  refine ifW_of (fun his => ?_) fun his => ?_
  · have his : is = false := by simpa using his
    rw [if_neg (fun h => by rw [his] at h; cases h.1)] at hrd
    refine hL.st 0 _ rfl (by kernel_rfl) rfl (Nat.le_of_ble_eq_true rfl) rfl rfl fun S3 hL _ => ?_
    refine hL.lda 0 rfl (by kernel_rfl) zeroX rfl ?_
    exact zero S3 hL.mod hrd
  have his : is = true := by simpa using his
  have hn1 := hL.mod.next
  refine evC_of (s32 (g.ext hL.mod).g (by omega) fun b S4 hat hb e4 => ⟨⟨some ⟨b, 0, none⟩, (wd tl).length, (wd tl).length⟩, rfl, ?_⟩)
  have hbn : S.next ≤ b := by omega
  have hL : Cx noB S S4 [(b1, .cells (cellsG zeroX) none false none)] (fun c => slO ⟨none, 0, 0⟩ c ∨ c = b) (fun S => GrX cellsS 3 0 S ⟨none, 0, 0⟩ [] ∧ At S b (.cells ((wd tl).map strV) none false none)) := by
    refine hL.op e4 (fun _ h => h.elim) (fun _ h => h.elim) ⟨(hL.ext e4).p, hat⟩ (Frm.and grX_frm fun F S S' m hF h => m.at h (hF b rfl)) (fun c hc => ?_) fun c hc => ?_
    · rcases hc with hc | rfl
      · exact .inl hc
      · exact .inr (by omega)
    · rcases hc with ⟨o, hc⟩ | rfl
      · cases hc
      · exact hat.lt
  have hwl : ∀ w ∈ wd tl, w.length ≤ 100000000 := fun w hw => by
    obtain ⟨i, hi, rfl⟩ := List.getElem_of_mem hw
    have := wd_getD tl i
    rw [List.getD_eq_getElem?_getD, List.getElem?_eq_getElem hi] at this
    have h2 : (wd tl)[i].length ≤ tl.length := this
    omega
  have hcnt := wd_count tl
  have hne := wd_ne tl
  generalize wd tl = ws at hrd hat hL hwl hcnt hne ⊢
  have hpos : 0 < ws.length := List.length_pos_iff.2 hne
  have hws : SlOf strC 1 S4 ⟨some ⟨b, 0, none⟩, ws.length, ws.length⟩ ws := ⟨rfl, fun _ => ⟨b, 0, _, _, _, _, rfl, hat, by rw [flat_str, List.drop_zero, List.take_of_length_le (by simp)]⟩⟩
  have hin : ws.length < inex := by have := lt_inex; omega
  refine SlOf.strI hws (j := 0) rfl hpos ?_
  refine evC_of (s33 (g.ext hL.mod).g (by rw [List.getD_eq_getElem?_getD, List.getElem?_eq_getElem hpos]; exact hwl _ (List.getElem_mem hpos)) ⟨_, rfl, ?_⟩)
  generalize numA (ws.getD 0 []) = n1 at hrd ⊢
  -- the words behind the first
  have hwt : ∀ {S'}, SlOf strC 1 S' ⟨some ⟨b, 0, none⟩, ws.length, ws.length⟩ ws → SlOf strC 1 S' ⟨some ⟨b, cond (Nat.beq ws.length 1) 0 (0 + 1 * 1), none⟩, ws.length - 1, ws.length - 1⟩ ws.tail := fun h => by
    have := h.part (sz := 1) (fun _ => rfl) (lo := 1) (hi := ws.length) (c := ws.length - 1) (o' := cond (Nat.beq ws.length 1) 0 (0 + 1 * 1)) rfl (by omega) (Nat.le_refl _) (fun hh => by rw [PM.beq_f hh]; rfl)
    rw [List.take_of_length_le (by simp), List.drop_one] at this
    exact this
  have hsW : ∀ {S'}, At S' b (.cells (ws.map strV) none false none) → SlOf strC 1 S' ⟨some ⟨b, 0, none⟩, ws.length, ws.length⟩ ws := fun h => ⟨rfl, fun _ => ⟨b, 0, _, _, _, _, rfl, h, by rw [flat_str, List.drop_zero, List.take_of_length_le (by simp)]⟩⟩
  refine hL.new fun b4 S6 hL _ _ => ?_
  refine hL.st 0 _ rfl (by kernel_rfl) rfl (Nat.le_of_ble_eq_true rfl) rfl rfl fun S7 hL _ => ?_
  refine evC_of (s34 (g.ext hL.mod).g (by omega) fun S8 e8 => ⟨((rdL hd).1, (rdL hd).2), by rw [read_same]; rfl, ?_⟩)
  have hL := hL.ext e8
  have how : OrdW (rdL hd).1 := rdL_w
  generalize (rdL hd).1 = o at hrd how ⊢
  generalize (rdL hd).2 = fe at hrd ⊢
  refine hL.new fun b5 S9 hL _ _ => ?_
  refine hL.st 0 _ rfl (by kernel_rfl) rfl (Nat.le_of_ble_eq_true rfl) rfl rfl fun S10 hL _ => ?_
  refine hL.lda 0 rfl (by kernel_rfl) o rfl ?_
  refine ptrW_of ?_
  refine hL.st 1 _ rfl (by kernel_rfl) rfl (Nat.le_of_ble_eq_true rfl) rfl rfl fun S11 hL _ => ?_
  refine hL.new fun b8 S12 hL _ _ => ?_
  refine hL.st 0 _ rfl (by kernel_rfl) rfl (Nat.le_of_ble_eq_true rfl) rfl rfl fun S13 hL _ => ?_
  intro k1 hk1
  -- the end
  have fin : ∀ (S' : St) (st : DObj) (b10 b9 bC : Nat) (s2 : Sl) (t : Bool) (sl : Sl) (acc : List Stp), Cx noB S S' (boxesD b10 b9 bC b8 b5 b4 b1 st s2 t o n1 sl) (fun c => slO sl c ∨ c = b) (fun S => GrX cellsS 3 0 S sl acc ∧ At S b (.cells (ws.map strV) none false none)) →
      (∀ c, slO sl c → S.next ≤ c) → (t = false → rdA s = (zeroG, 280)) → (t = true → rdA s = outG (o, n1, acc) s) → k1 ([b9], PUnit.unit) S' := by
    intro S' st b10 b9 bC s2 t sl acc hL hsl ht1 ht2
    refine hk1 _ _ ?_
    refine hL.lda 5 rfl (by kernel_rfl) (pgX o n1 sl) rfl ?_
    refine evC_of (s12 (g.ext hL.mod) (x := pgX o n1 sl) (l := acc) how (GrX.of (f := cellsS) (sz := 3) (fun _ => rfl) hL.p.1) fun S15 e15 => ⟨((lineGP o n1 acc).1, (lineGP o n1 acc).2), rfl, ?_⟩)
    have hL := hL.ext e15
    refine hL.ld 3 rfl (by kernel_rfl) t rfl ?_
    refine ifW_of (fun hb => ?_) fun hb => ?_
    · have hr := ht1 (by simpa using hb)
      refine hL.st 6 _ rfl (by kernel_rfl) rfl (Nat.le_of_ble_eq_true rfl) rfl rfl fun S16 hL _ => ?_
      unfold shutW shutW
      refine hL.has 1 rfl ?_
      refine hL.upd 1 rfl fun S17 hL _ => ?_
      refine hL.lda 6 rfl (by kernel_rfl) zeroX rfl ?_
      exact zero S17 hL.mod hr
    have hr := ht2 (by simpa using hb)
    unfold outG at hr
    by_cases hm : mayG o n1 acc
    · have hlp : lineGP o n1 acc = (lineG o n1 acc, 0) := if_pos hm
      rw [hlp]
      refine ifW_ndec (fun h => (h rfl).elim) fun _ => ?_
      refine ifW_of (fun hq => ?_) fun hq => ?_
      · have hq : ¬ lineG o n1 acc = s := by simpa using hq
        rw [if_neg (fun h => hq h.2)] at hr
        refine hL.st 6 _ rfl (by kernel_rfl) rfl (Nat.le_of_ble_eq_true rfl) rfl rfl fun S16 hL _ => ?_
        unfold shutW shutW
        refine hL.has 1 rfl ?_
        refine hL.upd 1 rfl fun S17 hL _ => ?_
        refine hL.lda 6 rfl (by kernel_rfl) zeroX rfl ?_
        exact zero S17 hL.mod hr
      · have hq : lineG o n1 acc = s := by simpa using hq
        rw [if_pos ⟨hm, hq⟩] at hr
        refine hL.lda 5 rfl (by kernel_rfl) (pgX o n1 sl) rfl ?_
        refine hL.st 6 _ rfl (by kernel_rfl) rfl (Nat.le_of_ble_eq_true rfl) rfl rfl fun S16 hL _ => ?_
        unfold shutW shutW
        refine hL.has 1 rfl ?_
        refine hL.upd 1 rfl fun S17 hL _ => ?_
        refine hL.lda 6 rfl (by kernel_rfl) (pgX o n1 sl) rfl ?_
        have := hk (pgX o n1 sl) S17 hL.mod (by rw [hr]) (by rw [hr]) (by rw [hr]; exact hL.p.1) hsl
        rw [hr] at this
        exact this
    · have hlp : lineGP o n1 acc = ([], 280) := if_neg hm
      rw [hlp]
      rw [if_neg (fun h => hm h.1)] at hr
      refine ifW_ndec (fun _ => ?_) fun h => by cases h
      refine hL.st 6 _ rfl (by kernel_rfl) rfl (Nat.le_of_ble_eq_true rfl) rfl rfl fun S16 hL _ => ?_
      unfold shutW shutW
      refine hL.has 1 rfl ?_
      refine hL.upd 1 rfl fun S17 hL _ => ?_
      refine hL.lda 6 rfl (by kernel_rfl) zeroX rfl ?_
      exact zero S17 hL.mod hr
  refine evV_of (ty := tS) ⟨some ⟨b, cond (Nat.beq ws.length 1) 0 (0 + 1 * 1), none⟩, ws.length - 1, ws.length - 1⟩ (sliceD_some (lo := 1) (hi := ws.length) (mx := ws.length) und74 size9 rfl (show ws.length < inex by omega) (natOf_int (k := .i64) (n := 1)) rfl rfl (by omega) (Nat.le_refl _) (Nat.le_refl _)) ?_
  generalize (⟨some ⟨b, cond (Nat.beq ws.length 1) 0 (0 + 1 * 1), none⟩, ws.length - 1, ws.length - 1⟩ : Sl) = s2 at hwt ⊢
  refine evC_of (w35 s2 ?_)
  unfold c35
  refine hL.new fun bC S14 hL _ _ => ?_
  refine ⟨_, rfl, ?_⟩
  refine hL.new fun b9 S25 hL _ _ => ?_
  rintro b10 S26 L rfl rfl hLL hR
  have hL := hL.record (o := L .ready none)
  generalize (S25.alloc (L .ready none)).2 = S26 at hL ⊢
  generalize hb10 : S25.next = b10 at hL hR ⊢
  have hL : Cx noB S S26 (boxesD b10 b9 bC b8 b5 b4 b1 (L .ready none) s2 (eqI fe 0) o n1 ⟨none, 0, 0⟩) (fun c => slO ⟨none, 0, 0⟩ c ∨ c = b) (fun S => GrX cellsS 3 0 S ⟨none, 0, 0⟩ (((ws.tail).take 0).map stepA) ∧ At S b (.cells (ws.map strV) none false none)) := hL
  have htl : ws.tail.length ≤ 100000000 := by rw [List.length_tail]; omega
  have bad1 : ¬ fe = 0 → rdA s = (zeroG, 280) := fun h => by rw [hrd, if_neg (fun h' => h h'.2)]
  have good : fe = 0 → rdA s = outG (o, n1, ws.tail.map stepA) s := fun h => by rw [hrd, if_pos ⟨his, h⟩]
  refine WG_of rfl (s72 (s := s2) (ws := ws.tail) htl (fun w hw => hwl w (List.mem_of_mem_tail hw)) (fun i S' => ∃ sl, Cx noB S S' (boxesD b10 b9 bC b8 b5 b4 b1 (L .ready none) s2 (eqI fe 0) o n1 sl) (fun c => slO sl c ∨ c = b) (fun S => GrX cellsS 3 0 S sl ((ws.tail.take i).map stepA) ∧ At S b (.cells (ws.map strV) none false none)) ∧ (∀ c, slO sl c → S.next ≤ c ∧ c ≠ b) ∧ (0 < i → fe = 0))
    (hL.at 2 rfl) ?_ ⟨_, hL, (fun c hc => by obtain ⟨o, hc⟩ := hc; cases hc), fun h => by omega⟩ ?_ ?_ ?_)
  · rintro i S' ⟨sl, hL, _⟩
    exact ⟨g.ext hL.mod, hwt (hsW hL.p.2)⟩
  · rintro i S' S'' ⟨sl, hL, h2, h3⟩ e
    exact ⟨sl, hL.ext e, h2, h3⟩
  · rintro i hi S' ⟨sl, hL, hs, hfe⟩
    refine hR _ S' _ ?_
    have hsn : (ws.tail.take (i + 1)).map stepA = (ws.tail.take i).map stepA ++ [stepA ws.tail[i]] := by rw [take_snoc hi, List.map_append]; rfl
    have hmem : stepA ws.tail[i] ∈ ws.tail.map stepA := List.mem_map.2 ⟨_, List.getElem_mem hi, rfl⟩
    generalize stepA ws.tail[i] = y at hsn hmem ⊢
    refine hL.has 0 rfl ?_
    refine hL.new fun b11 S28 hL _ _ => ?_
    refine hL.st 0 _ rfl (by kernel_rfl) rfl (Nat.le_of_ble_eq_true rfl) rfl rfl fun S29 hL _ => ?_
    refine hL.has 1 rfl ?_
    refine hL.upd 1 rfl fun S30 hL _ => ?_
    refine hL.ld 4 rfl (by kernel_rfl) (eqI fe 0) rfl ?_
    by_cases hz : fe = 0
    case neg =>
      have he : eqI fe 0 = false := by rw [eqI_eq]; simpa using hz
      rw [he] at hL ⊢
      refine ifW_of (fun h => by cases h) fun _ => ?_
      refine hL.st 4 _ rfl (by kernel_rfl) rfl (Nat.le_of_ble_eq_true rfl) rfl rfl fun S38 hL _ => ?_
      refine hL.ld 4 rfl (by kernel_rfl) false rfl ?_
      refine ifW_of (fun _ => ?_) fun h => by cases h
      refine hL.has 1 rfl ?_
      refine hL.upd 1 rfl fun S39 hL _ => ?_
      refine ⟨fun h => (by cases h), fun _ => .inr (.inl ?_)⟩
      have hL := hL.tl 1
      refine hL.has 0 rfl ?_
      refine hL.upd 0 rfl fun S46 hL _ => ?_
      exact fin S46 _ b10 b9 bC s2 false sl _ hL (fun c hc => (hs c hc).1) (fun _ => bad1 hz) (fun h => by cases h)
    have he : eqI fe 0 = true := by rw [eqI_eq]; simpa using hz
    rw [he] at hL ⊢
    refine ifW_of (fun _ => ?_) fun h => by cases h
    refine hL.lda 0 rfl (by kernel_rfl) y rfl ?_
    refine evC_of (s36 fun S31 e31 => ⟨_, rfl, ?_⟩)
    have hL := hL.ext e31
    refine hL.st 4 _ rfl (by kernel_rfl) rfl (Nat.le_of_ble_eq_true rfl) rfl rfl fun S32 hL _ => ?_
    refine hL.ld 4 rfl (by kernel_rfl) (decide (mayS y)) rfl ?_
    by_cases hy : mayS y
    case neg =>
      rw [decide_eq_false hy] at hL ⊢
      refine ifW_of (fun _ => ?_) fun h => by cases h
      refine hL.has 1 rfl ?_
      refine hL.upd 1 rfl fun S39 hL _ => ?_
      refine ⟨fun h => (by cases h), fun _ => .inr (.inl ?_)⟩
      have hL := hL.tl 1
      refine hL.has 0 rfl ?_
      refine hL.upd 0 rfl fun S46 hL _ => ?_
      refine fin S46 _ b10 b9 bC s2 false sl _ hL (fun c hc => (hs c hc).1) (fun _ => ?_) (fun h => by cases h)
      rw [good hz]
      unfold outG
      rw [if_neg]
      rintro ⟨h1, _⟩
      exact hy (h1.2.2.2.2 y hmem)
    rw [decide_eq_true hy] at hL ⊢
    refine ifW_of (fun h => by cases h) fun _ => ?_
    refine ptrW_of ?_
    refine hL.ld 6 rfl (by kernel_rfl) sl rfl ?_
    refine hL.lda 0 rfl (by kernel_rfl) y rfl ?_
    refine hL.new fun b14 S34 hL _ _ => ?_
    have hnx := hL.mod.next
    have hat2 := hL.p.2
    refine app_stp (s := sl) hL.p.1 (hL.at 0 rfl) (by rw [List.length_map, List.length_take]; omega) fun s4 S35 g' m hs' => ?_
    have hat3 := m.at hat2 (fun hc => (hs b hc).2 rfl)
    have hL := hL.op m (fun _ h => .inl h) (fun c hc hlt => by have := (hs c hc).1; omega) (O' := fun c => slO s4 c ∨ c = b) (P' := fun S => GrX cellsS 3 0 S s4 ((ws.tail.take (i + 1)).map stepA) ∧ At S b (.cells (ws.map strV) none false none)) ⟨by rw [hsn]; exact g', hat3⟩ (Frm.and grX_frm fun F S S' m hF h => m.at h (hF b rfl))
      (fun c hc => hc.elim (fun h => (hs' c h).elim (fun h => .inl (.inl h)) .inr) fun h => .inl (.inr h)) (fun c hc => hc.elim (fun h => grX_lt g' h) fun h => by subst h; exact hat3.lt)
    refine ptrW_of ?_
    refine hL.st 7 _ rfl (by kernel_rfl) rfl (Nat.le_of_ble_eq_true rfl) rfl rfl fun S36 hL _ => ?_
    refine hL.has 2 rfl ?_
    refine hL.upd 2 rfl fun S37 hL _ => ?_
    refine ⟨fun _ => ⟨s4, hL.tl 2, fun c hc => (hs' c hc).elim (hs c) fun h => ⟨by omega, by have := hat2.lt; omega⟩, fun _ => hz⟩, fun h => by cases h⟩
  · rintro S' ⟨sl, hL, hs, hfe⟩
    left
    rw [List.take_length] at hL
    refine hL.has 0 rfl ?_
    refine hL.upd 0 rfl fun S45 hL _ => ?_
    refine fin S45 _ b10 b9 bC s2 (eqI fe 0) sl _ hL (fun c hc => (hs c hc).1) (fun h => ?_) (fun h => ?_)
    · exact bad1 (fun hz => by rw [eqI_eq, decide_eq_true hz] at h; cases h)
    · exact good (by rw [eqI_eq] at h; exact of_decide_eq_true h)
end
end Go.Proofs.YtfopfocedlbihaaDoor

/- Pages as arguments; what their rows list. -/
namespace Go.Proofs.YtfopfocedlbihaaDoor
open Go Go.ChangeShapes Go.WideShapes Go.ChangeAt Go.RowKit Go.Proofs.YtfopfocedlbihaaDoor.D
set_option linter.unusedVariables false
set_option linter.unusedSimpArgs false
noncomputable section

abbrev laidD : List (String × DataW Unit) := Rows.diaryBackRow.laid
theorem gl_laidD {W : World} (h : laidMetH Tryd.prog laidD W) (hs : W.ShapedOpen Tryd.prog) : Gl (argS E0 W) where
  words := by
    obtain ⟨g, t, cs, fuel, p, e1, e2, e3, e4⟩ := laid_mem h (n := "wagonway/order.words") (d := Rows.laid_wagonway_order_words) (List.mem_of_getElem? (i := 6) rfl) rfl
    obtain rfl : g = 2 := Option.some.inj (e1.symm.trans (by kernel_rfl : Tryd.prog.globalNamed "wagonway/order.words" = some 2))
    obtain rfl : t = 128 := Option.some.inj (e2.symm.trans (by kernel_rfl : (Tryd.prog.globals[2]?).map (·.type) = some 128))
    have hat := var_at (E := E0) e1 e3
    have hd : (Rows.laid_wagonway_order_words : DataW Unit) = .agg (tabW.map fun l => .lit (.string l)) := by kernel_rfl
    rw [hd] at e4
    rw [trod_strs (n := 10) Tryd.underlying128 Tryd.underlying9 (by kernel_rfl) (by kernel_rfl) e4, List.map_map] at hat
    refine ⟨none, true, some (0, cs.size), ?_⟩
    rw [show tabW.map strV = tabW.map (nv (argN E0 W) ∘ fun l => Value.string ⟨l.toArray⟩) from List.map_congr_left fun l _ => (nv_string _ _).symm]
    exact hat
  pow := by
    obtain ⟨g, t, cs, fuel, p, e1, e2, e3, e4⟩ := laid_mem h (n := "internal/strconv.uint64pow10") (d := Rows.laid_internal_strconv_uint64pow10) (List.mem_of_getElem? (i := 2) rfl) rfl
    obtain rfl : g = 4 := Option.some.inj (e1.symm.trans (by kernel_rfl : Tryd.prog.globalNamed "internal/strconv.uint64pow10" = some 4))
    obtain rfl : t = 193 := Option.some.inj (e2.symm.trans (by kernel_rfl : (Tryd.prog.globals[4]?).map (·.type) = some 193))
    have hat := var_at (E := E0) e1 e3
    have hd : (Rows.laid_internal_strconv_uint64pow10 : DataW Unit) = Lib.tabData .u64 powT := by kernel_rfl
    rw [hd] at e4
    rw [Lib.cells_of_tab (n := 20) Tryd.underlying193 Tryd.underlying46 (by kernel_rfl) (by kernel_rfl) e4, List.map_map] at hat
    refine ⟨none, true, some (0, cs.size), ?_⟩
    rw [show powT.map (Value.int .u64) = powT.map (nv (argN E0 W) ∘ fun z => Value.int .u64 z) from List.map_congr_left fun l _ => (nv_int _ _ _).symm]
    exact hat
  errS := by
    obtain ⟨g, t, cs, fuel, p, e1, e2, e3, e4⟩ := laid_mem h (n := "strconv.ErrSyntax") (d := Rows.laid_strconv_ErrSyntax) (List.mem_of_getElem? (i := 5) rfl) rfl
    obtain rfl : g = 5 := Option.some.inj (e1.symm.trans (by kernel_rfl : Tryd.prog.globalNamed "strconv.ErrSyntax" = some 5))
    obtain rfl : t = 96 := Option.some.inj (e2.symm.trans (by kernel_rfl : (Tryd.prog.globals[5]?).map (·.type) = some 96))
    refine ⟨_, _, _, _, var_at (E := E0) e1 e3, ?_⟩
    rcases trod_iface' Tryd.underlying96 e4 with hc | ⟨u, v, hc⟩
    · rw [hc]; unfold List.map nv; rfl
    · rw [hc]; unfold List.map nv; rfl
  errR := by
    obtain ⟨g, t, cs, fuel, p, e1, e2, e3, e4⟩ := laid_mem h (n := "strconv.ErrRange") (d := Rows.laid_strconv_ErrRange) (List.mem_of_getElem? (i := 4) rfl) rfl
    obtain rfl : g = 6 := Option.some.inj (e1.symm.trans (by kernel_rfl : Tryd.prog.globalNamed "strconv.ErrRange" = some 6))
    obtain rfl : t = 96 := Option.some.inj (e2.symm.trans (by kernel_rfl : (Tryd.prog.globals[6]?).map (·.type) = some 96))
    refine ⟨_, _, _, _, var_at (E := E0) e1 e3, ?_⟩
    rcases trod_iface' Tryd.underlying96 e4 with hc | ⟨u, v, hc⟩
    · rw [hc]; unfold List.map nv; rfl
    · rw [hc]; unfold List.map nv; rfl
  maxL := by
    obtain ⟨m, hm⟩ := Go.Proofs.cell_of_shapedOpen_int (g := 3) (zero := #[.int .i64 0]) (t := 3) hs (of_decide_eq_true (by kernel_rfl)) (by kernel_rfl) rfl (by kernel_rfl) (by kernel_rfl) Tryd.underlying3
    obtain ⟨c, e, fr, hw, _, hc⟩ := cell_some hm
    refine ⟨c.toList.map (nv (argN E0 W)), none, true, some (0, c.size), m, ⟨by rw [argS_get, hw]; rfl, ?_⟩, ?_⟩
    · have := (Array.getElem?_eq_some_iff.1 hw).1
      show (3 : Nat) < argN E0 W
      have h6 : (⟨3, 0, none⟩ : Addr).block < W.heap.size := this
      unfold argN
      have h7 : (3 : Nat) < W.heap.size := h6
      omega
    · have hc : c[0]? = some (.int .i64 m) := hc
      rw [List.getElem?_map, Array.getElem?_toList, hc, Option.map_some, nv_int]
theorem gd_laid {W : World} (h : laidMetH Tryd.prog laidD W) (hs : W.ShapedOpen Tryd.prog) : Gd (argS E0 W) where
  g := gl_laidD h hs
  d := by
    obtain ⟨g, t, cs, fuel, p, e1, e2, e3, e4⟩ := laid_mem h (n := "wagonway/diary.words") (d := Rows.laid_wagonway_diary_words) (List.mem_of_getElem? (i := 7) rfl) rfl
    obtain rfl : g = 1 := Option.some.inj (e1.symm.trans (by kernel_rfl : Tryd.prog.globalNamed "wagonway/diary.words" = some 1))
    obtain rfl : t = 77 := Option.some.inj (e2.symm.trans (by kernel_rfl : (Tryd.prog.globals[1]?).map (·.type) = some 77))
    have hat := var_at (E := E0) e1 e3
    have hd : (Rows.laid_wagonway_diary_words : DataW Unit) = .agg (tabD.map fun l => .lit (.string l)) := by kernel_rfl
    rw [hd] at e4
    rw [trod_strs (n := 4) Tryd.underlying77 Tryd.underlying9 (by kernel_rfl) (by kernel_rfl) e4, List.map_map] at hat
    refine ⟨none, true, some (0, cs.size), ?_⟩
    rw [show tabD.map strV = tabD.map (nv (argN E0 W) ∘ fun l => Value.string ⟨l.toArray⟩) from List.map_congr_left fun l _ => (nv_string _ _).symm]
    exact hat
theorem und51p : Tryd.prog.underlying 51 = some (.struct (fsOf 51)) := by kernel_rfl
theorem fl51 : (fsOf 51).toList.map (fun f => (f.type, f.offset)) = [(48, 0), (43, 6), (49, 7)] := by kernel_rfl
theorem und76p : Tryd.prog.underlying 76 = some (.struct (fsOf 76)) := by kernel_rfl
theorem fl76 : (fsOf 76).toList.map (fun f => (f.type, f.offset)) = [(3, 0), (3, 1), (3, 2)] := by kernel_rfl
theorem cells76p : Tryd.prog.cellsOf 76 = 3 := by kernel_rfl
theorem len3 {l : List Value} (h : l.length = 3) : ∃ a b c, l = [a, b, c] := by
  match l, h with
  | [a, b, c], _ => exact ⟨a, b, c, rfl⟩
theorem len8 {l : List Value} (h : l.length = 8) : ∃ a b c d e f g i, l = [a, b, c, d, e, f, g, i] := by
  match l, h with
  | [a, b, c, d, e, f, g, i], _ => exact ⟨a, b, c, d, e, f, g, i, rfl⟩
section
variable {H : Type} {enc : TypeId × Value → H} {W : World} {base b0 : Nat} {spare : Nat → Bool} {held : Bool} {r : Reach}
theorem read_stp {fuel : Nat} {cs : List Value} {r : DataW H × List MemPlace} (h : DataW.trod enc Tryd.prog W base spare held fuel 76 cs = some r) : ∃ y : Stp, cs = cellsS y := by
  obtain ⟨hlen, fuel', hf⟩ := trod_struct und76p h
  have hl := fl76
  rw [cells76p] at hlen
  obtain ⟨a, b, c, rfl⟩ := len3 hlen
  obtain ⟨_, h0⟩ := cut hl (t := 3) (o := 0) (by simp) hf
  obtain ⟨_, h1⟩ := cut hl (t := 3) (o := 1) (by simp) hf
  obtain ⟨_, h2⟩ := cut hl (t := 3) (o := 2) (by simp) hf
  rw [show Tryd.prog.cellsOf 3 = 1 by kernel_rfl] at h0 h1 h2
  obtain ⟨x0, e0, _⟩ := trod_int Tryd.underlying3 h0
  obtain ⟨x1, e1, _⟩ := trod_int Tryd.underlying3 h1
  obtain ⟨x2, e2, _⟩ := trod_int Tryd.underlying3 h2
  simp at e0 e1 e2
  subst e0 e1 e2
  exact ⟨(x0, x1, x2), rfl⟩
end
theorem lay_metD (os : Os) (args : Array Value) : laidMetH Tryd.prog laidD ((World.laidAll Tryd.prog os laidD).forCall (fun _ _ => 0) ⟨#[], args, []⟩).memory := by
  rw [MakeChecks.laidMetH_plain _ _ _ (by kernel_rfl)]
  exact laidMet_laidAll _ (by kernel_rfl) (by kernel_rfl)
end
end Go.Proofs.YtfopfocedlbihaaDoor
