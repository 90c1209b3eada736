/- Parts of the proof, put together. -/
import Derived.Test.YtfopfocedlbihaaGreatDoorPB
import Derived.Test.YtfopfocedlbihaaGreatDoorDK
/- Pages: the document's text, and diary. -/
namespace Go.Proofs.YtfopfocedlbihaaGreatDoor
open Go Go.Proofs.YtfopfocedlbihaaGreatDoor.D
set_option linter.unusedVariables false
set_option linter.unusedSimpArgs false
noncomputable section

theorem s6 {S : St} {s : Sl} {ps : List PL} {k : Value → St → Prop} (h : Pgs S s ps) (hw : ∀ p ∈ ps, OrdW (pO p.1)) (hk : ∀ S', Ext S S' → k (.tuple #[strV (textGP (ps.map dG)).1, .int .i64 (textGP (ps.map dG)).2]) S') : WC E0 6 [.slice s.a s.len s.cap] S k := by
  refine w6 s ?_
  unfold c6
  have hl := h.len
  refine ifW_dec (fun hlt => ?_) fun hlt => ?_
  · rw [textGP_no (fun h' => by omega)] at hk
    exact hk S (Mod.refl _ _)
  have hlen : ps.length ≤ 10000 := by omega
  refine loopW_ind (fun q (x : List UInt8 × Int) S' => ∃ n : Nat, x = (textG ((ps.take n).map dG), (n : Int)) ∧ n ≤ ps.length ∧ q = ps.length - n ∧ Ext S S' ∧ ∀ p ∈ ps.take n, mayD (dG p)) (m := ps.length) ⟨0, rfl, by omega, rfl, Mod.refl _ _, by simp⟩ ?_
  rintro P q x1 S1 ⟨n, rfl, hn, rfl, e1, hm⟩ hP
  have hwt : (textG ((ps.take n).map dG)).length ≤ 70001 * 10000 := by
    have := textG_len (l := (ps.take n).map dG) (fun x hx => by
      obtain ⟨p, hp, rfl⟩ := List.mem_map.1 hx
      exact hw p (List.mem_of_mem_take hp)) (fun x hx => by
      obtain ⟨p, hp, rfl⟩ := List.mem_map.1 hx
      exact hm p hp)
    have h2 : ((ps.take n).map dG).length ≤ ps.length := by rw [List.length_map, List.length_take]; omega
    omega
  refine ifW_dec (fun hlt => ?_) fun hlt => ?_
  · have hn' : n < ps.length := by
      have hlt : (n : Int) < (s.len : Int) := hlt
      omega
    have h1 := h.ext e1
    refine h1.ix hn' ?_
    have hx := hw ps[n] (List.getElem_mem hn')
    have hst := h1.st.at hn'
    have hmem := List.getElem_mem hn'
    have hsn : (ps.take (n + 1)).map dG = (ps.take n).map dG ++ [dG ps[n]] := by rw [take_snoc hn', List.map_append]; rfl
    have htk := take_snoc hn'
    generalize ps[n] = p at hx hst hsn hmem htk ⊢
    obtain ⟨x, l⟩ := p
    refine evC_of (s20 hx hst fun S2 e2 => ⟨((lineGP (pO x) (pE x) l).1, (lineGP (pO x) (pE x) l).2), rfl, ?_⟩)
    by_cases hmx : mayG (pO x) (pE x) l
    · have hlp : lineGP (pO x) (pE x) l = (lineG (pO x) (pE x) l, 0) := if_pos hmx
      rw [hlp]
      refine ifW_ndec (fun h => (h rfl).elim) fun _ => ?_
      have hll : (lineG (pO x) (pE x) l).length ≤ 70000 := lineG_len (x := dG (x, l)) hx hmx
      refine evV_of (ty := tT) _ (cat_eq (by simp only [List.length_append, List.length_cons, List.length_nil]; omega)) ?_
      refine evV_of (ty := tT) _ (cat_eq (by simp only [List.length_append, List.length_cons, List.length_nil]; omega)) ?_
      refine hP _ _ _ (by omega) ⟨n + 1, ?_, by omega, rfl, e1.tr e2, ?_⟩
      · rw [hsn, textG_snoc]
        show (_, wrapI .i64 ((n : Int) + 1)) = _
        rw [wrap_succ (by omega), List.append_assoc]
        rfl
      · rw [htk]
        intro y hy
        rcases List.mem_append.1 hy with hy | hy
        · exact hm y hy
        · rw [List.mem_singleton.1 hy]; exact hmx
    · have hlp : lineGP (pO x) (pE x) l = ([], 280) := if_neg hmx
      rw [hlp]
      rw [textGP_no (fun h' => hmx (h'.2 _ hmem))] at hk
      refine ifW_ndec (fun _ => ?_) fun h => by cases h
      exact hk S2 (e1.tr e2)
  · have hn' : n = ps.length := by
      have hlt : ¬ (n : Int) < (s.len : Int) := hlt
      omega
    rw [hn', List.take_length] at hm ⊢
    rw [textGP_yes hlen hm] at hk
    exact hk S1 e1
theorem drop_cons {l : List UInt8} {i : Nat} (h : i < l.length) : l.drop i = l[i] :: l.drop (i + 1) := List.drop_eq_getElem_cons h
theorem take_drop_succ {l : List UInt8} {a i : Nat} (h : i < l.length) (ha : a ≤ i) : (l.drop a).take (i + 1 - a) = (l.drop a).take (i - a) ++ [l[i]] := by
  rw [show i + 1 - a = (i - a) + 1 by omega, List.take_add_one, List.getElem?_drop, show a + (i - a) = i by omega, List.getElem?_eq_getElem h]; rfl
theorem s8 {S : St} {s : List UInt8} {k : Value → St → Prop} (hlen : s.length ≤ 10000000)
    (hk : ∀ sl ps S', Ext S S' → Pgs S' sl ps → ps.map dG = (pgP s).1 → (∀ c, pgO sl ps c → S.next ≤ c) → k (.tuple #[.slice sl.a sl.len sl.cap, .int .i64 (pgP s).2.1, .int .i64 (pgP s).2.2]) S') : WC E0 8 [strV s] S k := by
  refine w8 s ?_
  unfold c8
  refine loopW_ind (fun q (x : Sl × Int × Int × Int) S' => ∃ (sl : Sl) (n fr i : Nat) (acc : List PL), x = (sl, (n : Int), (fr : Int), (i : Int)) ∧ fr ≤ i ∧ i ≤ s.length ∧ n ≤ i ∧ acc.length ≤ i ∧ q = s.length - i ∧
      Pk S S' [] sl acc acc ∧ pgA ((s.drop fr).take (i - fr)) (acc.map dG) n (s.drop i) = pgP s) (m := s.length)
    ⟨⟨none, 0, 0⟩, 0, 0, 0, [], rfl, by omega, by omega, by omega, by simp, rfl, Pk.start S, by simp [pgP]⟩ ?_
  rintro P q x1 S1 ⟨sl, n, fr, i, acc, rfl, hfi, hil, hni, hai, rfl, hK, hp⟩ hP
  dsimp only
  have bad : ∀ {S' : St}, Ext S S' → pgP s = ([], ((n + 1 : Nat) : Int), 280) → k (.tuple #[.slice none 0 0, .int .i64 (wrapI .i64 ((n : Int) + 1)), .int .i64 280]) S' := by
    intro S' e hb
    have := hk ⟨none, 0, 0⟩ [] S' e ⟨⟨rfl, fun h => (h rfl).elim⟩, fun p hp => by cases hp⟩ (by rw [hb]; rfl) (Pk.start S).new
    rw [hb] at this
    rw [wrap_succ (by omega)]
    exact this
  refine ifW_dec (fun hlt => ?_) fun hlt => ?_
  · have hi : i < s.length := by omega
    refine evV_of (ty := tU8) _ (indexD_str und9 hi) ?_
    have hts := take_drop_succ (l := s) (a := fr) hi hfi
    rw [drop_cons hi, pgA] at hp
    refine ifW_ndec (fun hc => ?_) fun hc => ?_
    · have hc' : ¬ s[i] = 10 := fun e => hc (by rw [e]; rfl)
      rw [if_neg hc'] at hp
      rw [wrap_succ (by omega)]
      exact hP _ _ _ (by omega) ⟨sl, n, fr, i + 1, acc, rfl, by omega, by omega, by omega, by omega, rfl, hK, by rw [hts]; exact hp⟩
    · have hc' : s[i] = 10 := by
        have : (s[i].toNat : Int) = 10 := hc
        exact UInt8.toNat_inj.1 (by show s[i].toNat = 10; omega)
      rw [if_pos hc'] at hp
      refine evV_of (ty := tT) _ (sliceD_s (a := fr) (b := i) (natOf_int (k := .i64)) (natOf_int (k := .i64)) hfi hil) ?_
      generalize hcur : (s.drop fr).take (i - fr) = cur at hp hts ⊢
      have hcl : cur.length ≤ 10000000 := by rw [← hcur, List.length_take, List.length_drop]; omega
      refine evC_of (s25 hcl fun x S2 e2 hx1 hx2 g3 h3 => ⟨(x, (rdB cur).2), rfl, ?_⟩)
      rw [← rd_same] at hx1 hx2 g3 ⊢
      have hQ := hK.read e2 g3 h3
      have hd := dG_eq hx1 hx2
      have h2 := rdA_2 cur
      rw [← hd] at hp
      generalize (rdA cur).1.2.2 = l at hQ hp ⊢
      generalize (rdA cur).2 = y at h2 hp ⊢
      have hL := hQ.cx
      refine hL.new fun b1 S3 hL _ _ => ?_
      refine hL.st 0 _ rfl (by kernel_rfl) rfl (Nat.le_of_ble_eq_true rfl) rfl rfl fun S4 hL _ => ?_
      refine ifW_ndec (fun hy => ?_) fun hy => ?_
      · have hy : ¬ y = 0 := hy
        rw [if_pos (.inl hy)] at hp
        exact bad hL.mod hp.symm
      have hy : y = 0 := hy
      have hw : wrapI .i64 ((n : Int) + 1) = ((n + 1 : Nat) : Int) := wrap_succ (by omega)
      have hw2 : wrapI .i64 ((i : Int) + 1) = ((i + 1 : Nat) : Int) := wrap_succ (by omega)
      rw [hw] at bad ⊢
      refine ifW_dec (fun hn => ?_) fun hn => ?_
      · rw [if_pos (.inr (by omega))] at hp
        exact bad hL.mod hp.symm
      rw [if_neg (fun h => h.elim (fun h => h hy) (fun h => by omega))] at hp
      refine hL.lda 0 rfl (by kernel_rfl) x rfl ?_
      refine hL.new fun b2 S5 hL _ _ => ?_
      refine (hQ.with hL).app 0 rfl (by omega) fun s' S6 hQ => ?_
      rw [hw2]
      refine hP _ _ _ (by omega) ⟨s', n + 1, i + 1, i + 1, acc ++ [(x, l)], rfl, by omega, by omega, by omega, by simp; omega, rfl, hQ.with (hQ.cx.tl 2), ?_⟩
      rw [Nat.sub_self, List.take_zero, List.map_append]
      exact hp
  · have hi : i = s.length := by omega
    subst hi
    rw [List.drop_length, pgA] at hp
    refine ifW_dec (fun hf => ?_) fun hf => ?_
    · rw [if_neg (fun h => by have := congrArg List.length h; rw [List.length_take, List.length_drop, List.length_nil] at this; omega)] at hp
      exact bad hK.cx.mod hp.symm
    · have hf' : fr = s.length := by omega
      rw [if_pos (by rw [hf', Nat.sub_self, List.take_zero])] at hp
      rw [← hp] at hk
      exact hk sl acc S1 hK.cx.mod ⟨GrX.of (f := fP) (sz := 8) (fun _ => rfl) hK.cx.p.1, hK.cx.p.2⟩ rfl hK.new
end
end Go.Proofs.YtfopfocedlbihaaGreatDoor

/- Pages: their steps; the law of diaries' texts. -/
namespace Go.Proofs.YtfopfocedlbihaaGreatDoor
open Go Go.Proofs.YtfopfocedlbihaaGreatDoor.D
set_option linter.unusedVariables false
set_option linter.unusedSimpArgs false
noncomputable section

abbrev encI (z : Int) : List Value := [.int .i64 z]
theorem und34 : E0.und 34 = some (.slice 3) := by kernel_rfl
theorem inf3 : E0.inf 3 = some DEnv.i3 := by kernel_rfl
theorem bytes3 : DEnv.i3.bytes = 8 := by kernel_rfl
theorem zero3 : DEnv.i3.zero = some (.int .i64 0) := by kernel_rfl
theorem slO_new {s s' : Sl} {S : St} (hs' : s'.a = s.a ∨ ∃ b, s'.a = some ⟨b, 0, none⟩ ∧ S.next ≤ b) : ∀ c, slO s' c → slO s c ∨ S.next ≤ c := fun c hc => by
  obtain ⟨o, e⟩ := hc
  rcases hs' with h | ⟨b', h, h'⟩
  · exact .inl ⟨o, by rw [← h]; exact e⟩
  · rw [h] at e; cases e; exact .inr h'
theorem app_int {S : St} {s : Sl} {l : List Int} {b : Nat} {x : Int} (h : GrX encI 1 0 S s l) (hat : At S b (.cells [.int .i64 x] none false none)) (hl : l.length ≤ 100000000)
    {k : Sl → St → Prop} (hk : ∀ s' S', GrX encI 1 0 S' s' (l ++ [x]) → Mod (slO s) S S' → (∀ c, slO s' c → slO s c ∨ S.next ≤ c) → k s' S') :
    evP tS (appendD E0 S 34 34 (.slice s.a s.len s.cap) (.slice (some ⟨b, 0, none⟩) 1 1)) k :=
  GrX.append (E := E0) (f := encI) (sz := 1) (N := 0) (fun _ => rfl) (by omega) h und34 inf3 und34 (by kernel_rfl) (by kernel_rfl) zero3 rfl (vs := [x]) rfl (firstD_box (f := encI) (sz := 1) (v := x) (fun _ => rfl) (by omega) hat) rfl
    (show (l.length + 1) * DEnv.i3.bytes ≤ 17592186044416 by rw [bytes3]; omega) (show l.length + 1 ≤ 17592186044416 by omega) (by simp) (show (l.length + 1) * 1 < inex by have h := lt_inex; omega)
    (fun s' S' g m hs' => hk s' S' g (m.mono fun c hc _ => ⟨0, hc.2⟩) (slO_new hs')) (Nat.zero_le _)
theorem all_cellsS (l : List Stp) : (l.flatMap cellsS).all St.one = true := by
  rw [List.all_eq_true]
  intro v hv
  obtain ⟨y, _, h⟩ := List.mem_flatMap.1 hv
  simp only [cellsS, List.mem_cons, List.not_mem_nil, or_false] at h
  rcases h with rfl | rfl | rfl <;> rfl
theorem app_sts {S : St} {s x : Sl} {l vs : List Stp} (h : GrX cellsS 3 0 S s l) (hv : Sts S x vs) (hsp : ∀ a, x.a = some a → a.spot = none) (hl : l.length + vs.length ≤ 100000000)
    {k : Sl → St → Prop} (hk : ∀ s' S', GrX cellsS 3 0 S' s' (l ++ vs) → Mod (slO s) S S' → (∀ c, slO s' c → slO s c ∨ S.next ≤ c) → k s' S') :
    evP tS (appendD E0 S 33 33 (.slice s.a s.len s.cap) (.slice x.a x.len x.cap)) k :=
  GrX.appendS (E := E0) (f := cellsS) (sz := 3) (N := 0) (fun _ => rfl) (by omega) h hv hsp und33 inf41 und33 (by kernel_rfl) (by kernel_rfl) zero41 rfl (all_cellsS vs)
    (show (l.length + vs.length) * DEnv.i41.bytes ≤ 17592186044416 by rw [bytes41]; omega) (show l.length + vs.length ≤ 17592186044416 by omega) (show (l.length + vs.length) * 3 < inex by have h := lt_inex; omega)
    (fun s' S' g m hs' => hk s' S' g (m.mono fun c hc _ => ⟨0, hc.2⟩) (slO_new hs')) (Nat.zero_le _)
/-- All steps. -/
abbrev allS (ps : List PL) : List Stp := ps.flatMap (·.2)
theorem allS_len : ∀ {ps : List PL}, (∀ p ∈ ps, p.2.length ≤ 1001) → (allS ps).length ≤ 1001 * ps.length
  | [], _ => by simp
  | p :: ps, h => by
    have h1 := h p List.mem_cons_self
    have h2 := allS_len (ps := ps) fun q hq => h q (List.mem_cons_of_mem _ hq)
    rw [allS, List.flatMap_cons, List.length_append, List.length_cons]
    have h2 : (ps.flatMap (·.2)).length ≤ 1001 * ps.length := h2
    omega
theorem allS_succ {ps : List PL} {n : Nat} (h : n < ps.length) : allS (ps.take (n + 1)) = allS (ps.take n) ++ ps[n].2 := by
  rw [take_snoc h, allS, List.flatMap_append]
  simp
theorem s9 {S : St} {s : Sl} {ps : List PL} {k : Value → St → Prop} (h : Pgs S s ps) (hsp : ∀ p ∈ ps, ∀ a, (pS p.1).a = some a → a.spot = none) (hn : ps.length ≤ 60) (hst : ∀ p ∈ ps, p.2.length ≤ 1001)
    (hk : ∀ sl S', Ext S S' → GrX cellsS 3 0 S' sl (allS ps) → (∀ c, slO sl c → S.next ≤ c) → k (.slice sl.a sl.len sl.cap) S') : WC E0 9 [.slice s.a s.len s.cap] S k := by
  refine w9 s ?_
  unfold c9
  have hl := h.len
  have h0 : GrX cellsS 3 0 S ⟨none, 0, 0⟩ (allS (ps.take 0)) := .inl ⟨rfl, rfl⟩
  have hL0 := Cx.start (S := S) noB h0 grX_frm (fun c hc => grX_lt h0 hc)
  refine loopW_ind (fun q (x : Sl × Int) S' => ∃ (n : Nat) (sl : Sl), x = (sl, (n : Int)) ∧ n ≤ ps.length ∧ q = ps.length - n ∧ Cx noB S S' [] (slO sl) (fun S => GrX cellsS 3 0 S sl (allS (ps.take n))) ∧ ∀ c, slO sl c → S.next ≤ c) (m := ps.length)
    ⟨0, _, rfl, by omega, rfl, hL0, fun c hc => by obtain ⟨o, hc⟩ := hc; cases hc⟩ ?_
  rintro P q x1 S1 ⟨n, sl, rfl, hn', rfl, hL, hs⟩ hP
  dsimp only
  refine ifW_dec (fun hlt => ?_) fun hlt => ?_
  · have hi : n < ps.length := by omega
    have h1 := h.ext hL.mod
    refine h1.ix hi ?_
    refine hL.new fun b3 S2 hL _ _ => ?_
    refine hL.st 0 _ rfl (by kernel_rfl) rfl (Nat.le_of_ble_eq_true rfl) rfl rfl fun S3 hL _ => ?_
    refine ptrW_of ?_
    refine hL.ld 0 rfl (by kernel_rfl) (pS ps[n].1) rfl ?_
    have hb := allS_len (ps := ps.take n) fun p hp => hst p (List.mem_of_mem_take hp)
    have hb2 : (ps.take n).length ≤ 60 := by rw [List.length_take]; omega
    have hb3 := hst ps[n] (List.getElem_mem hi)
    have hnx := hL.mod.next
    refine app_sts hL.p ((h.ext hL.mod).st.at hi) (hsp _ (List.getElem_mem hi)) (by omega) fun s' S4 g' m hs' => ?_
    rw [wrap_succ (by omega)]
    rw [← allS_succ hi] at g'
    exact hP _ _ _ (by omega) ⟨n + 1, s', rfl, by omega, rfl, Cx.tl (hL.op m (fun _ h => h) (fun c hc hlt => by have := hs c hc; omega) g' grX_frm hs' (fun c hc => grX_lt g' hc)) 1, fun c hc => (hs' c hc).elim (hs c) fun h => by omega⟩
  · have hi : n = ps.length := by omega
    have hp := hL.p
    rw [hi, List.take_length] at hp
    exact hk sl S1 hL.mod hp hs
/-- The cells into which a robot moved. -/
def mov (r : Int) (l : List Stp) : List Int := (l.filter fun y => decide (y.1 = 3) && decide (y.2.1 = r)).map (·.2.2)
theorem mov_app (r : Int) (l m : List Stp) : mov r (l ++ m) = mov r l ++ mov r m := by simp [mov]
theorem mov_len (r : Int) (l : List Stp) : (mov r l).length ≤ l.length := by
  unfold mov
  rw [List.length_map]
  exact List.length_filter_le _ _
theorem mov_yes {r : Int} {y : Stp} (h1 : y.1 = 3) (h2 : y.2.1 = r) : mov r [y] = [y.2.2] := by simp [mov, h1, h2]
theorem mov_no {r : Int} {y : Stp} (h : ¬ (y.1 = 3 ∧ y.2.1 = r)) : mov r [y] = [] := by
  by_cases h1 : y.1 = 3
  · have h2 : ¬ y.2.1 = r := fun h2 => h ⟨h1, h2⟩
    simp [mov, h2]
  · simp [mov, h1]
theorem s10 {S : St} {s : Sl} {ps : List PL} {r : Int} {k : Value → St → Prop} (h : Pgs S s ps) (hsp : ∀ p ∈ ps, ∀ a, (pS p.1).a = some a → a.spot = none) (hn : ps.length ≤ 60) (hst : ∀ p ∈ ps, p.2.length ≤ 1001)
    (hk : ∀ sl S', Ext S S' → GrX encI 1 0 S' sl (mov r (allS ps)) → k (.slice sl.a sl.len sl.cap) S') : WC E0 10 [.slice s.a s.len s.cap, .int .i64 r] S k := by
  refine w10 s r ?_
  unfold c10
  refine evC_of (s9 h hsp hn hst fun ss S1 e1 g1 hs1 => ⟨ss, rfl, ?_⟩)
  have hb := allS_len hst
  have hss : Sts S1 ss (allS ps) := GrX.of (f := cellsS) (sz := 3) (fun _ => rfl) g1
  have hl := hss.len
  generalize allS ps = l at *
  have h0 : GrX encI 1 0 S1 ⟨none, 0, 0⟩ (mov r (l.take 0)) := .inl ⟨rfl, rfl⟩
  have hL0 := (Cx.start (S := S1) noB h0 grX_frm (fun c hc => grX_lt h0 hc))
  refine loopW_ind (fun q (x : Sl × Int) S' => ∃ (n : Nat) (sl : Sl), x = (sl, (n : Int)) ∧ n ≤ l.length ∧ q = l.length - n ∧ Cx noB S1 S' [] (slO sl) (fun S => GrX encI 1 0 S sl (mov r (l.take n))) ∧ ∀ c, slO sl c → S1.next ≤ c) (m := l.length)
    ⟨0, _, rfl, by omega, rfl, hL0, fun c hc => by obtain ⟨o, hc⟩ := hc; cases hc⟩ ?_
  rintro P q x1 S2 ⟨n, sl, rfl, hn', rfl, hL, hs⟩ hP
  dsimp only
  refine ifW_dec (fun hlt => ?_) fun hlt => ?_
  · have hi : n < l.length := by omega
    refine SlOf.stp (Ext.slOf hL.mod hss) hi ?_
    have hsucc : mov r (l.take (n + 1)) = mov r (l.take n) ++ mov r [l[n]] := by rw [take_snoc hi, mov_app]
    have hml : (mov r (l.take n)).length ≤ 100000 := by
      have h1 := mov_len r (l.take n)
      have h2 : (l.take n).length ≤ l.length := by rw [List.length_take]; omega
      omega
    generalize l[n] = y at hsucc ⊢
    refine hL.new fun b3 S3 hL _ _ => ?_
    refine hL.st 0 _ rfl (by kernel_rfl) rfl (Nat.le_of_ble_eq_true rfl) rfl rfl fun S4 hL _ => ?_
    intro k2 hk2
    have no : ¬ (y.1 = 3 ∧ y.2.1 = r) → k2 false S4 := fun hno => by
      refine hk2 _ _ ?_
      refine ifW_of (fun h => by cases h) fun _ => ?_
      rw [wrap_succ (by omega)]
      rw [mov_no hno, List.append_nil] at hsucc
      exact hP _ _ _ (by omega) ⟨n + 1, sl, rfl, by omega, rfl, by rw [hsucc]; exact hL.tl 1, hs⟩
    refine ptrW_of ?_
    refine hL.ld 0 rfl (by kernel_rfl) y.1 rfl ?_
    refine ifW_dec (fun h3 => ?_) fun h3 => no (fun h => h3 h.1)
    refine ptrW_of ?_
    refine hL.ld 0 rfl (by kernel_rfl) y.2.1 rfl ?_
    by_cases hr : y.2.1 = r
    case neg =>
      rw [show eqI y.2.1 r = false by rw [eqI_eq]; simp [hr]]
      exact no (fun h => hr h.2)
    rw [show eqI y.2.1 r = true by rw [eqI_eq]; simp [hr]]
    refine hk2 _ _ ?_
    refine ifW_of (fun _ => ?_) fun h => by cases h
    refine ptrW_of ?_
    refine hL.ld 0 rfl (by kernel_rfl) y.2.2 rfl ?_
    refine hL.new fun b6 S6 hL _ _ => ?_
    have hnx := hL.mod.next
    refine app_int hL.p (hL.at 0 rfl) (by omega) fun s' S7 g' m hs' => ?_
    rw [wrap_succ (by omega)]
    rw [mov_yes h3 hr] at hsucc
    rw [← hsucc] at g'
    exact hP _ _ _ (by omega) ⟨n + 1, s', rfl, by omega, rfl, Cx.tl (hL.op m (fun _ h => h) (fun c hc hlt => by have := hs c hc; omega) g' grX_frm hs' (fun c hc => grX_lt g' hc)) 2, fun c hc => (hs' c hc).elim (hs c) fun h => by omega⟩
  · have hi : n = l.length := by omega
    have hp := hL.p
    rw [hi, List.take_length] at hp
    exact hk sl S2 (e1.tr hL.mod) hp
/-! ### Two lists -/
theorem s12 {S : St} {s1 s2 : Sl} {l1 l2 : List Stp} {k : Value → St → Prop} (h1 : Sts S s1 l1) (h2 : Sts S s2 l2) (hlen : l1.length ≤ 100000000) (hk : k (.bool (decide (l1 = l2))) S) : WC E0 12 [.slice s1.a s1.len s1.cap, .slice s2.a s2.len s2.cap] S k := by
  refine w12 s1 s2 ?_
  unfold c12
  have e1 := h1.len
  have e2 := h2.len
  have no : l1 ≠ l2 → k (.bool false) S := fun h => by rw [decide_eq_false h] at hk; exact hk
  refine ifW_ndec (fun hne => no fun e => hne (by rw [e1, e2, e])) fun heq => ?_
  have heq : l1.length = l2.length := by omega
  refine loopW_ind (fun q (n1 : Int) S' => ∃ n : Nat, n1 = n ∧ n ≤ l1.length ∧ q = l1.length - n ∧ S' = S ∧ l1.take n = l2.take n) (m := l1.length) ⟨0, rfl, by omega, rfl, rfl, by simp⟩ ?_
  rintro P q n1 S1 ⟨n, rfl, hn, rfl, rfl, hm⟩ hP
  refine ifW_dec (fun hlt => ?_) fun hlt => ?_
  · have n1 : n < l1.length := by omega
    have n2 : n < l2.length := by omega
    refine SlOf.stp h1 n1 ?_
    refine SlOf.stp h2 n2 ?_
    refine ⟨_, eqStp _ l1[n] l2[n], ?_⟩
    refine ifW_ndec (fun hb => no fun e => hb (by subst e; rfl)) fun hb => ?_
    rw [wrap_succ (by omega)]
    exact hP _ _ _ (by omega) ⟨n + 1, rfl, by omega, rfl, rfl, by rw [take_snoc n1, take_snoc n2, hm, hb]⟩
  · have hn' : n = l1.length := by omega
    have hd : l1 = l2 := by
      rw [hn', List.take_length, heq, List.take_length] at hm
      exact hm
    rw [decide_eq_true hd] at hk
    exact hk
theorem SlOf.int {S : St} {s : Sl} {l : List Int} (h : SlOf encI 1 S s l) {n : Nat} (hn : n < l.length) {k : Int → Prop} (hk : k l[n]) : idxW s.a s.len (n : Int) fun b1 b2 => evV tI (loadV E0 S 3 (.pointer (some ⟨b1, b2 + Int.toNat (n : Int) * 1, none⟩))) k := by
  refine h.idxL (f := encI) (sz := 1) (fun _ => rfl) h.len hn fun b o cs m ro fz hat _ hv => ?_
  exact evV_of (ty := tI) l[n] ((load_one hat (by kernel_rfl)).trans ((at_take hv (j := 0) (by omega)).trans rfl)) hk
theorem s13 {S : St} {s1 s2 : Sl} {l1 l2 : List Int} {k : Value → St → Prop} (h1 : SlOf encI 1 S s1 l1) (h2 : SlOf encI 1 S s2 l2) (hlen : l1.length ≤ 100000000) (hk : k (.bool (decide (l1 = l2))) S) : WC E0 13 [.slice s1.a s1.len s1.cap, .slice s2.a s2.len s2.cap] S k := by
  refine w13 s1 s2 ?_
  unfold c13
  have e1 := h1.len
  have e2 := h2.len
  have no : l1 ≠ l2 → k (.bool false) S := fun h => by rw [decide_eq_false h] at hk; exact hk
  refine ifW_ndec (fun hne => no fun e => hne (by rw [e1, e2, e])) fun heq => ?_
  have heq : l1.length = l2.length := by omega
  refine loopW_ind (fun q (n1 : Int) S' => ∃ n : Nat, n1 = n ∧ n ≤ l1.length ∧ q = l1.length - n ∧ S' = S ∧ l1.take n = l2.take n) (m := l1.length) ⟨0, rfl, by omega, rfl, rfl, by simp⟩ ?_
  rintro P q n1 S1 ⟨n, rfl, hn, rfl, rfl, hm⟩ hP
  refine ifW_dec (fun hlt => ?_) fun hlt => ?_
  · have n1 : n < l1.length := by omega
    have n2 : n < l2.length := by omega
    refine SlOf.int h1 n1 ?_
    refine SlOf.int h2 n2 ?_
    refine ifW_ndec (fun hb => no fun e => hb (by subst e; rfl)) fun hb => ?_
    rw [wrap_succ (by omega)]
    exact hP _ _ _ (by omega) ⟨n + 1, rfl, by omega, rfl, rfl, by rw [take_snoc n1, take_snoc n2, hm, hb]⟩
  · have hn' : n = l1.length := by omega
    have hd : l1 = l2 := by
      rw [hn', List.take_length, heq, List.take_length] at hm
      exact hm
    rw [decide_eq_true hd] at hk
    exact hk
end
end Go.Proofs.YtfopfocedlbihaaGreatDoor

/- Pages: the law of diaries' texts. -/
namespace Go.Proofs.YtfopfocedlbihaaGreatDoor
open Go Go.Proofs.YtfopfocedlbihaaGreatDoor.D
set_option linter.unusedVariables false
set_option linter.unusedSimpArgs false
noncomputable section

theorem SlOf.fld {S : St} {s : Sl} {l : List Stp} (h : Sts S s l) {n : Nat} (hn : n < l.length) (i : Nat) (hi : i < 3) (v : Int) (hv : (cellsS l[n])[i]? = some (.int .i64 v)) {k : Int → Prop} (hk : k v) :
    idxW s.a s.len (n : Int) fun b1 b2 => ptrW (some ⟨b1, b2 + Int.toNat (n : Int) * 3, none⟩) fun b3 b4 => evV tI (loadV E0 S 3 (.pointer (some ⟨b3, b4 + i, none⟩))) k := by
  refine h.idxL (f := cellsS) (sz := 3) (fun _ => rfl) h.len hn fun b o cs m ro fz hat _ hw => ?_
  refine ptrW_of ?_
  exact evV_of (ty := tI) v ((load_one hat (by kernel_rfl)).trans ((at_take hw (j := i) hi).trans hv)) hk
/-- Two lists that grow. -/
def gO (s1 s2 : Sl) (c : Nat) : Prop := slO s1 c ∨ slO s2 c
abbrev GF (s1 : Sl) (l1 : List Stp) (s2 : Sl) (l2 : List Int) (S : St) : Prop := GrX cellsS 3 0 S s1 l1 ∧ GrX encI 1 0 S s2 l2
theorem gf_frm {s1 s2 : Sl} {l1 : List Stp} {l2 : List Int} : Frm (gO s1 s2) (GF s1 l1 s2 l2) := Frm.and grX_frm grX_frm
theorem gf_lt {s1 s2 : Sl} {l1 : List Stp} {l2 : List Int} {S : St} (h : GF s1 l1 s2 l2 S) {c : Nat} (hc : gO s1 s2 c) : c < S.next := hc.elim (grX_lt h.1) (grX_lt h.2)
structure G2 (S0 S : St) (L : List (Nat × DObj)) (s1 : Sl) (l1 : List Stp) (s2 : Sl) (l2 : List Int) : Prop where
  cx : Cx noB S0 S L (gO s1 s2) (GF s1 l1 s2 l2)
  new : ∀ c, gO s1 s2 c → S0.next ≤ c
  sep : ∀ c, slO s1 c → ¬ slO s2 c
theorem nil_slO {c : Nat} (h : slO ⟨none, 0, 0⟩ c) : False := by obtain ⟨o, h⟩ := h; cases h
theorem G2.start (S : St) : G2 S S [] ⟨none, 0, 0⟩ [] ⟨none, 0, 0⟩ [] :=
  ⟨Cx.start (S := S) noB (P := GF ⟨none, 0, 0⟩ [] ⟨none, 0, 0⟩ []) ⟨.inl ⟨rfl, rfl⟩, .inl ⟨rfl, rfl⟩⟩ gf_frm (fun c hc => (hc.elim nil_slO nil_slO).elim), fun c hc => (hc.elim nil_slO nil_slO).elim, fun c h => (nil_slO h).elim⟩
theorem G2.app1 {S0 S : St} {L : List (Nat × DObj)} {s1 s2 : Sl} {l1 : List Stp} {l2 : List Int} (h : G2 S0 S L s1 l1 s2 l2) (i : Nat) {b : Nat} {x : Stp} (hi : L[i]? = some (b, .cells (cellsS x) none false none)) (hl : l1.length ≤ 1000000)
    {k : Sl → St → Prop} (hk : ∀ s' S', G2 S0 S' L s' (l1 ++ [x]) s2 l2 → k s' S') : evP tS (appendD E0 S 33 33 (.slice s1.a s1.len s1.cap) (.slice (some ⟨b, 0, none⟩) 1 1)) k := by
  refine app_stp h.cx.p.1 (h.cx.at i hi) (by omega) fun s' S' g m hs' => ?_
  have hP : GF s' (l1 ++ [x]) s2 l2 S' := ⟨g, grX_frm (slO s1) S S' m.kp (fun c hc h1 => h.sep c h1 hc) h.cx.p.2⟩
  have hn := h.cx.mod.next
  have hO : ∀ c, gO s' s2 c → gO s1 s2 c ∨ S.next ≤ c := fun c hc => hc.elim (fun hc => (hs' c hc).imp .inl id) fun hc => .inl (.inr hc)
  refine hk s' S' ⟨h.cx.op m (fun c hc => .inl hc) (fun c hc hlt => by have := h.new c (.inl hc); omega) hP gf_frm hO (fun c hc => gf_lt hP hc), fun c hc => ?_, fun c hc h2 => ?_⟩
  · rcases hO c hc with hc | hc
    · exact h.new c hc
    · omega
  · rcases hs' c hc with h1 | h1
    · exact h.sep c h1 h2
    · have := h.cx.lt c (.inr h2); omega
theorem G2.app2 {S0 S : St} {L : List (Nat × DObj)} {s1 s2 : Sl} {l1 : List Stp} {l2 : List Int} (h : G2 S0 S L s1 l1 s2 l2) (i : Nat) {b : Nat} {x : Int} (hi : L[i]? = some (b, .cells [.int .i64 x] none false none)) (hl : l2.length ≤ 1000000)
    {k : Sl → St → Prop} (hk : ∀ s' S', G2 S0 S' L s1 l1 s' (l2 ++ [x]) → k s' S') : evP tS (appendD E0 S 34 34 (.slice s2.a s2.len s2.cap) (.slice (some ⟨b, 0, none⟩) 1 1)) k := by
  refine app_int h.cx.p.2 (h.cx.at i hi) (by omega) fun s' S' g m hs' => ?_
  have hP : GF s1 l1 s' (l2 ++ [x]) S' := ⟨grX_frm (slO s2) S S' m.kp (fun c hc h1 => h.sep c hc h1) h.cx.p.1, g⟩
  have hn := h.cx.mod.next
  have hO : ∀ c, gO s1 s' c → gO s1 s2 c ∨ S.next ≤ c := fun c hc => hc.elim (fun hc => .inl (.inl hc)) fun hc => (hs' c hc).imp .inr id
  refine hk s' S' ⟨h.cx.op m (fun c hc => .inr hc) (fun c hc hlt => by have := h.new c (.inr hc); omega) hP gf_frm hO (fun c hc => gf_lt hP hc), fun c hc => ?_, fun c hc h2 => ?_⟩
  · rcases hO c hc with hc | hc
    · exact h.new c hc
    · omega
  · rcases hs' c h2 with h1 | h1
    · exact h.sep c hc h1
    · have := h.cx.lt c (.inl hc); omega
theorem G2.with {S0 S S' : St} {L L' : List (Nat × DObj)} {s1 s2 : Sl} {l1 : List Stp} {l2 : List Int} (h : G2 S0 S L s1 l1 s2 l2) (hL : Cx noB S0 S' L' (gO s1 s2) (GF s1 l1 s2 l2)) : G2 S0 S' L' s1 l1 s2 l2 := ⟨hL, h.new, h.sep⟩
theorem allS_take {ps : List PL} {n j : Nat} (h : n < ps.length) (hj : j < ps[n].2.length) : allS (ps.take n) ++ ps[n].2.take (j + 1) = (allS (ps.take n) ++ ps[n].2.take j) ++ [ps[n].2[j]] := by
  rw [take_snoc hj, List.append_assoc]
set_option maxHeartbeats 2000000 in
theorem s3 {S : St} {s : Sl} {ps : List PL} {t : List UInt8} {r : Int} (g : Gd S) (h : Pgs S s ps) (hw : ∀ p ∈ ps, OrdW (pO p.1)) (hsp : ∀ p ∈ ps, ∀ a, (pS p.1).a = some a → a.spot = none) :
    WC E0 3 [.slice s.a s.len s.cap, strV t, .int .i64 r] S fun v _ => v = .bool true := by
  refine w3 s t r ?_
  unfold c3
  have hl := h.len
  refine evC_of (s4 h fun n _ hn => ⟨n, rfl, ?_⟩)
  refine ifW_dec (fun _ => rfl) fun hn0 => ?_
  obtain ⟨hlen, hst⟩ := hn (by omega)
  refine ifW_dec (fun _ => rfl) fun htl => ?_
  have ht : t.length ≤ 4000 := by omega
  refine evC_of (s5 g h (by omega) hw fun S2 e2 => ⟨((textGP (ps.map dG)).1, (textGP (ps.map dG)).2), rfl, ?_⟩)
  refine evC_of (s6 (h.ext e2) hw fun S3 e3 => ⟨((textGP (ps.map dG)).1, (textGP (ps.map dG)).2), rfl, ?_⟩)
  have e3 : Ext S S3 := e2.tr e3
  refine evC_of (s7 (g.ext e3) (by omega) fun sa pa S4 e4 ga ma _ => ⟨(sa, (pgP t).2.1, (pgP t).2.2), rfl, ?_⟩)
  have e4 : Ext S S4 := e3.tr e4
  refine evC_of (s8 (by omega) fun sb pb S5 e5 gb mb _ => ⟨(sb, (pgP t).2.1, (pgP t).2.2), rfl, ?_⟩)
  have ga := ga.ext e5
  have e5 : Ext S S5 := e4.tr e5
  have hg := h.ext e5
  refine loopW_ind (fun q (x : Sl × Sl × Int) S' => ∃ (n : Nat) (s1 s2 : Sl), x = (s1, s2, (n : Int)) ∧ n ≤ ps.length ∧ q = ps.length - n ∧ G2 S5 S' [] s1 (allS (ps.take n)) s2 (mov r (allS (ps.take n)))) (m := ps.length)
    ⟨0, _, _, rfl, by omega, rfl, G2.start S5⟩ ?_
  rintro P q x1 S6 ⟨n, s1, s2, rfl, hn, rfl, hK⟩ hP
  dsimp only
  refine ifW_dec (fun hlt => ?_) fun hlt => ?_
  · have hi : n < ps.length := by omega
    have h6 := hg.ext hK.cx.mod
    refine h6.stp hi ?_
    have hsl := (h6.st.at hi).len
    have hb := allS_len (ps := ps.take n) fun p hp => hst p (List.mem_of_mem_take hp)
    have hb2 : (ps.take n).length ≤ 60 := by rw [List.length_take]; omega
    have hb3 := hst ps[n] (List.getElem_mem hi)
    refine loopW_ind (fun q (x : Sl × Sl × Int) S' => ∃ (j : Nat) (s1 s2 : Sl), x = (s1, s2, (j : Int)) ∧ j ≤ ps[n].2.length ∧ q = ps[n].2.length - j ∧ G2 S5 S' [] s1 (allS (ps.take n) ++ ps[n].2.take j) s2 (mov r (allS (ps.take n) ++ ps[n].2.take j))) (m := ps[n].2.length)
      ⟨0, s1, s2, rfl, by omega, rfl, by simpa using hK⟩ ?_
    rintro P2 q2 x2 S7 ⟨j, u1, u2, rfl, hj, rfl, hK⟩ hP2
    dsimp only
    refine ifW_dec (fun hlt2 => ?_) fun hlt2 => ?_
    · have hj' : j < ps[n].2.length := by omega
      have h7 := hg.ext hK.cx.mod
      refine h7.stp hi ?_
      refine SlOf.stp (h7.st.at hi) hj' ?_
      have hL := hK.cx
      refine hL.new fun b11 S8 hL _ _ => ?_
      have hal : (allS (ps.take n) ++ ps[n].2.take j).length ≤ 100000 := by
        rw [List.length_append, List.length_take]
        have hb : (allS (ps.take n)).length ≤ 1001 * (ps.take n).length := hb
        omega
      refine (hK.with hL).app1 0 (x := ps[n].2[j]) rfl (by omega) fun v1 S9 hK => ?_
      have hml := mov_len r (allS (ps.take n) ++ ps[n].2.take j)
      have e9 := hK.cx.mod
      have h9 := hg.ext e9
      have h9s := h9.st.at hi
      have hat := allS_take hi hj'
      have hmv : mov r (allS (ps.take n) ++ ps[n].2.take (j + 1)) = mov r (allS (ps.take n) ++ ps[n].2.take j) ++ mov r [ps[n].2[j]] := by rw [hat, mov_app]
      intro k3 hk3
      have no : ¬ (ps[n].2[j].1 = 3 ∧ ps[n].2[j].2.1 = r) → k3 false S9 := fun hno => by
        refine hk3 _ _ ?_
        refine ifW_of (fun h => by cases h) fun _ => ?_
        rw [wrap_succ (by omega)]
        rw [mov_no hno, List.append_nil] at hmv
        refine hP2 _ _ _ (by omega) ⟨j + 1, v1, u2, rfl, by omega, rfl, ?_⟩
        rw [hmv, hat]
        exact hK.with (hK.cx.tl 1)
      refine h9.stp hi ?_
      refine SlOf.fld h9s hj' 0 (by omega) ps[n].2[j].1 rfl ?_
      refine ifW_dec (fun h3 => ?_) fun h3 => no (fun h => h3 h.1)
      refine h9.stp hi ?_
      refine SlOf.fld h9s hj' 1 (by omega) ps[n].2[j].2.1 rfl ?_
      by_cases hr : ps[n].2[j].2.1 = r
      case neg =>
        rw [show eqI ps[n].2[j].2.1 r = false by rw [eqI_eq]; simp [hr]]
        exact no (fun h => hr h.2)
      rw [show eqI ps[n].2[j].2.1 r = true by rw [eqI_eq]; simp [hr]]
      refine hk3 _ _ ?_
      refine ifW_of (fun _ => ?_) fun h => by cases h
      refine h9.stp hi ?_
      refine SlOf.fld h9s hj' 2 (by omega) ps[n].2[j].2.2 rfl ?_
      have hL := hK.cx
      refine hL.new fun b20 S11 hL _ _ => ?_
      refine (hK.with hL).app2 0 (x := ps[n].2[j].2.2) rfl (by omega) fun v2 S12 hK => ?_
      rw [wrap_succ (by omega)]
      refine hP2 _ _ _ (by omega) ⟨j + 1, v1, v2, rfl, by omega, rfl, ?_⟩
      rw [hmv, hat, mov_yes h3 hr]
      exact hK.with (hK.cx.tl 2)
    · have hj' : j = ps[n].2.length := by omega
      rw [wrap_succ (by omega)]
      refine hP _ _ _ (by omega) ⟨n + 1, u1, u2, rfl, by omega, rfl, ?_⟩
      rw [hj', List.take_length, ← allS_succ hi] at hK
      exact hK
  · have hi : n = ps.length := by omega
    rw [hi, List.take_length] at hK
    have e6 := hK.cx.mod
    refine evC_of (s9 (hg.ext e6) hsp hlen hst fun s8 S13 e13 g8 _ => ⟨s8, rfl, ?_⟩)
    refine evC_of (s10 ((hg.ext e6).ext e13) hsp hlen hst fun s9 S14 e14 g9 => ⟨s9, rfl, ?_⟩)
    have hL := (hK.cx.ext e13).ext e14
    have g8 : GrX cellsS 3 0 S14 s8 (allS ps) := Mod.grX e14 g8 fun _ _ _ h => h
    refine ifW_of (fun _ => ?_) fun h => by simp at h
    refine ifW_pos rfl ?_
    have hpl := pg_len t
    have hal : pa.length ≤ 4000 := by
      rw [← ma, List.length_map] at hpl
      omega
    have hpa : ∀ p ∈ pa, p.2.length ≤ 100000000 := fun p hp => by
      have := pg_stl t (dG p) (by rw [← ma]; exact List.mem_map_of_mem hp)
      have : p.2.length ≤ 1000 := this
      omega
    refine evC_of (s11 (ga.ext hL.mod) (gb.ext hL.mod) (by omega) hpa fun b S15 e15 hb => ⟨b, rfl, ?_⟩)
    rw [hb.2 (by rw [ma, mb])]
    have hL := hL.ext e15
    have g8 : GrX cellsS 3 0 S15 s8 (allS ps) := Mod.grX e15 g8 fun _ _ _ h => h
    have g9 : GrX encI 1 0 S15 s9 (mov r (allS ps)) := Mod.grX e15 g9 fun _ _ _ h => h
    refine ifW_of (fun _ => ?_) fun h => by cases h
    refine ifW_pos rfl ?_
    refine ifW_pos rfl ?_
    have hb := allS_len hst
    have hml := mov_len r (allS ps)
    refine evC_of (s12 (GrX.of (f := cellsS) (sz := 3) (fun _ => rfl) g8) (GrX.of (f := cellsS) (sz := 3) (fun _ => rfl) hL.p.1) (by omega) ⟨true, by simp; rfl, ?_⟩)
    refine ifW_of (fun _ => ?_) fun h => by cases h
    refine evC_of (s13 (GrX.of (f := encI) (sz := 1) (fun _ => rfl) g9) (GrX.of (f := encI) (sz := 1) (fun _ => rfl) hL.p.2) (by omega) ⟨true, by simp; rfl, ?_⟩)
    rfl
end
end Go.Proofs.YtfopfocedlbihaaGreatDoor
