/- Bags: what is done to one: sent, doubled. -/
import Derived.Test.YtcookjolkhcjhaaBag9
namespace Go.Proofs.Ytcookjolkhcjhaa
open Go Go.Proofs.Ytcookjolkhcjhaa.D
set_option linter.unusedVariables false
set_option linter.unusedSimpArgs false
noncomputable section

theorem at_ne {S : St} {b b' : Nat} {o o' : DObj} (h : At S b o) (h' : At S b' o') (hne : o ≠ o') : b ≠ b' := fun e => hne (at_inj h (e ▸ h'))
theorem Pks.get {S : St} {fl : List Flt} {l : List Pk} {ow : List Nat} (h : Pks S fl l ow) (i : Nat) (hi : i < l.length) : ∃ d o, fl[i]'(by rw [h.len]; exact hi) = (l[i].1, l[i].2.1, l[i].2.2.1, d, l[i].2.2.2.2) ∧ DatB S d l[i].2.2.2.1 o ∧ ∀ c ∈ o, c ∈ ow := by
  obtain ⟨fl1, p, d, fl2, l1, l2, ow1, o, ow2, e1, e2, e3, e4, e5, g1, g2, g3⟩ := h.at i hi
  subst e3 e4 e5
  have h1 : (l1 ++ p :: l2)[i] = p := by rw [List.getElem_append_right (by omega)]; simp [e2]
  have h2 : (fl1 ++ (p.1, p.2.1, p.2.2.1, d, p.2.2.2.2) :: fl2)[i]'(by simp; omega) = (p.1, p.2.1, p.2.2.1, d, p.2.2.2.2) := by rw [List.getElem_append_right (by omega)]; simp [e1]
  exact ⟨d, o, by rw [h2, h1], by rw [h1]; exact g2, fun c hc => by simp [hc]⟩
theorem Pks.idx {S : St} {fl : List Flt} {l : List Pk} {ow : List Nat} (h : Pks S fl l ow) (n : Int) : fl.findIdx? (fun x => decide (x.1 = n)) = idxS l n := by
  unfold idxS
  induction h with
  | nil => rfl
  | cons h1 h2 ih => rw [List.findIdx?_cons, List.findIdx?_cons, ih]
theorem Pks.place {S : St} {fl : List Flt} {l : List Pk} {ow : List Nat} (h : Pks S fl l ow) (n : Int) : placeF fl n = match idxS l n with | some i => ((i : Int), 0) | none => (0, 80) := by
  unfold placeF
  rw [h.idx]
  cases idxS l n <;> rfl
/-- Blocks of a bag. -/
theorem list_ne {S : St} {bb : Nat} {s : Sl} {last : Int} {c : Cnt} {fl : List Flt} {l : List Pk} {ow : List Nat} (h1 : At S bb (bagO s last c)) (h2 : Fls (bb + 1) S s fl) (h3 : Pks S fl l ow) {b : Nat} (hb : b ∈ ow) : ¬ (b = bb ∨ bb + 1 ≤ b ∧ s.a = some ⟨b, 0, none⟩) := by
  obtain ⟨x, h, hx⟩ := h3.blk hb
  rintro (rfl | ⟨_, e⟩)
  · rw [at_inj h h1] at hx; cases hx
  · obtain ⟨cs', h', _⟩ := h2.bk (h2.bk_mem e)
    rw [at_inj h h'] at hx; cases hx
theorem put_is {S S' : St} {bb : Nat} {s s' : Sl} {last last' : Int} {c c' : Cnt} {fl : List Flt} {l : List Pk} {ow : List Nat} {p : Pk} {d : Sl} (h1 : At S bb (bagO s last c)) (h2 : Fls (bb + 1) S s fl) (h3 : Pks S fl l ow) (h4 : ow.Nodup)
    (f : s'.a = s.a ∨ ∃ b, s'.a = some ⟨b, 0, none⟩ ∧ S.next ≤ b) (g1 : At S' bb (bagO s' last' c')) (g2 : Fls (bb + 1) S' s' (fl ++ [(p.1, p.2.1, p.2.2.1, d, p.2.2.2.2)])) (g3 : Dat S.next S' d p.2.2.2.1) (m : Mod (fun b => b = bb ∨ bb + 1 ≤ b ∧ s.a = some ⟨b, 0, none⟩) S S') :
    ∃ own', BagIs S' bb ⟨l ++ [p], last', c'⟩ own' ∧ (∀ b ∈ own', b ∈ bb :: (blk s ++ ow) ∨ S.next ≤ b) ∧ Mod (fun b => b ∈ bb :: (blk s ++ ow)) S S' := by
  obtain ⟨o, d1, d2, d3⟩ := g3.b
  have hp := h3.mod m.kp fun b hb => list_ne h1 h2 h3 hb
  refine ⟨bb :: (blk s' ++ (ow ++ o)), ⟨s', _, ow ++ o, g1, g2, hp.app (.one d1), ?_, rfl⟩, ?_, m.mono fun b hb _ => ?_⟩
  · rw [List.nodup_append]
    refine ⟨h4, d3, fun a ha b hb e => ?_⟩
    obtain ⟨x, hx, _⟩ := h3.blk ha
    have := hx.lt
    have := d2 b hb
    omega
  · intro b hb
    simp only [List.mem_cons, List.mem_append] at hb ⊢
    rcases hb with rfl | hb | hb | hb
    · exact .inl (.inl rfl)
    · rcases f with f | ⟨b', f, hlt⟩
      · exact .inl (.inr (.inl (by unfold blk at hb ⊢; rw [f] at hb; exact hb)))
      · unfold blk at hb; rw [f] at hb; simp only [List.mem_cons, List.not_mem_nil, or_false] at hb; subst hb; exact .inr hlt
    · exact .inl (.inr (.inr hb))
    · exact .inr (d2 b hb)
  · rcases hb with rfl | ⟨_, e⟩
    · simp
    · have := h2.bk_mem e; simp [this]
theorem same_is {S S' : St} {bb : Nat} {s : Sl} {last last' : Int} {c c' : Cnt} {fl : List Flt} {l : List Pk} {ow : List Nat} (h1 : At S bb (bagO s last c)) (h2 : Fls (bb + 1) S s fl) (h3 : Pks S fl l ow) (h4 : ow.Nodup)
    (g1 : At S' bb (bagO s last' c')) (m : Mod (fun b => b = bb) S S') :
    BagIs S' bb ⟨l, last', c'⟩ (bb :: (blk s ++ ow)) ∧ Mod (fun b => b ∈ bb :: (blk s ++ ow)) S S' := by
  refine ⟨⟨s, fl, ow, g1, m.grX h2 fun b hb _ e => by omega, h3.mod m.kp fun b hb e => list_ne h1 h2 h3 hb (.inl e), h4, rfl⟩, m.mono fun b hb _ => by subst hb; simp⟩

theorem b26 {S : St} {bb m : Nat} {st : BagS} {own : List Nat} {fr to : Int} {da : Sl} {d : List Int} {k : Value → St → Prop} (h : BagIs S bb st own) (ok : BagOk m st) (hm : m < 2000000)
    (hd : SlOf cellB 1 S da d) (hsp : ∀ a, da.a = some a → a.spot = none) (hne : d ≠ [] → ∀ b o, da.a = some ⟨b, o, none⟩ → b ≠ bb) (hl : d.length ≤ 60)
    (hk : ∀ own' S', BagIs S' bb (sendS st fr to d).2 own' → (∀ c ∈ own', c ∈ own ∨ S.next ≤ c) → Mod (fun b => b ∈ own) S S' → k (.int .i64 (sendS st fr to d).1) S') :
    WC E0 26 [.pointer (some ⟨bb, 0, none⟩), .int .i64 fr, .int .i64 to, .slice da.a da.len da.cap] S k := by
  obtain ⟨s, fl, ow, h1, h2, h3, h4, rfl⟩ := h
  have hlen := h3.len
  have o1 := ok.len; have o2 := ok.last; have o3 := ok.c1; have o4 := ok.c6
  have hlt := h1.lt
  refine s26 (N := bb + 1) h1 h2 (by omega) (by omega) (by omega) (by omega) (by omega) hd hsp hne (by omega) (fun hf S' g1 g2 m1 => ?_) (fun hf s' d' S' f g1 g2 g3 m1 => ?_)
  · have e : sendS st fr to d = (0, ⟨st.l, st.last, (st.c.1 + 1, st.c.2.1, st.c.2.2.1, st.c.2.2.2.1, st.c.2.2.2.2.1, st.c.2.2.2.2.2 + 1)⟩) := by
      unfold sendS putS; rw [if_neg (by simp only; omega)]
    rw [wrap_i64 (by omega) (by omega)] at g1
    obtain ⟨a1, a2⟩ := same_is h1 h2 h3 h4 g1 m1
    rw [e] at hk
    exact hk _ S' a1 (fun c hc => .inl hc) a2
  · have e : sendS st fr to d = (st.last + 1, ⟨st.l ++ [(st.last + 1, fr, to, d, false)], st.last + 1, (st.c.1 + 1, st.c.2)⟩) := by
      unfold sendS putS; rw [if_pos (by simp only; omega)]
    rw [e] at hk
    obtain ⟨own', a1, a2, a3⟩ := put_is (p := (st.last + 1, fr, to, d, false)) h1 h2 h3 h4 f g1 g2 g3 m1
    exact hk own' S' a1 a2 a3
theorem b52 {S : St} {bb m : Nat} {st : BagS} {own : List Nat} {x : Flt} {d : List Int} {k : Value → St → Prop} (h : BagIs S bb st own) (ok : BagOk m st) (hm : m < 2000000)
    (hd : SlOf cellB 1 S x.2.2.2.1 d) (hsp : ∀ a, x.2.2.2.1.a = some a → a.spot = none) (hne : d ≠ [] → ∀ b o, x.2.2.2.1.a = some ⟨b, o, none⟩ → b ≠ bb) (hl : d.length ≤ 60)
    (hk : ∀ own' S', BagIs S' bb (putS st (x.2.1, x.2.2.1, d, x.2.2.2.2)).2 own' → (∀ c ∈ own', c ∈ own ∨ S.next ≤ c) → Mod (fun b => b ∈ own) S S' → k (.int .i64 (putS st (x.2.1, x.2.2.1, d, x.2.2.2.2)).1) S') :
    WC E0 52 [.pointer (some ⟨bb, 0, none⟩), sv G66 x] S k := by
  obtain ⟨s, fl, ow, h1, h2, h3, h4, rfl⟩ := h
  have hlen := h3.len
  have o1 := ok.len; have o2 := ok.last; have o3 := ok.c1; have o4 := ok.c6
  have hlt := h1.lt
  by_cases hf : fl.length = 256
  · refine s52full (N := bb + 1) h1 h2 (by omega) fun S' g1 m1 => ?_
    have e : putS st (x.2.1, x.2.2.1, d, x.2.2.2.2) = (0, ⟨st.l, st.last, (st.c.1, st.c.2.1, st.c.2.2.1, st.c.2.2.2.1, st.c.2.2.2.2.1, st.c.2.2.2.2.2 + 1)⟩) := by
      unfold putS; rw [if_neg (by omega)]
    rw [wrap_i64 (by omega) (by omega)] at g1
    obtain ⟨a1, a2⟩ := same_is h1 h2 h3 h4 g1 m1
    rw [e] at hk
    exact hk _ S' a1 (fun c hc => .inl hc) a2
  · refine s52 (N := bb + 1) h1 h2 (by omega) (by omega) (by omega) (by omega) hd hsp hne (by omega) fun s' d' S' f g1 g2 g3 m1 => ?_
    have e : putS st (x.2.1, x.2.2.1, d, x.2.2.2.2) = (st.last + 1, ⟨st.l ++ [(st.last + 1, x.2.1, x.2.2.1, d, x.2.2.2.2)], st.last + 1, st.c⟩) := by
      unfold putS; rw [if_pos (by omega)]
    rw [e] at hk
    obtain ⟨own', a1, a2, a3⟩ := put_is (p := (st.last + 1, x.2.1, x.2.2.1, d, x.2.2.2.2)) h1 h2 h3 h4 f g1 g2 g3 m1
    exact hk own' S' a1 a2 a3
theorem b30 {S : St} {bb m : Nat} {st : BagS} {own : List Nat} {n : Int} {k : Value → St → Prop} (h : BagIs S bb st own) (ok : BagOk m st) (hm : m < 1000000)
    (hk : ∀ own' S', BagIs S' bb (doubleS st n).2 own' → (∀ c ∈ own', c ∈ own ∨ S.next ≤ c) → Mod (fun b => b ∈ own) S S' → k (.tuple #[.int .i64 (doubleS st n).1.1, .int .i64 (doubleS st n).1.2]) S') :
    WC E0 30 [.pointer (some ⟨bb, 0, none⟩), .int .i64 n] S k := by
  have h0 := h
  obtain ⟨s, fl, ow, h1, h2, h3, h4, rfl⟩ := h
  have hlen := h3.len
  have o1 := ok.len; have o2 := ok.last; have o3 := ok.c4; have o4 := ok.c6
  have hlt := h1.lt
  refine w30 _ n ?_
  unfold c30
  refine evC_of (s56 h1 (h2.of fun _ => rfl) (by omega) fun S1 e1 => ⟨placeF fl n, rfl, ?_⟩)
  rw [h3.place n]
  unfold doubleS at hk
  cases hi : idxS st.l n with
  | none =>
    rw [hi] at hk
    refine ifW_ndec (fun _ => ?_) fun h => by cases h
    exact hk _ S1 (h0.ext e1) (fun c hc => .inl hc) (e1.mono fun _ h _ => h.elim)
  | some i =>
    rw [hi] at hk
    obtain ⟨hil, _, _⟩ := idxS_lt hi
    refine ifW_ndec (fun h => (h rfl).elim) fun _ => ?_
    simp only [List.getElem?_eq_getElem hil] at hk
    have h1' := e1.at h1
    have hL := hld_one h1'
    refine ptrW_of (ptrW_of (ptrW_of ?_))
    (first | refine hL.ld 0 rfl (by kernel_rfl) _ rfl ?_ | refine hL.ld 1 rfl (by kernel_rfl) _ rfl ?_ | refine hL.ld 2 rfl (by kernel_rfl) _ rfl ?_ | refine hL.ld 3 rfl (by kernel_rfl) _ rfl ?_ | refine hL.ld 4 rfl (by kernel_rfl) _ rfl ?_ | refine hL.ld 5 rfl (by kernel_rfl) _ rfl ?_ | refine hL.ld 6 rfl (by kernel_rfl) _ rfl ?_ | refine hL.ld 7 rfl (by kernel_rfl) _ rfl ?_ | refine hL.lda 0 rfl (by kernel_rfl) _ rfl ?_ | refine hL.lda 1 rfl (by kernel_rfl) _ rfl ?_ | refine hL.lda 2 rfl (by kernel_rfl) _ rfl ?_ | refine hL.lda 3 rfl (by kernel_rfl) _ rfl ?_ | refine hL.lda 4 rfl (by kernel_rfl) _ rfl ?_ | refine hL.lda 5 rfl (by kernel_rfl) _ rfl ?_ | refine hL.lda 6 rfl (by kernel_rfl) _ rfl ?_ | refine hL.lda 7 rfl (by kernel_rfl) _ rfl ?_)
    refine ptrW_of (ptrW_of (ptrW_of ?_))
    rw [wrap_i64 (by omega) (by omega)]
    (first | refine hL.st 0 _ rfl (by kernel_rfl) rfl (Nat.le_of_ble_eq_true rfl) rfl rfl fun S' hL hn' => ?_ | refine hL.st 1 _ rfl (by kernel_rfl) rfl (Nat.le_of_ble_eq_true rfl) rfl rfl fun S' hL hn' => ?_ | refine hL.st 2 _ rfl (by kernel_rfl) rfl (Nat.le_of_ble_eq_true rfl) rfl rfl fun S' hL hn' => ?_ | refine hL.st 3 _ rfl (by kernel_rfl) rfl (Nat.le_of_ble_eq_true rfl) rfl rfl fun S' hL hn' => ?_ | refine hL.st 4 _ rfl (by kernel_rfl) rfl (Nat.le_of_ble_eq_true rfl) rfl rfl fun S' hL hn' => ?_ | refine hL.st 5 _ rfl (by kernel_rfl) rfl (Nat.le_of_ble_eq_true rfl) rfl rfl fun S' hL hn' => ?_ | refine hL.st 6 _ rfl (by kernel_rfl) rfl (Nat.le_of_ble_eq_true rfl) rfl rfl fun S' hL hn' => ?_ | refine hL.st 7 _ rfl (by kernel_rfl) rfl (Nat.le_of_ble_eq_true rfl) rfl rfl fun S' hL hn' => ?_)
    refine ptrW_of (ptrW_of ?_)
    (first | refine hL.ld 0 rfl (by kernel_rfl) _ rfl ?_ | refine hL.ld 1 rfl (by kernel_rfl) _ rfl ?_ | refine hL.ld 2 rfl (by kernel_rfl) _ rfl ?_ | refine hL.ld 3 rfl (by kernel_rfl) _ rfl ?_ | refine hL.ld 4 rfl (by kernel_rfl) _ rfl ?_ | refine hL.ld 5 rfl (by kernel_rfl) _ rfl ?_ | refine hL.ld 6 rfl (by kernel_rfl) _ rfl ?_ | refine hL.ld 7 rfl (by kernel_rfl) _ rfl ?_ | refine hL.lda 0 rfl (by kernel_rfl) _ rfl ?_ | refine hL.lda 1 rfl (by kernel_rfl) _ rfl ?_ | refine hL.lda 2 rfl (by kernel_rfl) _ rfl ?_ | refine hL.lda 3 rfl (by kernel_rfl) _ rfl ?_ | refine hL.lda 4 rfl (by kernel_rfl) _ rfl ?_ | refine hL.lda 5 rfl (by kernel_rfl) _ rfl ?_ | refine hL.lda 6 rfl (by kernel_rfl) _ rfl ?_ | refine hL.lda 7 rfl (by kernel_rfl) _ rfl ?_)
    have g1 : At S' bb (bagO s st.last (st.c.1, st.c.2.1, st.c.2.2.1, st.c.2.2.2.1 + 1, st.c.2.2.2.2)) := hL.at 0 rfl
    have hm2 := hL.mod
    have g2 : Fls (bb + 1) S' s fl := hm2.grX (e1.grX h2 fun _ _ _ h => h) fun b hb _ e => by omega
    have g3 : Pks S' fl st.l ow := (h3.mod e1.kp fun _ _ h => h).mod hm2.kp fun b hb e => list_ne h1' (e1.grX h2 fun _ _ _ h => h) (h3.mod e1.kp fun _ _ h => h) hb (.inl e)
    have hB : BagIs S' bb ⟨st.l, st.last, (st.c.1, st.c.2.1, st.c.2.2.1, st.c.2.2.2.1 + 1, st.c.2.2.2.2)⟩ (bb :: (blk s ++ ow)) := ⟨s, fl, ow, g1, g2, g3, h4, rfl⟩
    have okB : BagOk (m + 1) ⟨st.l, st.last, (st.c.1, st.c.2.1, st.c.2.2.1, st.c.2.2.2.1 + 1, st.c.2.2.2.2)⟩ := by
      have h' := ok.mono (Nat.le_succ m)
      exact ⟨h'.len, h'.last, h'.c1, h'.c2, h'.c3, by have := ok.c4; simp only; omega, h'.c5, h'.c6, h'.dat⟩
    have hlt2 : (i : Int) < (fl.length : Int) := by omega
    have h00i : (0 : Int) ≤ (i : Int) := by omega
    refine (GrX.of (f := cellsF) (sz := 5) (fun _ => rfl) g2).idx (f := cellsF) (sz := 5) (fun _ => rfl) h00i hlt2 fun b4' o4 cs4 m4 r4 f4 at4 _ hv4 => ?_
    refine ⟨fl[i], load_agg at4 (n := 5) (by kernel_rfl) hv4 rfl, ?_⟩
    obtain ⟨d, o, e9, d9, o9⟩ := g3.get i hil
    rw [e9]
    have hm1 := e1.next
    have hm3 := hm2.next
    refine evC_of (b52 (d := st.l[i].2.2.2.1) hB okB (by omega) d9.of d9.sp (fun hne b o' hb => ?_) (ok.dat _ (List.getElem_mem _)) fun own' S9 q1 q2 q3 => ⟨_, rfl, ?_⟩)
    · rcases d9 with ⟨h, _⟩ | ⟨b', cap, more, rfl, h', hat, hmo⟩
      · exact (hne h).elim
      · simp only at hb; rw [h'] at hb; cases hb
        rcases hmo with rfl | ⟨h, _⟩
        · exact at_ne hat g1 (by simp)
        · exact (hne h).elim
    · refine hk own' S9 q1 (fun c hc => (q2 c hc).imp id fun h => by omega) ?_
      refine Mod.trans (F := fun b => b ∈ bb :: (blk s ++ ow)) (e1.mono fun _ h _ => h.elim) ((hm2.mono fun b hb _ => by subst hb; simp).trans q3 fun b h _ => h) fun b h _ => h
end
end Go.Proofs.Ytcookjolkhcjhaa
