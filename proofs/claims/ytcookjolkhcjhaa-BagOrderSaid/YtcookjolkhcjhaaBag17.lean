/- Bags: numbers rise; the order of packets. -/
import Derived.Test.YtcookjolkhcjhaaBag16
namespace Go.Proofs.Ytcookjolkhcjhaa
open Go Go.Proofs.Ytcookjolkhcjhaa.D
set_option linter.unusedVariables false
set_option linter.unusedSimpArgs false
noncomputable section

/-- Numbers rise. -/
structure Srt (st : BagS) : Prop where
  up : (st.l.map (·.1)).Pairwise (· < ·)
  le : ∀ x ∈ st.l.map (·.1), x ≤ st.last
theorem bag0_srt : Srt bag0 := ⟨by simp, by simp⟩
theorem putS_srt {st : BagS} (h : Srt st) (p : Int × Int × List Int × Bool) : Srt (putS st p).2 := by
  unfold putS
  split
  · refine ⟨?_, ?_⟩
    · simp only [List.map_append, List.map_cons, List.map_nil]
      rw [List.pairwise_append]
      refine ⟨h.up, by simp, fun a ha b hb => ?_⟩
      simp only [List.mem_cons, List.not_mem_nil, or_false] at hb
      subst hb
      have := h.le a ha
      omega
    · intro x hx
      simp only [List.map_append, List.map_cons, List.map_nil, List.mem_append, List.mem_cons, List.not_mem_nil, or_false] at hx
      rcases hx with hx | rfl
      · have := h.le x hx; simp only; omega
      · simp
  · exact ⟨h.up, h.le⟩
theorem sendS_srt {st : BagS} (h : Srt st) (fr to : Int) (d : List Int) : Srt (sendS st fr to d).2 := putS_srt (st := ⟨st.l, st.last, (st.c.1 + 1, st.c.2)⟩) ⟨h.up, h.le⟩ _
theorem doubleS_srt {st : BagS} (h : Srt st) (n : Int) : Srt (doubleS st n).2 := by
  unfold doubleS
  split
  · exact h
  · split
    · exact h
    · exact putS_srt (st := ⟨st.l, st.last, (st.c.1, st.c.2.1, st.c.2.2.1, st.c.2.2.2.1 + 1, st.c.2.2.2.2)⟩) ⟨h.up, h.le⟩ _
theorem takeS_srt {st : BagS} (h : Srt st) (n : Int) (f : Cnt → Cnt) : Srt (takeS st n f).2 := by
  unfold takeS
  split
  · exact h
  · exact ⟨h.up.sublist ((List.eraseIdx_sublist ..).map _), fun x hx => h.le x (((List.eraseIdx_sublist ..).map _).subset hx)⟩
theorem map_set_same {l : List Pk} {i : Nat} {p q : Pk} (h : l[i]? = some p) (hq : q.1 = p.1) : (l.set i q).map (·.1) = l.map (·.1) := by
  apply List.ext_getElem?
  intro j
  rw [List.getElem?_map, List.getElem?_map, List.getElem?_set]
  split
  · rename_i e
    subst e
    split
    · rw [h]; simp [hq]
    · rename_i hl; rw [List.getElem?_eq_none (by omega)]
  · rfl
theorem spoilS_srt {st : BagS} (h : Srt st) (n a w : Int) : Srt (spoilS st n a w).2 := by
  unfold spoilS
  split
  · exact h
  · split
    · exact h
    · rename_i i _ _ p hp
      split
      · exact h
      · have e := map_set_same (l := st.l) (i := i) (p := p) (q := (p.1, p.2.1, p.2.2.1, p.2.2.2.1.set a.toNat (byteX (p.2.2.2.1.getD a.toNat 0) w), true)) hp rfl
        exact ⟨by simp only; rw [e]; exact h.up, by simp only; rw [e]; exact h.le⟩
theorem Srt.lt {st : BagS} (h : Srt st) {i j : Nat} (hj : j < st.l.length) (hij : i < j) : (st.l[i]'(by omega)).1 < st.l[j].1 := by
  have := List.pairwise_iff_getElem.1 h.up i j (by simp; omega) (by simpa using hj) hij
  simpa using this
theorem Srt.idx {st : BagS} (h : Srt st) {i : Nat} (hi : i < st.l.length) : idxS st.l st.l[i].1 = some i := by
  unfold idxS
  rw [List.findIdx?_eq_some_iff_getElem]
  exact ⟨hi, by simp, fun j hj => by have := h.lt hi hj; simp; omega⟩
theorem Srt.find {st : BagS} (h : Srt st) {i : Nat} (hi : i < st.l.length) : findS st st.l[i].1 = (st.l[i], true) := by
  unfold findS
  rw [h.idx hi]
  simp [hi]
theorem LsIs.ext {N : Nat} {S S' : St} {s : Sl} {l : List Pk} (h : LsIs N S s l) (e : Ext S S') : LsIs N S' s l := by
  obtain ⟨fl, ow, a1, a2, a3, a4⟩ := h
  exact ⟨fl, ow, e.grX a1 fun _ _ _ h => h, a2.mod e.kp fun _ _ h => h, a3, a4⟩
theorem OpD.ext {S S' : St} {x : OpR} {d : List Int} (h : OpD S x d) (e : Ext S S') : OpD S' x d := ⟨e.slOf h.1, h.2⟩
theorem OpD.ne {S : St} {x : OpR} {d : List Int} (h : OpD S x d) {bb : Nat} (hb : S.next ≤ bb) : d ≠ [] → ∀ b o, x.2.2.2.1.a = some ⟨b, o, none⟩ → b ≠ bb := by
  intro hd b o e
  obtain ⟨b', o', cs, more, ro, fz, e', ha, _⟩ := h.1.mem hd
  rw [e] at e'; cases e'
  have := ha.lt; omega

theorem s9 {S : St} {s : Sl} {xs : List OpR} (h : SlOf cellsO 6 S s xs) (hd : ∀ x ∈ xs, ∃ d, OpD S x d) : WC E0 9 [.slice s.a s.len s.cap] S fun v _ => v = .bool true := by
  refine w9 s ?_
  unfold c9
  refine evC_of (b24 fun S1 e1 => ⟨_, rfl, ?_⟩)
  refine evC_of (b25 (e1.slOf h) ⟨_, rfl, ?_⟩ fun hlen hsm => ⟨_, rfl, ?_⟩)
  · exact ifW_pos (by omega) rfl
  refine ifW_neg (by omega) ?_
  refine ifW_of (fun h => by cases h) fun _ => ?_
  refine newW_of fun b1 S3 hb1 ha3 e3 hn3 => ?_
  have e13 := e1.tr e3
  have hl := h.len
  have hS1 := e1.next
  refine loopW_ind (fun q (x : Int) S' => ∃ n : Nat, x = n ∧ n ≤ xs.length ∧ q = xs.length - n ∧ Ext S S' ∧ ∃ st own, BagIs S' b1 st own ∧ (∀ c ∈ own, S.next ≤ c) ∧ BagOk (2 * n) st ∧ Srt st) (m := xs.length)
    ⟨0, rfl, by omega, rfl, e13, bag0, [b1], bag0_is ha3, fun c hc => by simp only [List.mem_cons, List.not_mem_nil, or_false] at hc; omega, bag0_ok, bag0_srt⟩ ?_
  rintro P q x S4 ⟨n, rfl, hn, rfl, e4, st, own, q4, f4, k4, r4⟩ hP
  rw [hl]
  refine ifW_dec (fun hlt => ?_) fun hlt => rfl
  have hlt3 : n < xs.length := by omega
  refine (Ext.slOf e4 h).idxL (f := cellsO) (sz := 6) (fun _ => rfl) rfl hlt3 fun b0 o0 cs0 m0 r0 f0 at0 _ hv0 => ?_
  refine ⟨xs[n], load_agg at0 (n := 6) (by kernel_rfl) hv0 rfl, ?_⟩
  obtain ⟨d, hdx⟩ := hd xs[n] (List.getElem_mem _)
  have hsz := (hsm xs[n] (List.getElem_mem _)).1
  generalize xs[n] = x at hdx hsz ⊢
  obtain ⟨x1, x2, x3, x4, x5, x6⟩ := x
  have hL := Cx.start (fun c => c ∈ own) q4 BagIs.frm (fun c hc => q4.lt hc)
  refine hL.new fun b4 S5 hL hb4 hn5 => ?_
  (first | refine hL.st 0 _ rfl (by kernel_rfl) rfl (Nat.le_of_ble_eq_true rfl) rfl rfl fun S6 hL hn6 => ?_ | refine hL.st 1 _ rfl (by kernel_rfl) rfl (Nat.le_of_ble_eq_true rfl) rfl rfl fun S6 hL hn6 => ?_ | refine hL.st 2 _ rfl (by kernel_rfl) rfl (Nat.le_of_ble_eq_true rfl) rfl rfl fun S6 hL hn6 => ?_ | refine hL.st 3 _ rfl (by kernel_rfl) rfl (Nat.le_of_ble_eq_true rfl) rfl rfl fun S6 hL hn6 => ?_ | refine hL.st 4 _ rfl (by kernel_rfl) rfl (Nat.le_of_ble_eq_true rfl) rfl rfl fun S6 hL hn6 => ?_ | refine hL.st 5 _ rfl (by kernel_rfl) rfl (Nat.le_of_ble_eq_true rfl) rfl rfl fun S6 hL hn6 => ?_ | refine hL.st 6 _ rfl (by kernel_rfl) rfl (Nat.le_of_ble_eq_true rfl) rfl rfl fun S6 hL hn6 => ?_ | refine hL.st 7 _ rfl (by kernel_rfl) rfl (Nat.le_of_ble_eq_true rfl) rfl rfl fun S6 hL hn6 => ?_)
  have e6 : Ext S S6 := e4.ext hL.mod f4
  have q6 : BagIs S6 b1 st own := hL.p
  intro k3 hk3
  have hJ : ∀ S7 st' own', Ext S S7 → BagIs S7 b1 st' own' → (∀ c ∈ own', S.next ≤ c) → BagOk (2 * n + 2) st' → Srt st' → k3 () S7 := by
    intro S7 st' own' e7 q7 f7 k7 r7
    refine hk3 _ _ ?_
    refine evC_of (b34 q7 k7 fun s1 S8 l8 e8 => ⟨s1, rfl, ?_⟩)
    have hl8 : s1.len = st'.l.length := by obtain ⟨fl, ow, a1, a2, _⟩ := l8; rw [a1.len, a2.len]
    have hmax := k7.len
    rw [hl8]
    refine loopW_ind (fun q (x : Int) S' => ∃ j : Nat, x = j ∧ j ≤ st'.l.length ∧ q = st'.l.length - j ∧ Ext S8 S') (m := st'.l.length) ⟨0, rfl, by omega, rfl, Mod.refl _ _⟩ ?_
    rintro P2 q2 y S9 ⟨j, rfl, hj, rfl, e9⟩ hP2
    have q9 := (q7.ext e8).ext e9
    refine ifW_dec (fun hlt => ?_) fun hlt => ?_
    · have hj3 : j < st'.l.length := by omega
      obtain ⟨fl, ow, a1, a2, a3, a4⟩ := l8.ext e9
      have hfl := a2.len
      obtain ⟨dj, oj, x1', x2', _⟩ := a2.get j hj3
      have hb := GrX.of (f := cellsF) (sz := 5) (fun _ => rfl) a1
      refine hb.idxL (f := cellsF) (sz := 5) (fun _ => rfl) (by omega) (by omega) fun b5 o5 cs5 m5 r5 f5 at5 _ hv5 => ?_
      rw [x1'] at hv5
      refine ptrW_of ?_
      refine evV_of st'.l[j].1 ((load_one at5 (by kernel_rfl)).trans (at_take hv5 (j := 0) (by omega))) ?_
      refine evC_of (b36 q9 k7 fun df of S10 g10 f10 e10 => ⟨(fltOf (findS st' st'.l[j].1).1 df, (findS st' st'.l[j].1).2), rfl, ?_⟩)
      rw [r7.find hj3] at g10 ⊢
      have hL := Cx.start noB g10 (Frm.dat (O := fun c => c ∈ of) fun c hc => hc) (fun c hc => g10.lt hc)
      refine hL.new fun b9 S11 hL hb9 hn11 => ?_
      (first | refine hL.st 0 _ rfl (by kernel_rfl) rfl (Nat.le_of_ble_eq_true rfl) rfl rfl fun S12 hL hn12 => ?_ | refine hL.st 1 _ rfl (by kernel_rfl) rfl (Nat.le_of_ble_eq_true rfl) rfl rfl fun S12 hL hn12 => ?_ | refine hL.st 2 _ rfl (by kernel_rfl) rfl (Nat.le_of_ble_eq_true rfl) rfl rfl fun S12 hL hn12 => ?_ | refine hL.st 3 _ rfl (by kernel_rfl) rfl (Nat.le_of_ble_eq_true rfl) rfl rfl fun S12 hL hn12 => ?_ | refine hL.st 4 _ rfl (by kernel_rfl) rfl (Nat.le_of_ble_eq_true rfl) rfl rfl fun S12 hL hn12 => ?_ | refine hL.st 5 _ rfl (by kernel_rfl) rfl (Nat.le_of_ble_eq_true rfl) rfl rfl fun S12 hL hn12 => ?_ | refine hL.st 6 _ rfl (by kernel_rfl) rfl (Nat.le_of_ble_eq_true rfl) rfl rfl fun S12 hL hn12 => ?_ | refine hL.st 7 _ rfl (by kernel_rfl) rfl (Nat.le_of_ble_eq_true rfl) rfl rfl fun S12 hL hn12 => ?_)
      refine ifW_of (fun h => by cases h) fun _ => ?_
      (first | refine hL.ld 0 rfl (by kernel_rfl) _ rfl ?_ | refine hL.ld 1 rfl (by kernel_rfl) _ rfl ?_ | refine hL.ld 2 rfl (by kernel_rfl) _ rfl ?_ | refine hL.ld 3 rfl (by kernel_rfl) _ rfl ?_ | refine hL.ld 4 rfl (by kernel_rfl) _ rfl ?_ | refine hL.ld 5 rfl (by kernel_rfl) _ rfl ?_ | refine hL.ld 6 rfl (by kernel_rfl) _ rfl ?_ | refine hL.ld 7 rfl (by kernel_rfl) _ rfl ?_ | refine hL.lda 0 rfl (by kernel_rfl) _ rfl ?_ | refine hL.lda 1 rfl (by kernel_rfl) _ rfl ?_ | refine hL.lda 2 rfl (by kernel_rfl) _ rfl ?_ | refine hL.lda 3 rfl (by kernel_rfl) _ rfl ?_ | refine hL.lda 4 rfl (by kernel_rfl) _ rfl ?_ | refine hL.lda 5 rfl (by kernel_rfl) _ rfl ?_ | refine hL.lda 6 rfl (by kernel_rfl) _ rfl ?_ | refine hL.lda 7 rfl (by kernel_rfl) _ rfl ?_)
      have e12 : Ext S9 S12 := e10.tr hL.mod
      have l12 := (l8.ext e9).ext e12
      obtain ⟨fl', ow', c1, c2, c3, c4⟩ := l12
      have hfl' := c2.len
      obtain ⟨dj', oj', y1, y2, _⟩ := c2.get j hj3
      have hb' := GrX.of (f := cellsF) (sz := 5) (fun _ => rfl) c1
      refine hb'.idxL (f := cellsF) (sz := 5) (fun _ => rfl) (by omega) (by omega) fun b6 o6 cs6 m6 r6 f6 at6 _ hv6 => ?_
      refine ⟨fl'[j]'(by omega), load_agg at6 (n := 5) (by kernel_rfl) hv6 rfl, ?_⟩
      rw [y1]
      refine evC_of (b37 (p := st'.l[j]) hL.p.tx y2.tx fun S13 e13' => ⟨_, rfl, ?_⟩)
      have e13 : Ext S8 S13 := (e9.tr e12).tr e13'
      refine ifW_of (fun h => by cases h) fun _ => ?_
      refine ifW_dec (fun hpos => ?_) fun hpos => ?_
      · obtain ⟨i, rfl⟩ : ∃ i, j = i + 1 := ⟨j - 1, by omega⟩
        have ew : wrapI .i64 (((i + 1 : Nat) : Int) - 1) = (i : Int) := by rw [wrap_i64 (by omega) (by omega)]; omega
        rw [ew]
        obtain ⟨fl3, ow3, g1, g2, g3, g4⟩ := l8.ext e13
        have hfl3 := g2.len
        obtain ⟨d1, o1, z1, _, _⟩ := g2.get (i + 1) hj3
        obtain ⟨d2, o2, z2, _, _⟩ := g2.get i (by omega)
        have hb3 := GrX.of (f := cellsF) (sz := 5) (fun _ => rfl) g1
        refine hb3.idxL (f := cellsF) (sz := 5) (fun _ => rfl) (by omega) (by omega) fun b7 o7 cs7 m7 r7' f7' at7 _ hv7 => ?_
        rw [z1] at hv7
        refine ptrW_of ?_
        refine evV_of st'.l[i + 1].1 ((load_one at7 (by kernel_rfl)).trans (at_take hv7 (j := 0) (by omega))) ?_
        refine hb3.idxL (f := cellsF) (sz := 5) (fun _ => rfl) (by omega) (by omega) fun b8 o8 cs8 m8 r8' f8' at8 _ hv8 => ?_
        rw [z2] at hv8
        refine ptrW_of ?_
        refine evV_of st'.l[i].1 ((load_one at8 (by kernel_rfl)).trans (at_take hv8 (j := 0) (by omega))) ?_
        have hup := r7.lt hj3 (Nat.lt_succ_self i)
        refine ifW_neg (by omega) ?_
        rw [wrap_succ (by omega)]
        exact hP2 _ _ _ (by omega) ⟨i + 1 + 1, rfl, by omega, rfl, e13⟩
      · rw [wrap_succ (by omega)]
        exact hP2 _ _ _ (by omega) ⟨j + 1, rfl, by omega, rfl, e13⟩
    · refine evC_of (b33 q9 ⟨_, rfl, ?_⟩)
      refine ifW_ndec (fun h => (h rfl).elim) fun _ => ?_
      refine ifW_neg (by omega) ?_
      rw [wrap_succ (by omega)]
      exact hP _ _ _ (by omega) ⟨n + 1, rfl, by omega, rfl, (e7.tr e8).tr e9, st', own', q9, f7, by rw [show 2 * (n + 1) = 2 * n + 2 by omega]; exact k7, r7⟩
  have hkind : ∀ S' own' (st' : BagS), BagIs S' b1 st' own' → (∀ c ∈ own', c ∈ own ∨ S6.next ≤ c) → Mod (fun b => b ∈ own) S6 S' → BagOk (2 * n + 2) st' → Srt st' → k3 () S' := fun S' own' st' a1 a2 a3 a4 a5 =>
    hJ S' st' own' (e6.ext a3 f4) a1 (fun c hc => (a2 c hc).elim (f4 c) fun h => by have := e6.next; omega) a4 a5
  have hdl : d.length ≤ 60 := by have := hdx.1.len; simp only at this hsz; omega
  refine ptrW_of ?_
  (first | refine hL.ld 0 rfl (by kernel_rfl) _ rfl ?_ | refine hL.ld 1 rfl (by kernel_rfl) _ rfl ?_ | refine hL.ld 2 rfl (by kernel_rfl) _ rfl ?_ | refine hL.ld 3 rfl (by kernel_rfl) _ rfl ?_ | refine hL.ld 4 rfl (by kernel_rfl) _ rfl ?_ | refine hL.ld 5 rfl (by kernel_rfl) _ rfl ?_ | refine hL.ld 6 rfl (by kernel_rfl) _ rfl ?_ | refine hL.ld 7 rfl (by kernel_rfl) _ rfl ?_ | refine hL.lda 0 rfl (by kernel_rfl) _ rfl ?_ | refine hL.lda 1 rfl (by kernel_rfl) _ rfl ?_ | refine hL.lda 2 rfl (by kernel_rfl) _ rfl ?_ | refine hL.lda 3 rfl (by kernel_rfl) _ rfl ?_ | refine hL.lda 4 rfl (by kernel_rfl) _ rfl ?_ | refine hL.lda 5 rfl (by kernel_rfl) _ rfl ?_ | refine hL.lda 6 rfl (by kernel_rfl) _ rfl ?_ | refine hL.lda 7 rfl (by kernel_rfl) _ rfl ?_)
  refine ifW_dec (fun h0 => ?_) fun h0 => ?_
  · repeat (first | refine ptrW_of ?_ | refine hL.new fun bk S' hL hbk hnk => ?_ | (first | refine hL.ld 0 rfl (by kernel_rfl) _ rfl ?_ | refine hL.ld 1 rfl (by kernel_rfl) _ rfl ?_ | refine hL.ld 2 rfl (by kernel_rfl) _ rfl ?_ | refine hL.ld 3 rfl (by kernel_rfl) _ rfl ?_ | refine hL.ld 4 rfl (by kernel_rfl) _ rfl ?_ | refine hL.ld 5 rfl (by kernel_rfl) _ rfl ?_ | refine hL.ld 6 rfl (by kernel_rfl) _ rfl ?_ | refine hL.ld 7 rfl (by kernel_rfl) _ rfl ?_ | refine hL.lda 0 rfl (by kernel_rfl) _ rfl ?_ | refine hL.lda 1 rfl (by kernel_rfl) _ rfl ?_ | refine hL.lda 2 rfl (by kernel_rfl) _ rfl ?_ | refine hL.lda 3 rfl (by kernel_rfl) _ rfl ?_ | refine hL.lda 4 rfl (by kernel_rfl) _ rfl ?_ | refine hL.lda 5 rfl (by kernel_rfl) _ rfl ?_ | refine hL.lda 6 rfl (by kernel_rfl) _ rfl ?_ | refine hL.lda 7 rfl (by kernel_rfl) _ rfl ?_) | (first | refine hL.st 0 _ rfl (by kernel_rfl) rfl (Nat.le_of_ble_eq_true rfl) rfl rfl fun S' hL hn' => ?_ | refine hL.st 1 _ rfl (by kernel_rfl) rfl (Nat.le_of_ble_eq_true rfl) rfl rfl fun S' hL hn' => ?_ | refine hL.st 2 _ rfl (by kernel_rfl) rfl (Nat.le_of_ble_eq_true rfl) rfl rfl fun S' hL hn' => ?_ | refine hL.st 3 _ rfl (by kernel_rfl) rfl (Nat.le_of_ble_eq_true rfl) rfl rfl fun S' hL hn' => ?_ | refine hL.st 4 _ rfl (by kernel_rfl) rfl (Nat.le_of_ble_eq_true rfl) rfl rfl fun S' hL hn' => ?_ | refine hL.st 5 _ rfl (by kernel_rfl) rfl (Nat.le_of_ble_eq_true rfl) rfl rfl fun S' hL hn' => ?_ | refine hL.st 6 _ rfl (by kernel_rfl) rfl (Nat.le_of_ble_eq_true rfl) rfl rfl fun S' hL hn' => ?_ | refine hL.st 7 _ rfl (by kernel_rfl) rfl (Nat.le_of_ble_eq_true rfl) rfl rfl fun S' hL hn' => ?_) | (first | refine hL.has 0 rfl ?_ | refine hL.has 1 rfl ?_ | refine hL.has 2 rfl ?_ | refine hL.has 3 rfl ?_ | refine hL.has 4 rfl ?_ | refine hL.has 5 rfl ?_ | refine hL.has 6 rfl ?_ | refine hL.has 7 rfl ?_) | (first | refine hL.upd 0 rfl fun S' hL hn' => ?_ | refine hL.upd 1 rfl fun S' hL hn' => ?_ | refine hL.upd 2 rfl fun S' hL hn' => ?_ | refine hL.upd 3 rfl fun S' hL hn' => ?_ | refine hL.upd 4 rfl fun S' hL hn' => ?_ | refine hL.upd 5 rfl fun S' hL hn' => ?_ | refine hL.upd 6 rfl fun S' hL hn' => ?_ | refine hL.upd 7 rfl fun S' hL hn' => ?_))
    exact evC_of (b26 q6 k4 (by omega) (Ext.slOf e6 hdx.1) hdx.2.1 (hdx.ne (by omega)) hdl fun own' S' a1 a2 a3 => ⟨_, rfl, hkind S' own' _ a1 a2 a3 (sendS_ok k4 _ _ _ hdl) (sendS_srt r4 _ _ _)⟩)
  refine ifW_dec (fun h0 => ?_) fun h0 => ?_
  · repeat (first | refine ptrW_of ?_ | refine hL.new fun bk S' hL hbk hnk => ?_ | (first | refine hL.ld 0 rfl (by kernel_rfl) _ rfl ?_ | refine hL.ld 1 rfl (by kernel_rfl) _ rfl ?_ | refine hL.ld 2 rfl (by kernel_rfl) _ rfl ?_ | refine hL.ld 3 rfl (by kernel_rfl) _ rfl ?_ | refine hL.ld 4 rfl (by kernel_rfl) _ rfl ?_ | refine hL.ld 5 rfl (by kernel_rfl) _ rfl ?_ | refine hL.ld 6 rfl (by kernel_rfl) _ rfl ?_ | refine hL.ld 7 rfl (by kernel_rfl) _ rfl ?_ | refine hL.lda 0 rfl (by kernel_rfl) _ rfl ?_ | refine hL.lda 1 rfl (by kernel_rfl) _ rfl ?_ | refine hL.lda 2 rfl (by kernel_rfl) _ rfl ?_ | refine hL.lda 3 rfl (by kernel_rfl) _ rfl ?_ | refine hL.lda 4 rfl (by kernel_rfl) _ rfl ?_ | refine hL.lda 5 rfl (by kernel_rfl) _ rfl ?_ | refine hL.lda 6 rfl (by kernel_rfl) _ rfl ?_ | refine hL.lda 7 rfl (by kernel_rfl) _ rfl ?_) | (first | refine hL.st 0 _ rfl (by kernel_rfl) rfl (Nat.le_of_ble_eq_true rfl) rfl rfl fun S' hL hn' => ?_ | refine hL.st 1 _ rfl (by kernel_rfl) rfl (Nat.le_of_ble_eq_true rfl) rfl rfl fun S' hL hn' => ?_ | refine hL.st 2 _ rfl (by kernel_rfl) rfl (Nat.le_of_ble_eq_true rfl) rfl rfl fun S' hL hn' => ?_ | refine hL.st 3 _ rfl (by kernel_rfl) rfl (Nat.le_of_ble_eq_true rfl) rfl rfl fun S' hL hn' => ?_ | refine hL.st 4 _ rfl (by kernel_rfl) rfl (Nat.le_of_ble_eq_true rfl) rfl rfl fun S' hL hn' => ?_ | refine hL.st 5 _ rfl (by kernel_rfl) rfl (Nat.le_of_ble_eq_true rfl) rfl rfl fun S' hL hn' => ?_ | refine hL.st 6 _ rfl (by kernel_rfl) rfl (Nat.le_of_ble_eq_true rfl) rfl rfl fun S' hL hn' => ?_ | refine hL.st 7 _ rfl (by kernel_rfl) rfl (Nat.le_of_ble_eq_true rfl) rfl rfl fun S' hL hn' => ?_) | (first | refine hL.has 0 rfl ?_ | refine hL.has 1 rfl ?_ | refine hL.has 2 rfl ?_ | refine hL.has 3 rfl ?_ | refine hL.has 4 rfl ?_ | refine hL.has 5 rfl ?_ | refine hL.has 6 rfl ?_ | refine hL.has 7 rfl ?_) | (first | refine hL.upd 0 rfl fun S' hL hn' => ?_ | refine hL.upd 1 rfl fun S' hL hn' => ?_ | refine hL.upd 2 rfl fun S' hL hn' => ?_ | refine hL.upd 3 rfl fun S' hL hn' => ?_ | refine hL.upd 4 rfl fun S' hL hn' => ?_ | refine hL.upd 5 rfl fun S' hL hn' => ?_ | refine hL.upd 6 rfl fun S' hL hn' => ?_ | refine hL.upd 7 rfl fun S' hL hn' => ?_))
    exact evC_of (b27 q6 k4 (by omega) fun own' d' o' S' a1 _ a2 _ a3 => ⟨(_, _), rfl, hkind S' own' _ a1 a2 a3 ((takeS_ok k4 _ (.inl rfl)).mono (by omega)) (takeS_srt r4 _ _)⟩)
  refine ifW_dec (fun h0 => ?_) fun h0 => ?_
  · repeat (first | refine ptrW_of ?_ | refine hL.new fun bk S' hL hbk hnk => ?_ | (first | refine hL.ld 0 rfl (by kernel_rfl) _ rfl ?_ | refine hL.ld 1 rfl (by kernel_rfl) _ rfl ?_ | refine hL.ld 2 rfl (by kernel_rfl) _ rfl ?_ | refine hL.ld 3 rfl (by kernel_rfl) _ rfl ?_ | refine hL.ld 4 rfl (by kernel_rfl) _ rfl ?_ | refine hL.ld 5 rfl (by kernel_rfl) _ rfl ?_ | refine hL.ld 6 rfl (by kernel_rfl) _ rfl ?_ | refine hL.ld 7 rfl (by kernel_rfl) _ rfl ?_ | refine hL.lda 0 rfl (by kernel_rfl) _ rfl ?_ | refine hL.lda 1 rfl (by kernel_rfl) _ rfl ?_ | refine hL.lda 2 rfl (by kernel_rfl) _ rfl ?_ | refine hL.lda 3 rfl (by kernel_rfl) _ rfl ?_ | refine hL.lda 4 rfl (by kernel_rfl) _ rfl ?_ | refine hL.lda 5 rfl (by kernel_rfl) _ rfl ?_ | refine hL.lda 6 rfl (by kernel_rfl) _ rfl ?_ | refine hL.lda 7 rfl (by kernel_rfl) _ rfl ?_) | (first | refine hL.st 0 _ rfl (by kernel_rfl) rfl (Nat.le_of_ble_eq_true rfl) rfl rfl fun S' hL hn' => ?_ | refine hL.st 1 _ rfl (by kernel_rfl) rfl (Nat.le_of_ble_eq_true rfl) rfl rfl fun S' hL hn' => ?_ | refine hL.st 2 _ rfl (by kernel_rfl) rfl (Nat.le_of_ble_eq_true rfl) rfl rfl fun S' hL hn' => ?_ | refine hL.st 3 _ rfl (by kernel_rfl) rfl (Nat.le_of_ble_eq_true rfl) rfl rfl fun S' hL hn' => ?_ | refine hL.st 4 _ rfl (by kernel_rfl) rfl (Nat.le_of_ble_eq_true rfl) rfl rfl fun S' hL hn' => ?_ | refine hL.st 5 _ rfl (by kernel_rfl) rfl (Nat.le_of_ble_eq_true rfl) rfl rfl fun S' hL hn' => ?_ | refine hL.st 6 _ rfl (by kernel_rfl) rfl (Nat.le_of_ble_eq_true rfl) rfl rfl fun S' hL hn' => ?_ | refine hL.st 7 _ rfl (by kernel_rfl) rfl (Nat.le_of_ble_eq_true rfl) rfl rfl fun S' hL hn' => ?_) | (first | refine hL.has 0 rfl ?_ | refine hL.has 1 rfl ?_ | refine hL.has 2 rfl ?_ | refine hL.has 3 rfl ?_ | refine hL.has 4 rfl ?_ | refine hL.has 5 rfl ?_ | refine hL.has 6 rfl ?_ | refine hL.has 7 rfl ?_) | (first | refine hL.upd 0 rfl fun S' hL hn' => ?_ | refine hL.upd 1 rfl fun S' hL hn' => ?_ | refine hL.upd 2 rfl fun S' hL hn' => ?_ | refine hL.upd 3 rfl fun S' hL hn' => ?_ | refine hL.upd 4 rfl fun S' hL hn' => ?_ | refine hL.upd 5 rfl fun S' hL hn' => ?_ | refine hL.upd 6 rfl fun S' hL hn' => ?_ | refine hL.upd 7 rfl fun S' hL hn' => ?_))
    exact evC_of (b29 q6 k4 (by omega) fun own' S' a1 a2 a3 => ⟨_, rfl, hkind S' own' _ a1 a2 a3 ((takeS_ok k4 _ (.inr rfl)).mono (by omega)) (takeS_srt r4 _ _)⟩)
  refine ifW_dec (fun h0 => ?_) fun h0 => ?_
  · repeat (first | refine ptrW_of ?_ | refine hL.new fun bk S' hL hbk hnk => ?_ | (first | refine hL.ld 0 rfl (by kernel_rfl) _ rfl ?_ | refine hL.ld 1 rfl (by kernel_rfl) _ rfl ?_ | refine hL.ld 2 rfl (by kernel_rfl) _ rfl ?_ | refine hL.ld 3 rfl (by kernel_rfl) _ rfl ?_ | refine hL.ld 4 rfl (by kernel_rfl) _ rfl ?_ | refine hL.ld 5 rfl (by kernel_rfl) _ rfl ?_ | refine hL.ld 6 rfl (by kernel_rfl) _ rfl ?_ | refine hL.ld 7 rfl (by kernel_rfl) _ rfl ?_ | refine hL.lda 0 rfl (by kernel_rfl) _ rfl ?_ | refine hL.lda 1 rfl (by kernel_rfl) _ rfl ?_ | refine hL.lda 2 rfl (by kernel_rfl) _ rfl ?_ | refine hL.lda 3 rfl (by kernel_rfl) _ rfl ?_ | refine hL.lda 4 rfl (by kernel_rfl) _ rfl ?_ | refine hL.lda 5 rfl (by kernel_rfl) _ rfl ?_ | refine hL.lda 6 rfl (by kernel_rfl) _ rfl ?_ | refine hL.lda 7 rfl (by kernel_rfl) _ rfl ?_) | (first | refine hL.st 0 _ rfl (by kernel_rfl) rfl (Nat.le_of_ble_eq_true rfl) rfl rfl fun S' hL hn' => ?_ | refine hL.st 1 _ rfl (by kernel_rfl) rfl (Nat.le_of_ble_eq_true rfl) rfl rfl fun S' hL hn' => ?_ | refine hL.st 2 _ rfl (by kernel_rfl) rfl (Nat.le_of_ble_eq_true rfl) rfl rfl fun S' hL hn' => ?_ | refine hL.st 3 _ rfl (by kernel_rfl) rfl (Nat.le_of_ble_eq_true rfl) rfl rfl fun S' hL hn' => ?_ | refine hL.st 4 _ rfl (by kernel_rfl) rfl (Nat.le_of_ble_eq_true rfl) rfl rfl fun S' hL hn' => ?_ | refine hL.st 5 _ rfl (by kernel_rfl) rfl (Nat.le_of_ble_eq_true rfl) rfl rfl fun S' hL hn' => ?_ | refine hL.st 6 _ rfl (by kernel_rfl) rfl (Nat.le_of_ble_eq_true rfl) rfl rfl fun S' hL hn' => ?_ | refine hL.st 7 _ rfl (by kernel_rfl) rfl (Nat.le_of_ble_eq_true rfl) rfl rfl fun S' hL hn' => ?_) | (first | refine hL.has 0 rfl ?_ | refine hL.has 1 rfl ?_ | refine hL.has 2 rfl ?_ | refine hL.has 3 rfl ?_ | refine hL.has 4 rfl ?_ | refine hL.has 5 rfl ?_ | refine hL.has 6 rfl ?_ | refine hL.has 7 rfl ?_) | (first | refine hL.upd 0 rfl fun S' hL hn' => ?_ | refine hL.upd 1 rfl fun S' hL hn' => ?_ | refine hL.upd 2 rfl fun S' hL hn' => ?_ | refine hL.upd 3 rfl fun S' hL hn' => ?_ | refine hL.upd 4 rfl fun S' hL hn' => ?_ | refine hL.upd 5 rfl fun S' hL hn' => ?_ | refine hL.upd 6 rfl fun S' hL hn' => ?_ | refine hL.upd 7 rfl fun S' hL hn' => ?_))
    exact evC_of (b30 q6 k4 (by omega) fun own' S' a1 a2 a3 => ⟨(_, _), rfl, hkind S' own' _ a1 a2 a3 (doubleS_ok k4 _) (doubleS_srt r4 _)⟩)
  refine ifW_dec (fun h0 => ?_) fun h0 => ?_
  · repeat (first | refine ptrW_of ?_ | refine hL.new fun bk S' hL hbk hnk => ?_ | (first | refine hL.ld 0 rfl (by kernel_rfl) _ rfl ?_ | refine hL.ld 1 rfl (by kernel_rfl) _ rfl ?_ | refine hL.ld 2 rfl (by kernel_rfl) _ rfl ?_ | refine hL.ld 3 rfl (by kernel_rfl) _ rfl ?_ | refine hL.ld 4 rfl (by kernel_rfl) _ rfl ?_ | refine hL.ld 5 rfl (by kernel_rfl) _ rfl ?_ | refine hL.ld 6 rfl (by kernel_rfl) _ rfl ?_ | refine hL.ld 7 rfl (by kernel_rfl) _ rfl ?_ | refine hL.lda 0 rfl (by kernel_rfl) _ rfl ?_ | refine hL.lda 1 rfl (by kernel_rfl) _ rfl ?_ | refine hL.lda 2 rfl (by kernel_rfl) _ rfl ?_ | refine hL.lda 3 rfl (by kernel_rfl) _ rfl ?_ | refine hL.lda 4 rfl (by kernel_rfl) _ rfl ?_ | refine hL.lda 5 rfl (by kernel_rfl) _ rfl ?_ | refine hL.lda 6 rfl (by kernel_rfl) _ rfl ?_ | refine hL.lda 7 rfl (by kernel_rfl) _ rfl ?_) | (first | refine hL.st 0 _ rfl (by kernel_rfl) rfl (Nat.le_of_ble_eq_true rfl) rfl rfl fun S' hL hn' => ?_ | refine hL.st 1 _ rfl (by kernel_rfl) rfl (Nat.le_of_ble_eq_true rfl) rfl rfl fun S' hL hn' => ?_ | refine hL.st 2 _ rfl (by kernel_rfl) rfl (Nat.le_of_ble_eq_true rfl) rfl rfl fun S' hL hn' => ?_ | refine hL.st 3 _ rfl (by kernel_rfl) rfl (Nat.le_of_ble_eq_true rfl) rfl rfl fun S' hL hn' => ?_ | refine hL.st 4 _ rfl (by kernel_rfl) rfl (Nat.le_of_ble_eq_true rfl) rfl rfl fun S' hL hn' => ?_ | refine hL.st 5 _ rfl (by kernel_rfl) rfl (Nat.le_of_ble_eq_true rfl) rfl rfl fun S' hL hn' => ?_ | refine hL.st 6 _ rfl (by kernel_rfl) rfl (Nat.le_of_ble_eq_true rfl) rfl rfl fun S' hL hn' => ?_ | refine hL.st 7 _ rfl (by kernel_rfl) rfl (Nat.le_of_ble_eq_true rfl) rfl rfl fun S' hL hn' => ?_) | (first | refine hL.has 0 rfl ?_ | refine hL.has 1 rfl ?_ | refine hL.has 2 rfl ?_ | refine hL.has 3 rfl ?_ | refine hL.has 4 rfl ?_ | refine hL.has 5 rfl ?_ | refine hL.has 6 rfl ?_ | refine hL.has 7 rfl ?_) | (first | refine hL.upd 0 rfl fun S' hL hn' => ?_ | refine hL.upd 1 rfl fun S' hL hn' => ?_ | refine hL.upd 2 rfl fun S' hL hn' => ?_ | refine hL.upd 3 rfl fun S' hL hn' => ?_ | refine hL.upd 4 rfl fun S' hL hn' => ?_ | refine hL.upd 5 rfl fun S' hL hn' => ?_ | refine hL.upd 6 rfl fun S' hL hn' => ?_ | refine hL.upd 7 rfl fun S' hL hn' => ?_))
    exact evC_of (b31 q6 k4 (by omega) fun own' S' a1 a2 a3 => ⟨_, rfl, hkind S' own' _ a1 a2 a3 ((spoilS_ok k4 _ _ _).mono (by omega)) (spoilS_srt r4 _ _ _)⟩)
  exact hJ S6 st own e6 q6 f4 (k4.mono (by omega)) r4
end
end Go.Proofs.Ytcookjolkhcjhaa
