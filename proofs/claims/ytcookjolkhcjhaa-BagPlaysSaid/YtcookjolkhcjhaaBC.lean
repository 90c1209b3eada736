/- Parts of the proof, put together. -/
import Derived.Test.YtcookjolkhcjhaaBB
import Derived.Test.YtcookjolkhcjhaaDD
/- Bags: the calls that a statement goes through; the first examples. -/
namespace Go.Proofs.Ytcookjolkhcjhaa
open Go Go.Proofs.Ytcookjolkhcjhaa.D
set_option linter.unusedVariables false
set_option linter.unusedSimpArgs false
noncomputable section

/-- A call: kind, n, at, bytes, with, many. -/
abbrev OpR := Int × Int × Int × Sl × Int × Int
abbrev cellsO (x : OpR) : List Value := [.int .i64 x.1, .int .i64 x.2.1, .int .i64 x.2.2.1, .slice x.2.2.2.1.a x.2.2.2.1.len x.2.2.2.1.cap, .int .u8 x.2.2.2.2.1, .int .i64 x.2.2.2.2.2]
/-- Its bytes. -/
def OpD (S : St) (x : OpR) (d : List Int) : Prop := SlOf cellB 1 S x.2.2.2.1 d ∧ (∀ a, x.2.2.2.1.a = some a → a.spot = none) ∧ (∀ y ∈ d, 0 ≤ y ∧ y < 256) ∧ 0 ≤ x.2.2.2.2.1 ∧ x.2.2.2.2.1 < 256
theorem b25 {S : St} {s : Sl} {xs : List OpR} {k : Value → St → Prop} (h : SlOf cellsO 6 S s xs) (h1 : k (.int .i64 1) S) (h0 : xs.length ≤ 120 → (∀ x ∈ xs, x.2.2.2.1.len ≤ 60 ∧ x.2.2.2.2.2 ≤ 300) → k (.int .i64 0) S) : WC E0 25 [.slice s.a s.len s.cap] S k := by
  refine w25 s ?_
  unfold c25
  have hl := h.len
  rw [hl]
  refine ifW_dec (fun hlt => h1) fun hge => ?_
  refine loopW_ind (fun q (x : Int × Int) S' => ∃ n : Nat, x.2 = n ∧ 0 ≤ x.1 ∧ x.1 ≤ n ∧ n ≤ xs.length ∧ q = xs.length - n ∧ S' = S ∧ ∀ i (hi : i < xs.length), i < n → xs[i].2.2.2.1.len ≤ 60 ∧ xs[i].2.2.2.2.2 ≤ 300) (m := xs.length) ⟨0, rfl, by simp, by simp, by omega, rfl, rfl, fun i _ h => by omega⟩ ?_
  rintro P q ⟨many, x⟩ S1 ⟨n, rfl, hm0, hm1, hn, rfl, rfl, hall⟩ hP
  simp only at hm0 hm1 hP ⊢
  refine ifW_dec (fun hlt => ?_) fun hlt => ?_
  · have hlt3 : n < xs.length := by omega
    refine h.idxL (f := cellsO) (sz := 6) (fun _ => rfl) rfl hlt3 fun b1 o1 cs1 m1 r1 f1 at1 _ hv1 => ?_
    refine ptrW_of ?_
    refine evV_of xs[n].2.2.2.1 ((load_one at1 (by kernel_rfl)).trans (at_take hv1 (j := 3) (by omega))) ?_
    refine ifW_dec (fun hd => h1) fun hd => ?_
    refine h.idxL (f := cellsO) (sz := 6) (fun _ => rfl) rfl hlt3 fun b2 o2 cs2 m2 r2 f2 at2 _ hv2 => ?_
    refine ptrW_of ?_
    refine evV_of xs[n].2.2.2.2.2 ((load_one at2 (by kernel_rfl)).trans (at_take hv2 (j := 5) (by omega))) ?_
    refine ifW_dec (fun hd => h1) fun hmny => ?_
    refine h.idxL (f := cellsO) (sz := 6) (fun _ => rfl) rfl hlt3 fun b3 o3 cs3 m3 r3 f3 at3 _ hv3 => ?_
    refine ptrW_of ?_
    refine evV_of xs[n].2.2.2.2.2 ((load_one at3 (by kernel_rfl)).trans (at_take hv3 (j := 5) (by omega))) ?_
    have hnext : ∀ i (hi : i < xs.length), i < n + 1 → xs[i].2.2.2.1.len ≤ 60 ∧ xs[i].2.2.2.2.2 ≤ 300 := fun i hi hlt => by
      rcases Nat.lt_or_ge i n with h | h
      · exact hall i hi h
      · have : i = n := by omega
        subst this
        exact ⟨by omega, by omega⟩
    rw [wrap_succ (n := n) (by omega), wrap_i64 (n := many + 1) (by omega) (by omega)]
    refine ifW_dec (fun _ => ?_) fun _ => ?_
    · exact hP _ _ _ (by omega) ⟨n + 1, rfl, by simp only; omega, by simp only; omega, by omega, rfl, rfl, hnext⟩
    · exact hP _ _ _ (by omega) ⟨n + 1, rfl, by simp only; omega, by simp only; omega, by omega, rfl, rfl, hnext⟩
  · refine ifW_dec (fun _ => h1) fun _ => h0 (by omega) fun x hx => ?_
    obtain ⟨i, hi, rfl⟩ := List.getElem_of_mem hx
    exact hall i hi (by omega)

abbrev bag0 : BagS := ⟨[], 0, (0, 0, 0, 0, 0, 0)⟩
theorem bag0_is {S : St} {b : Nat} (h : At S b (.cells [.slice none 0 0, .int .i64 0, .int .i64 0, .int .i64 0, .int .i64 0, .int .i64 0, .int .i64 0, .int .i64 0] none false none)) : BagIs S b bag0 [b] :=
  ⟨⟨none, 0, 0⟩, [], [], h, .inl ⟨rfl, rfl⟩, .nil, by simp, rfl⟩
theorem bag0_ok : BagOk 0 bag0 := ⟨by simp, by simp, by simp, by simp, by simp, by simp, by simp, by simp, by simp⟩
theorem b24 {S : St} {k : Value → St → Prop} (hk : ∀ S', Ext S S' → k (.bool true) S') : WC E0 24 [] S k := by
  refine w24 ?_
  unfold c24
  refine newW_of fun b1 S1 hb1 ha1 e1 hn1 => ?_
  refine newW_of fun b2 S2 hb2 ha2 e2 hn2 => ?_
  have m3 : Mod (fun c => c = b2) S2 (S2.upd b2 (.cells [.int .u8 97, .int .u8 98] none false (some (0, 0)))) := upd_mod
  have a3 := upd_at (o' := .cells [.int .u8 97, .int .u8 98] none false (some (0, 0))) ha2
  have hn3 : (S2.upd b2 (.cells [.int .u8 97, .int .u8 98] none false (some (0, 0)))).next = S2.next := rfl
  refine ⟨⟨some ⟨b2, 0, none⟩, 2, 2⟩, S2.upd b2 (.cells [.int .u8 97, .int .u8 98] none false (some (0, 0))), ?_, ?_⟩
  · simp only [convertD, und42b, und5b, ha2.get]
    rfl
  generalize S2.upd b2 (.cells [.int .u8 97, .int .u8 98] none false (some (0, 0))) = S3 at m3 a3 hn3 ⊢
  have q1 := bag0_is (m3.at (e2.at ha1) (by omega))
  have d3 : SlOf cellB 1 S3 ⟨some ⟨b2, 0, none⟩, 2, 2⟩ [97, 98] := ⟨rfl, fun _ => ⟨b2, 0, _, _, _, _, rfl, a3, rfl⟩⟩
  refine evC_of (b26 (m := 0) q1 bag0_ok (by omega) d3 (fun a h => by cases h; rfl) (fun _ b o h => by cases h; omega) (by simp) fun own4 S4 q4 o4 m4 => ⟨(1 : Int), rfl, ?_⟩)
  have k4 := sendS_ok bag0_ok 1 2 [97, 98] (by simp)
  have r4 : sendS bag0 1 2 [97, 98] = (1, ⟨[(1, 1, 2, [97, 98], false)], 1, (1, 0, 0, 0, 0, 0)⟩) := rfl
  rw [r4] at q4 k4
  refine evC_of (b30 q4 k4 (by omega) fun own5 S5 q5 o5 m5 => ⟨((2 : Int), (0 : Int)), rfl, ?_⟩)
  have k5 := doubleS_ok k4 1
  have r5 : doubleS ⟨[(1, 1, 2, [97, 98], false)], 1, (1, 0, 0, 0, 0, 0)⟩ 1 = ((2, 0), ⟨[(1, 1, 2, [97, 98], false), (2, 1, 2, [97, 98], false)], 2, (1, 0, 0, 1, 0, 0)⟩) := rfl
  rw [r5] at q5 k5
  refine evC_of (b31 q5 k5 (by omega) fun own6 S6 q6 o6 m6 => ⟨(0 : Int), rfl, ?_⟩)
  have k6 := spoilS_ok k5 1 0 2
  have r6 : spoilS ⟨[(1, 1, 2, [97, 98], false), (2, 1, 2, [97, 98], false)], 2, (1, 0, 0, 1, 0, 0)⟩ 1 0 2 = (0, ⟨[(1, 1, 2, [byteX 97 2, 98], true), (2, 1, 2, [97, 98], false)], 2, (1, 0, 0, 1, 1, 0)⟩) := rfl
  rw [r6] at q6 k6
  refine evC_of (b31 q6 k6 (by omega) fun own7 S7 q7 o7 m7 => ⟨(80 : Int), rfl, ?_⟩)
  have r7 : spoilS ⟨[(1, 1, 2, [byteX 97 2, 98], true), (2, 1, 2, [97, 98], false)], 2, (1, 0, 0, 1, 1, 0)⟩ 1 0 2 = (80, ⟨[(1, 1, 2, [byteX 97 2, 98], true), (2, 1, 2, [97, 98], false)], 2, (1, 0, 0, 1, 1, 0)⟩) := rfl
  rw [r7] at q7
  have n4 := m4.next; have n5 := m5.next; have n6 := m6.next; have n7 := m7.next
  have f4 : ∀ c ∈ own4, S.next ≤ c := fun c hc => by
    rcases o4 c hc with h | h
    · simp only [List.mem_cons, List.not_mem_nil, or_false] at h; omega
    · omega
  have f5 : ∀ c ∈ own5, S.next ≤ c := fun c hc => (o5 c hc).elim (f4 c) fun h => by omega
  have f6 : ∀ c ∈ own6, S.next ≤ c := fun c hc => (o6 c hc).elim (f5 c) fun h => by omega
  have e7 : Ext S S7 := ((((((e1.tr e2).ext m3 fun b h => by omega).ext m4 fun b h => by simp only [List.mem_cons, List.not_mem_nil, or_false] at h; omega).ext m5 f4).ext m6 f5).ext m7 f6)
  refine ifW_pos rfl (ifW_pos rfl (ifW_pos rfl (ifW_pos rfl (ifW_pos rfl ?_))))
  refine evC_of (b33 q7 ⟨_, rfl, ?_⟩)
  have : eqI ((2 : Nat) : Int) 2 = true := by rw [eqI_eq]; rfl
  show k (.bool (eqI ((2 : Nat) : Int) 2)) S7
  rw [this]
  exact hk _ e7
end
end Go.Proofs.Ytcookjolkhcjhaa

/- Bags: numbers rise; the order of packets. -/
namespace Go.Proofs.Ytcookjolkhcjhaa
open Go Go.Proofs.Ytcookjolkhcjhaa.D
set_option linter.unusedVariables false
set_option linter.unusedSimpArgs false
noncomputable section

/-- Numbers rise. -/
structure Srt (st : BagS) : Prop where
  up : (st.l.map (·.1)).Pairwise (· < ·)
  le : ∀ x ∈ st.l.map (·.1), x ≤ st.last
theorem bag0_srt : Srt bag0 := ⟨by simp, by simp⟩
theorem putS_srt {st : BagS} (h : Srt st) (p : Int × Int × List Int × Bool) : Srt (putS st p).2 := by
  unfold putS
  split
  · refine ⟨?_, ?_⟩
    · simp only [List.map_append, List.map_cons, List.map_nil]
      rw [List.pairwise_append]
      refine ⟨h.up, by simp, fun a ha b hb => ?_⟩
      simp only [List.mem_cons, List.not_mem_nil, or_false] at hb
      subst hb
      have := h.le a ha
      omega
    · intro x hx
      simp only [List.map_append, List.map_cons, List.map_nil, List.mem_append, List.mem_cons, List.not_mem_nil, or_false] at hx
      rcases hx with hx | rfl
      · have := h.le x hx; simp only; omega
      · simp
  · exact ⟨h.up, h.le⟩
theorem sendS_srt {st : BagS} (h : Srt st) (fr to : Int) (d : List Int) : Srt (sendS st fr to d).2 := putS_srt (st := ⟨st.l, st.last, (st.c.1 + 1, st.c.2)⟩) ⟨h.up, h.le⟩ _
theorem doubleS_srt {st : BagS} (h : Srt st) (n : Int) : Srt (doubleS st n).2 := by
  unfold doubleS
  split
  · exact h
  · split
    · exact h
    · exact putS_srt (st := ⟨st.l, st.last, (st.c.1, st.c.2.1, st.c.2.2.1, st.c.2.2.2.1 + 1, st.c.2.2.2.2)⟩) ⟨h.up, h.le⟩ _
theorem takeS_srt {st : BagS} (h : Srt st) (n : Int) (f : Cnt → Cnt) : Srt (takeS st n f).2 := by
  unfold takeS
  split
  · exact h
  · exact ⟨h.up.sublist ((List.eraseIdx_sublist ..).map _), fun x hx => h.le x (((List.eraseIdx_sublist ..).map _).subset hx)⟩
theorem map_set_same {l : List Pk} {i : Nat} {p q : Pk} (h : l[i]? = some p) (hq : q.1 = p.1) : (l.set i q).map (·.1) = l.map (·.1) := by
  apply List.ext_getElem?
  intro j
  rw [List.getElem?_map, List.getElem?_map, List.getElem?_set]
  split
  · rename_i e
    subst e
    split
    · rw [h]; simp [hq]
    · rename_i hl; rw [List.getElem?_eq_none (by omega)]
  · rfl
theorem spoilS_srt {st : BagS} (h : Srt st) (n a w : Int) : Srt (spoilS st n a w).2 := by
  unfold spoilS
  split
  · exact h
  · split
    · exact h
    · rename_i i _ _ p hp
      split
      · exact h
      · have e := map_set_same (l := st.l) (i := i) (p := p) (q := (p.1, p.2.1, p.2.2.1, p.2.2.2.1.set a.toNat (byteX (p.2.2.2.1.getD a.toNat 0) w), true)) hp rfl
        exact ⟨by simp only; rw [e]; exact h.up, by simp only; rw [e]; exact h.le⟩
theorem Srt.lt {st : BagS} (h : Srt st) {i j : Nat} (hj : j < st.l.length) (hij : i < j) : (st.l[i]'(by omega)).1 < st.l[j].1 := by
  have := List.pairwise_iff_getElem.1 h.up i j (by simp; omega) (by simpa using hj) hij
  simpa using this
theorem Srt.idx {st : BagS} (h : Srt st) {i : Nat} (hi : i < st.l.length) : idxS st.l st.l[i].1 = some i := by
  unfold idxS
  rw [List.findIdx?_eq_some_iff_getElem]
  exact ⟨hi, by simp, fun j hj => by have := h.lt hi hj; simp; omega⟩
theorem Srt.find {st : BagS} (h : Srt st) {i : Nat} (hi : i < st.l.length) : findS st st.l[i].1 = (st.l[i], true) := by
  unfold findS
  rw [h.idx hi]
  simp [hi]
theorem LsIs.ext {N : Nat} {S S' : St} {s : Sl} {l : List Pk} (h : LsIs N S s l) (e : Ext S S') : LsIs N S' s l := by
  obtain ⟨fl, ow, a1, a2, a3, a4⟩ := h
  exact ⟨fl, ow, e.grX a1 fun _ _ _ h => h, a2.mod e.kp fun _ _ h => h, a3, a4⟩
theorem OpD.ext {S S' : St} {x : OpR} {d : List Int} (h : OpD S x d) (e : Ext S S') : OpD S' x d := ⟨e.slOf h.1, h.2⟩
theorem OpD.ne {S : St} {x : OpR} {d : List Int} (h : OpD S x d) {bb : Nat} (hb : S.next ≤ bb) : d ≠ [] → ∀ b o, x.2.2.2.1.a = some ⟨b, o, none⟩ → b ≠ bb := by
  intro hd b o e
  obtain ⟨b', o', cs, more, ro, fz, e', ha, _⟩ := h.1.mem hd
  rw [e] at e'; cases e'
  have := ha.lt; omega

theorem s9 {S : St} {s : Sl} {xs : List OpR} (h : SlOf cellsO 6 S s xs) (hd : ∀ x ∈ xs, ∃ d, OpD S x d) : WC E0 9 [.slice s.a s.len s.cap] S fun v _ => v = .bool true := by
  refine w9 s ?_
  unfold c9
  refine evC_of (b24 fun S1 e1 => ⟨_, rfl, ?_⟩)
  refine evC_of (b25 (e1.slOf h) ⟨_, rfl, ?_⟩ fun hlen hsm => ⟨_, rfl, ?_⟩)
  · exact ifW_pos (by omega) rfl
  refine ifW_neg (by omega) ?_
  refine ifW_of (fun h => by cases h) fun _ => ?_
  refine newW_of fun b1 S3 hb1 ha3 e3 hn3 => ?_
  have e13 := e1.tr e3
  have hl := h.len
  have hS1 := e1.next
  refine loopW_ind (fun q (x : Int) S' => ∃ n : Nat, x = n ∧ n ≤ xs.length ∧ q = xs.length - n ∧ Ext S S' ∧ ∃ st own, BagIs S' b1 st own ∧ (∀ c ∈ own, S.next ≤ c) ∧ BagOk (2 * n) st ∧ Srt st) (m := xs.length)
    ⟨0, rfl, by omega, rfl, e13, bag0, [b1], bag0_is ha3, fun c hc => by simp only [List.mem_cons, List.not_mem_nil, or_false] at hc; omega, bag0_ok, bag0_srt⟩ ?_
  rintro P q x S4 ⟨n, rfl, hn, rfl, e4, st, own, q4, f4, k4, r4⟩ hP
  rw [hl]
  refine ifW_dec (fun hlt => ?_) fun hlt => rfl
  have hlt3 : n < xs.length := by omega
  refine (Ext.slOf e4 h).idxL (f := cellsO) (sz := 6) (fun _ => rfl) rfl hlt3 fun b0 o0 cs0 m0 r0 f0 at0 _ hv0 => ?_
  refine ⟨xs[n], load_agg at0 (n := 6) (by kernel_rfl) hv0 rfl, ?_⟩
  obtain ⟨d, hdx⟩ := hd xs[n] (List.getElem_mem _)
  have hsz := (hsm xs[n] (List.getElem_mem _)).1
  generalize xs[n] = x at hdx hsz ⊢
  obtain ⟨x1, x2, x3, x4, x5, x6⟩ := x
  have hL := Cx.start (fun c => c ∈ own) q4 BagIs.frm (fun c hc => q4.lt hc)
  refine hL.new fun b4 S5 hL hb4 hn5 => ?_
  (first | refine hL.st 0 _ rfl (by kernel_rfl) rfl (Nat.le_of_ble_eq_true rfl) rfl rfl fun S6 hL hn6 => ?_ | refine hL.st 1 _ rfl (by kernel_rfl) rfl (Nat.le_of_ble_eq_true rfl) rfl rfl fun S6 hL hn6 => ?_ | refine hL.st 2 _ rfl (by kernel_rfl) rfl (Nat.le_of_ble_eq_true rfl) rfl rfl fun S6 hL hn6 => ?_ | refine hL.st 3 _ rfl (by kernel_rfl) rfl (Nat.le_of_ble_eq_true rfl) rfl rfl fun S6 hL hn6 => ?_ | refine hL.st 4 _ rfl (by kernel_rfl) rfl (Nat.le_of_ble_eq_true rfl) rfl rfl fun S6 hL hn6 => ?_ | refine hL.st 5 _ rfl (by kernel_rfl) rfl (Nat.le_of_ble_eq_true rfl) rfl rfl fun S6 hL hn6 => ?_ | refine hL.st 6 _ rfl (by kernel_rfl) rfl (Nat.le_of_ble_eq_true rfl) rfl rfl fun S6 hL hn6 => ?_ | refine hL.st 7 _ rfl (by kernel_rfl) rfl (Nat.le_of_ble_eq_true rfl) rfl rfl fun S6 hL hn6 => ?_)
  have e6 : Ext S S6 := e4.ext hL.mod f4
  have q6 : BagIs S6 b1 st own := hL.p
  intro k3 hk3
  have hJ : ∀ S7 st' own', Ext S S7 → BagIs S7 b1 st' own' → (∀ c ∈ own', S.next ≤ c) → BagOk (2 * n + 2) st' → Srt st' → k3 () S7 := by
    intro S7 st' own' e7 q7 f7 k7 r7
    refine hk3 _ _ ?_
    refine evC_of (b34 q7 k7 fun s1 S8 l8 e8 => ⟨s1, rfl, ?_⟩)
    have hl8 : s1.len = st'.l.length := by obtain ⟨fl, ow, a1, a2, _⟩ := l8; rw [a1.len, a2.len]
    have hmax := k7.len
    rw [hl8]
    refine loopW_ind (fun q (x : Int) S' => ∃ j : Nat, x = j ∧ j ≤ st'.l.length ∧ q = st'.l.length - j ∧ Ext S8 S') (m := st'.l.length) ⟨0, rfl, by omega, rfl, Mod.refl _ _⟩ ?_
    rintro P2 q2 y S9 ⟨j, rfl, hj, rfl, e9⟩ hP2
    have q9 := (q7.ext e8).ext e9
    refine ifW_dec (fun hlt => ?_) fun hlt => ?_
    · have hj3 : j < st'.l.length := by omega
      obtain ⟨fl, ow, a1, a2, a3, a4⟩ := l8.ext e9
      have hfl := a2.len
      obtain ⟨dj, oj, x1', x2', _⟩ := a2.get j hj3
      have hb := GrX.of (f := cellsF) (sz := 5) (fun _ => rfl) a1
      refine hb.idxL (f := cellsF) (sz := 5) (fun _ => rfl) (by omega) (by omega) fun b5 o5 cs5 m5 r5 f5 at5 _ hv5 => ?_
      rw [x1'] at hv5
      refine ptrW_of ?_
      refine evV_of st'.l[j].1 ((load_one at5 (by kernel_rfl)).trans (at_take hv5 (j := 0) (by omega))) ?_
      refine evC_of (b36 q9 k7 fun df of S10 g10 f10 e10 => ⟨(fltOf (findS st' st'.l[j].1).1 df, (findS st' st'.l[j].1).2), rfl, ?_⟩)
      rw [r7.find hj3] at g10 ⊢
      have hL := Cx.start noB g10 (Frm.dat (O := fun c => c ∈ of) fun c hc => hc) (fun c hc => g10.lt hc)
      refine hL.new fun b9 S11 hL hb9 hn11 => ?_
      (first | refine hL.st 0 _ rfl (by kernel_rfl) rfl (Nat.le_of_ble_eq_true rfl) rfl rfl fun S12 hL hn12 => ?_ | refine hL.st 1 _ rfl (by kernel_rfl) rfl (Nat.le_of_ble_eq_true rfl) rfl rfl fun S12 hL hn12 => ?_ | refine hL.st 2 _ rfl (by kernel_rfl) rfl (Nat.le_of_ble_eq_true rfl) rfl rfl fun S12 hL hn12 => ?_ | refine hL.st 3 _ rfl (by kernel_rfl) rfl (Nat.le_of_ble_eq_true rfl) rfl rfl fun S12 hL hn12 => ?_ | refine hL.st 4 _ rfl (by kernel_rfl) rfl (Nat.le_of_ble_eq_true rfl) rfl rfl fun S12 hL hn12 => ?_ | refine hL.st 5 _ rfl (by kernel_rfl) rfl (Nat.le_of_ble_eq_true rfl) rfl rfl fun S12 hL hn12 => ?_ | refine hL.st 6 _ rfl (by kernel_rfl) rfl (Nat.le_of_ble_eq_true rfl) rfl rfl fun S12 hL hn12 => ?_ | refine hL.st 7 _ rfl (by kernel_rfl) rfl (Nat.le_of_ble_eq_true rfl) rfl rfl fun S12 hL hn12 => ?_)
      refine ifW_of (fun h => by cases h) fun _ => ?_
      (first | refine hL.ld 0 rfl (by kernel_rfl) _ rfl ?_ | refine hL.ld 1 rfl (by kernel_rfl) _ rfl ?_ | refine hL.ld 2 rfl (by kernel_rfl) _ rfl ?_ | refine hL.ld 3 rfl (by kernel_rfl) _ rfl ?_ | refine hL.ld 4 rfl (by kernel_rfl) _ rfl ?_ | refine hL.ld 5 rfl (by kernel_rfl) _ rfl ?_ | refine hL.ld 6 rfl (by kernel_rfl) _ rfl ?_ | refine hL.ld 7 rfl (by kernel_rfl) _ rfl ?_ | refine hL.lda 0 rfl (by kernel_rfl) _ rfl ?_ | refine hL.lda 1 rfl (by kernel_rfl) _ rfl ?_ | refine hL.lda 2 rfl (by kernel_rfl) _ rfl ?_ | refine hL.lda 3 rfl (by kernel_rfl) _ rfl ?_ | refine hL.lda 4 rfl (by kernel_rfl) _ rfl ?_ | refine hL.lda 5 rfl (by kernel_rfl) _ rfl ?_ | refine hL.lda 6 rfl (by kernel_rfl) _ rfl ?_ | refine hL.lda 7 rfl (by kernel_rfl) _ rfl ?_)
      have e12 : Ext S9 S12 := e10.tr hL.mod
      have l12 := (l8.ext e9).ext e12
      obtain ⟨fl', ow', c1, c2, c3, c4⟩ := l12
      have hfl' := c2.len
      obtain ⟨dj', oj', y1, y2, _⟩ := c2.get j hj3
      have hb' := GrX.of (f := cellsF) (sz := 5) (fun _ => rfl) c1
      refine hb'.idxL (f := cellsF) (sz := 5) (fun _ => rfl) (by omega) (by omega) fun b6 o6 cs6 m6 r6 f6 at6 _ hv6 => ?_
      refine ⟨fl'[j]'(by omega), load_agg at6 (n := 5) (by kernel_rfl) hv6 rfl, ?_⟩
      rw [y1]
      refine evC_of (b37 (p := st'.l[j]) hL.p.tx y2.tx fun S13 e13' => ⟨_, rfl, ?_⟩)
      have e13 : Ext S8 S13 := (e9.tr e12).tr e13'
      refine ifW_of (fun h => by cases h) fun _ => ?_
      refine ifW_dec (fun hpos => ?_) fun hpos => ?_
      · obtain ⟨i, rfl⟩ : ∃ i, j = i + 1 := ⟨j - 1, by omega⟩
        have ew : wrapI .i64 (((i + 1 : Nat) : Int) - 1) = (i : Int) := by rw [wrap_i64 (by omega) (by omega)]; omega
        rw [ew]
        obtain ⟨fl3, ow3, g1, g2, g3, g4⟩ := l8.ext e13
        have hfl3 := g2.len
        obtain ⟨d1, o1, z1, _, _⟩ := g2.get (i + 1) hj3
        obtain ⟨d2, o2, z2, _, _⟩ := g2.get i (by omega)
        have hb3 := GrX.of (f := cellsF) (sz := 5) (fun _ => rfl) g1
        refine hb3.idxL (f := cellsF) (sz := 5) (fun _ => rfl) (by omega) (by omega) fun b7 o7 cs7 m7 r7' f7' at7 _ hv7 => ?_
        rw [z1] at hv7
        refine ptrW_of ?_
        refine evV_of st'.l[i + 1].1 ((load_one at7 (by kernel_rfl)).trans (at_take hv7 (j := 0) (by omega))) ?_
        refine hb3.idxL (f := cellsF) (sz := 5) (fun _ => rfl) (by omega) (by omega) fun b8 o8 cs8 m8 r8' f8' at8 _ hv8 => ?_
        rw [z2] at hv8
        refine ptrW_of ?_
        refine evV_of st'.l[i].1 ((load_one at8 (by kernel_rfl)).trans (at_take hv8 (j := 0) (by omega))) ?_
        have hup := r7.lt hj3 (Nat.lt_succ_self i)
        refine ifW_neg (by omega) ?_
        rw [wrap_succ (by omega)]
        exact hP2 _ _ _ (by omega) ⟨i + 1 + 1, rfl, by omega, rfl, e13⟩
      · rw [wrap_succ (by omega)]
        exact hP2 _ _ _ (by omega) ⟨j + 1, rfl, by omega, rfl, e13⟩
    · refine evC_of (b33 q9 ⟨_, rfl, ?_⟩)
      refine ifW_ndec (fun h => (h rfl).elim) fun _ => ?_
      refine ifW_neg (by omega) ?_
      rw [wrap_succ (by omega)]
      exact hP _ _ _ (by omega) ⟨n + 1, rfl, by omega, rfl, (e7.tr e8).tr e9, st', own', q9, f7, by rw [show 2 * (n + 1) = 2 * n + 2 by omega]; exact k7, r7⟩
  have hkind : ∀ S' own' (st' : BagS), BagIs S' b1 st' own' → (∀ c ∈ own', c ∈ own ∨ S6.next ≤ c) → Mod (fun b => b ∈ own) S6 S' → BagOk (2 * n + 2) st' → Srt st' → k3 () S' := fun S' own' st' a1 a2 a3 a4 a5 =>
    hJ S' st' own' (e6.ext a3 f4) a1 (fun c hc => (a2 c hc).elim (f4 c) fun h => by have := e6.next; omega) a4 a5
  have hdl : d.length ≤ 60 := by have := hdx.1.len; simp only at this hsz; omega
  refine ptrW_of ?_
  (first | refine hL.ld 0 rfl (by kernel_rfl) _ rfl ?_ | refine hL.ld 1 rfl (by kernel_rfl) _ rfl ?_ | refine hL.ld 2 rfl (by kernel_rfl) _ rfl ?_ | refine hL.ld 3 rfl (by kernel_rfl) _ rfl ?_ | refine hL.ld 4 rfl (by kernel_rfl) _ rfl ?_ | refine hL.ld 5 rfl (by kernel_rfl) _ rfl ?_ | refine hL.ld 6 rfl (by kernel_rfl) _ rfl ?_ | refine hL.ld 7 rfl (by kernel_rfl) _ rfl ?_ | refine hL.lda 0 rfl (by kernel_rfl) _ rfl ?_ | refine hL.lda 1 rfl (by kernel_rfl) _ rfl ?_ | refine hL.lda 2 rfl (by kernel_rfl) _ rfl ?_ | refine hL.lda 3 rfl (by kernel_rfl) _ rfl ?_ | refine hL.lda 4 rfl (by kernel_rfl) _ rfl ?_ | refine hL.lda 5 rfl (by kernel_rfl) _ rfl ?_ | refine hL.lda 6 rfl (by kernel_rfl) _ rfl ?_ | refine hL.lda 7 rfl (by kernel_rfl) _ rfl ?_)
  refine ifW_dec (fun h0 => ?_) fun h0 => ?_
  · repeat (first | refine ptrW_of ?_ | refine sameV_of ?_ | refine hL.new fun bk S' hL hbk hnk => ?_ | (first | refine hL.ld 0 rfl (by kernel_rfl) _ rfl ?_ | refine hL.ld 1 rfl (by kernel_rfl) _ rfl ?_ | refine hL.ld 2 rfl (by kernel_rfl) _ rfl ?_ | refine hL.ld 3 rfl (by kernel_rfl) _ rfl ?_ | refine hL.ld 4 rfl (by kernel_rfl) _ rfl ?_ | refine hL.ld 5 rfl (by kernel_rfl) _ rfl ?_ | refine hL.ld 6 rfl (by kernel_rfl) _ rfl ?_ | refine hL.ld 7 rfl (by kernel_rfl) _ rfl ?_ | refine hL.lda 0 rfl (by kernel_rfl) _ rfl ?_ | refine hL.lda 1 rfl (by kernel_rfl) _ rfl ?_ | refine hL.lda 2 rfl (by kernel_rfl) _ rfl ?_ | refine hL.lda 3 rfl (by kernel_rfl) _ rfl ?_ | refine hL.lda 4 rfl (by kernel_rfl) _ rfl ?_ | refine hL.lda 5 rfl (by kernel_rfl) _ rfl ?_ | refine hL.lda 6 rfl (by kernel_rfl) _ rfl ?_ | refine hL.lda 7 rfl (by kernel_rfl) _ rfl ?_) | (first | refine hL.st 0 _ rfl (by kernel_rfl) rfl (Nat.le_of_ble_eq_true rfl) rfl rfl fun S' hL hn' => ?_ | refine hL.st 1 _ rfl (by kernel_rfl) rfl (Nat.le_of_ble_eq_true rfl) rfl rfl fun S' hL hn' => ?_ | refine hL.st 2 _ rfl (by kernel_rfl) rfl (Nat.le_of_ble_eq_true rfl) rfl rfl fun S' hL hn' => ?_ | refine hL.st 3 _ rfl (by kernel_rfl) rfl (Nat.le_of_ble_eq_true rfl) rfl rfl fun S' hL hn' => ?_ | refine hL.st 4 _ rfl (by kernel_rfl) rfl (Nat.le_of_ble_eq_true rfl) rfl rfl fun S' hL hn' => ?_ | refine hL.st 5 _ rfl (by kernel_rfl) rfl (Nat.le_of_ble_eq_true rfl) rfl rfl fun S' hL hn' => ?_ | refine hL.st 6 _ rfl (by kernel_rfl) rfl (Nat.le_of_ble_eq_true rfl) rfl rfl fun S' hL hn' => ?_ | refine hL.st 7 _ rfl (by kernel_rfl) rfl (Nat.le_of_ble_eq_true rfl) rfl rfl fun S' hL hn' => ?_) | (first | refine hL.has 0 rfl ?_ | refine hL.has 1 rfl ?_ | refine hL.has 2 rfl ?_ | refine hL.has 3 rfl ?_ | refine hL.has 4 rfl ?_ | refine hL.has 5 rfl ?_ | refine hL.has 6 rfl ?_ | refine hL.has 7 rfl ?_) | (first | refine hL.upd 0 rfl fun S' hL hn' => ?_ | refine hL.upd 1 rfl fun S' hL hn' => ?_ | refine hL.upd 2 rfl fun S' hL hn' => ?_ | refine hL.upd 3 rfl fun S' hL hn' => ?_ | refine hL.upd 4 rfl fun S' hL hn' => ?_ | refine hL.upd 5 rfl fun S' hL hn' => ?_ | refine hL.upd 6 rfl fun S' hL hn' => ?_ | refine hL.upd 7 rfl fun S' hL hn' => ?_))
    exact evC_of (b26 q6 k4 (by omega) (Ext.slOf e6 hdx.1) hdx.2.1 (hdx.ne (by omega)) hdl fun own' S' a1 a2 a3 => ⟨_, rfl, hkind S' own' _ a1 a2 a3 (sendS_ok k4 _ _ _ hdl) (sendS_srt r4 _ _ _)⟩)
  refine ifW_dec (fun h0 => ?_) fun h0 => ?_
  · repeat (first | refine ptrW_of ?_ | refine sameV_of ?_ | refine hL.new fun bk S' hL hbk hnk => ?_ | (first | refine hL.ld 0 rfl (by kernel_rfl) _ rfl ?_ | refine hL.ld 1 rfl (by kernel_rfl) _ rfl ?_ | refine hL.ld 2 rfl (by kernel_rfl) _ rfl ?_ | refine hL.ld 3 rfl (by kernel_rfl) _ rfl ?_ | refine hL.ld 4 rfl (by kernel_rfl) _ rfl ?_ | refine hL.ld 5 rfl (by kernel_rfl) _ rfl ?_ | refine hL.ld 6 rfl (by kernel_rfl) _ rfl ?_ | refine hL.ld 7 rfl (by kernel_rfl) _ rfl ?_ | refine hL.lda 0 rfl (by kernel_rfl) _ rfl ?_ | refine hL.lda 1 rfl (by kernel_rfl) _ rfl ?_ | refine hL.lda 2 rfl (by kernel_rfl) _ rfl ?_ | refine hL.lda 3 rfl (by kernel_rfl) _ rfl ?_ | refine hL.lda 4 rfl (by kernel_rfl) _ rfl ?_ | refine hL.lda 5 rfl (by kernel_rfl) _ rfl ?_ | refine hL.lda 6 rfl (by kernel_rfl) _ rfl ?_ | refine hL.lda 7 rfl (by kernel_rfl) _ rfl ?_) | (first | refine hL.st 0 _ rfl (by kernel_rfl) rfl (Nat.le_of_ble_eq_true rfl) rfl rfl fun S' hL hn' => ?_ | refine hL.st 1 _ rfl (by kernel_rfl) rfl (Nat.le_of_ble_eq_true rfl) rfl rfl fun S' hL hn' => ?_ | refine hL.st 2 _ rfl (by kernel_rfl) rfl (Nat.le_of_ble_eq_true rfl) rfl rfl fun S' hL hn' => ?_ | refine hL.st 3 _ rfl (by kernel_rfl) rfl (Nat.le_of_ble_eq_true rfl) rfl rfl fun S' hL hn' => ?_ | refine hL.st 4 _ rfl (by kernel_rfl) rfl (Nat.le_of_ble_eq_true rfl) rfl rfl fun S' hL hn' => ?_ | refine hL.st 5 _ rfl (by kernel_rfl) rfl (Nat.le_of_ble_eq_true rfl) rfl rfl fun S' hL hn' => ?_ | refine hL.st 6 _ rfl (by kernel_rfl) rfl (Nat.le_of_ble_eq_true rfl) rfl rfl fun S' hL hn' => ?_ | refine hL.st 7 _ rfl (by kernel_rfl) rfl (Nat.le_of_ble_eq_true rfl) rfl rfl fun S' hL hn' => ?_) | (first | refine hL.has 0 rfl ?_ | refine hL.has 1 rfl ?_ | refine hL.has 2 rfl ?_ | refine hL.has 3 rfl ?_ | refine hL.has 4 rfl ?_ | refine hL.has 5 rfl ?_ | refine hL.has 6 rfl ?_ | refine hL.has 7 rfl ?_) | (first | refine hL.upd 0 rfl fun S' hL hn' => ?_ | refine hL.upd 1 rfl fun S' hL hn' => ?_ | refine hL.upd 2 rfl fun S' hL hn' => ?_ | refine hL.upd 3 rfl fun S' hL hn' => ?_ | refine hL.upd 4 rfl fun S' hL hn' => ?_ | refine hL.upd 5 rfl fun S' hL hn' => ?_ | refine hL.upd 6 rfl fun S' hL hn' => ?_ | refine hL.upd 7 rfl fun S' hL hn' => ?_))
    exact evC_of (b27 q6 k4 (by omega) fun own' d' o' S' a1 _ a2 _ a3 => ⟨(_, _), rfl, hkind S' own' _ a1 a2 a3 ((takeS_ok k4 _ (.inl rfl)).mono (by omega)) (takeS_srt r4 _ _)⟩)
  refine ifW_dec (fun h0 => ?_) fun h0 => ?_
  · repeat (first | refine ptrW_of ?_ | refine sameV_of ?_ | refine hL.new fun bk S' hL hbk hnk => ?_ | (first | refine hL.ld 0 rfl (by kernel_rfl) _ rfl ?_ | refine hL.ld 1 rfl (by kernel_rfl) _ rfl ?_ | refine hL.ld 2 rfl (by kernel_rfl) _ rfl ?_ | refine hL.ld 3 rfl (by kernel_rfl) _ rfl ?_ | refine hL.ld 4 rfl (by kernel_rfl) _ rfl ?_ | refine hL.ld 5 rfl (by kernel_rfl) _ rfl ?_ | refine hL.ld 6 rfl (by kernel_rfl) _ rfl ?_ | refine hL.ld 7 rfl (by kernel_rfl) _ rfl ?_ | refine hL.lda 0 rfl (by kernel_rfl) _ rfl ?_ | refine hL.lda 1 rfl (by kernel_rfl) _ rfl ?_ | refine hL.lda 2 rfl (by kernel_rfl) _ rfl ?_ | refine hL.lda 3 rfl (by kernel_rfl) _ rfl ?_ | refine hL.lda 4 rfl (by kernel_rfl) _ rfl ?_ | refine hL.lda 5 rfl (by kernel_rfl) _ rfl ?_ | refine hL.lda 6 rfl (by kernel_rfl) _ rfl ?_ | refine hL.lda 7 rfl (by kernel_rfl) _ rfl ?_) | (first | refine hL.st 0 _ rfl (by kernel_rfl) rfl (Nat.le_of_ble_eq_true rfl) rfl rfl fun S' hL hn' => ?_ | refine hL.st 1 _ rfl (by kernel_rfl) rfl (Nat.le_of_ble_eq_true rfl) rfl rfl fun S' hL hn' => ?_ | refine hL.st 2 _ rfl (by kernel_rfl) rfl (Nat.le_of_ble_eq_true rfl) rfl rfl fun S' hL hn' => ?_ | refine hL.st 3 _ rfl (by kernel_rfl) rfl (Nat.le_of_ble_eq_true rfl) rfl rfl fun S' hL hn' => ?_ | refine hL.st 4 _ rfl (by kernel_rfl) rfl (Nat.le_of_ble_eq_true rfl) rfl rfl fun S' hL hn' => ?_ | refine hL.st 5 _ rfl (by kernel_rfl) rfl (Nat.le_of_ble_eq_true rfl) rfl rfl fun S' hL hn' => ?_ | refine hL.st 6 _ rfl (by kernel_rfl) rfl (Nat.le_of_ble_eq_true rfl) rfl rfl fun S' hL hn' => ?_ | refine hL.st 7 _ rfl (by kernel_rfl) rfl (Nat.le_of_ble_eq_true rfl) rfl rfl fun S' hL hn' => ?_) | (first | refine hL.has 0 rfl ?_ | refine hL.has 1 rfl ?_ | refine hL.has 2 rfl ?_ | refine hL.has 3 rfl ?_ | refine hL.has 4 rfl ?_ | refine hL.has 5 rfl ?_ | refine hL.has 6 rfl ?_ | refine hL.has 7 rfl ?_) | (first | refine hL.upd 0 rfl fun S' hL hn' => ?_ | refine hL.upd 1 rfl fun S' hL hn' => ?_ | refine hL.upd 2 rfl fun S' hL hn' => ?_ | refine hL.upd 3 rfl fun S' hL hn' => ?_ | refine hL.upd 4 rfl fun S' hL hn' => ?_ | refine hL.upd 5 rfl fun S' hL hn' => ?_ | refine hL.upd 6 rfl fun S' hL hn' => ?_ | refine hL.upd 7 rfl fun S' hL hn' => ?_))
    exact evC_of (b29 q6 k4 (by omega) fun own' S' a1 a2 a3 => ⟨_, rfl, hkind S' own' _ a1 a2 a3 ((takeS_ok k4 _ (.inr rfl)).mono (by omega)) (takeS_srt r4 _ _)⟩)
  refine ifW_dec (fun h0 => ?_) fun h0 => ?_
  · repeat (first | refine ptrW_of ?_ | refine sameV_of ?_ | refine hL.new fun bk S' hL hbk hnk => ?_ | (first | refine hL.ld 0 rfl (by kernel_rfl) _ rfl ?_ | refine hL.ld 1 rfl (by kernel_rfl) _ rfl ?_ | refine hL.ld 2 rfl (by kernel_rfl) _ rfl ?_ | refine hL.ld 3 rfl (by kernel_rfl) _ rfl ?_ | refine hL.ld 4 rfl (by kernel_rfl) _ rfl ?_ | refine hL.ld 5 rfl (by kernel_rfl) _ rfl ?_ | refine hL.ld 6 rfl (by kernel_rfl) _ rfl ?_ | refine hL.ld 7 rfl (by kernel_rfl) _ rfl ?_ | refine hL.lda 0 rfl (by kernel_rfl) _ rfl ?_ | refine hL.lda 1 rfl (by kernel_rfl) _ rfl ?_ | refine hL.lda 2 rfl (by kernel_rfl) _ rfl ?_ | refine hL.lda 3 rfl (by kernel_rfl) _ rfl ?_ | refine hL.lda 4 rfl (by kernel_rfl) _ rfl ?_ | refine hL.lda 5 rfl (by kernel_rfl) _ rfl ?_ | refine hL.lda 6 rfl (by kernel_rfl) _ rfl ?_ | refine hL.lda 7 rfl (by kernel_rfl) _ rfl ?_) | (first | refine hL.st 0 _ rfl (by kernel_rfl) rfl (Nat.le_of_ble_eq_true rfl) rfl rfl fun S' hL hn' => ?_ | refine hL.st 1 _ rfl (by kernel_rfl) rfl (Nat.le_of_ble_eq_true rfl) rfl rfl fun S' hL hn' => ?_ | refine hL.st 2 _ rfl (by kernel_rfl) rfl (Nat.le_of_ble_eq_true rfl) rfl rfl fun S' hL hn' => ?_ | refine hL.st 3 _ rfl (by kernel_rfl) rfl (Nat.le_of_ble_eq_true rfl) rfl rfl fun S' hL hn' => ?_ | refine hL.st 4 _ rfl (by kernel_rfl) rfl (Nat.le_of_ble_eq_true rfl) rfl rfl fun S' hL hn' => ?_ | refine hL.st 5 _ rfl (by kernel_rfl) rfl (Nat.le_of_ble_eq_true rfl) rfl rfl fun S' hL hn' => ?_ | refine hL.st 6 _ rfl (by kernel_rfl) rfl (Nat.le_of_ble_eq_true rfl) rfl rfl fun S' hL hn' => ?_ | refine hL.st 7 _ rfl (by kernel_rfl) rfl (Nat.le_of_ble_eq_true rfl) rfl rfl fun S' hL hn' => ?_) | (first | refine hL.has 0 rfl ?_ | refine hL.has 1 rfl ?_ | refine hL.has 2 rfl ?_ | refine hL.has 3 rfl ?_ | refine hL.has 4 rfl ?_ | refine hL.has 5 rfl ?_ | refine hL.has 6 rfl ?_ | refine hL.has 7 rfl ?_) | (first | refine hL.upd 0 rfl fun S' hL hn' => ?_ | refine hL.upd 1 rfl fun S' hL hn' => ?_ | refine hL.upd 2 rfl fun S' hL hn' => ?_ | refine hL.upd 3 rfl fun S' hL hn' => ?_ | refine hL.upd 4 rfl fun S' hL hn' => ?_ | refine hL.upd 5 rfl fun S' hL hn' => ?_ | refine hL.upd 6 rfl fun S' hL hn' => ?_ | refine hL.upd 7 rfl fun S' hL hn' => ?_))
    exact evC_of (b30 q6 k4 (by omega) fun own' S' a1 a2 a3 => ⟨(_, _), rfl, hkind S' own' _ a1 a2 a3 (doubleS_ok k4 _) (doubleS_srt r4 _)⟩)
  refine ifW_dec (fun h0 => ?_) fun h0 => ?_
  · repeat (first | refine ptrW_of ?_ | refine sameV_of ?_ | refine hL.new fun bk S' hL hbk hnk => ?_ | (first | refine hL.ld 0 rfl (by kernel_rfl) _ rfl ?_ | refine hL.ld 1 rfl (by kernel_rfl) _ rfl ?_ | refine hL.ld 2 rfl (by kernel_rfl) _ rfl ?_ | refine hL.ld 3 rfl (by kernel_rfl) _ rfl ?_ | refine hL.ld 4 rfl (by kernel_rfl) _ rfl ?_ | refine hL.ld 5 rfl (by kernel_rfl) _ rfl ?_ | refine hL.ld 6 rfl (by kernel_rfl) _ rfl ?_ | refine hL.ld 7 rfl (by kernel_rfl) _ rfl ?_ | refine hL.lda 0 rfl (by kernel_rfl) _ rfl ?_ | refine hL.lda 1 rfl (by kernel_rfl) _ rfl ?_ | refine hL.lda 2 rfl (by kernel_rfl) _ rfl ?_ | refine hL.lda 3 rfl (by kernel_rfl) _ rfl ?_ | refine hL.lda 4 rfl (by kernel_rfl) _ rfl ?_ | refine hL.lda 5 rfl (by kernel_rfl) _ rfl ?_ | refine hL.lda 6 rfl (by kernel_rfl) _ rfl ?_ | refine hL.lda 7 rfl (by kernel_rfl) _ rfl ?_) | (first | refine hL.st 0 _ rfl (by kernel_rfl) rfl (Nat.le_of_ble_eq_true rfl) rfl rfl fun S' hL hn' => ?_ | refine hL.st 1 _ rfl (by kernel_rfl) rfl (Nat.le_of_ble_eq_true rfl) rfl rfl fun S' hL hn' => ?_ | refine hL.st 2 _ rfl (by kernel_rfl) rfl (Nat.le_of_ble_eq_true rfl) rfl rfl fun S' hL hn' => ?_ | refine hL.st 3 _ rfl (by kernel_rfl) rfl (Nat.le_of_ble_eq_true rfl) rfl rfl fun S' hL hn' => ?_ | refine hL.st 4 _ rfl (by kernel_rfl) rfl (Nat.le_of_ble_eq_true rfl) rfl rfl fun S' hL hn' => ?_ | refine hL.st 5 _ rfl (by kernel_rfl) rfl (Nat.le_of_ble_eq_true rfl) rfl rfl fun S' hL hn' => ?_ | refine hL.st 6 _ rfl (by kernel_rfl) rfl (Nat.le_of_ble_eq_true rfl) rfl rfl fun S' hL hn' => ?_ | refine hL.st 7 _ rfl (by kernel_rfl) rfl (Nat.le_of_ble_eq_true rfl) rfl rfl fun S' hL hn' => ?_) | (first | refine hL.has 0 rfl ?_ | refine hL.has 1 rfl ?_ | refine hL.has 2 rfl ?_ | refine hL.has 3 rfl ?_ | refine hL.has 4 rfl ?_ | refine hL.has 5 rfl ?_ | refine hL.has 6 rfl ?_ | refine hL.has 7 rfl ?_) | (first | refine hL.upd 0 rfl fun S' hL hn' => ?_ | refine hL.upd 1 rfl fun S' hL hn' => ?_ | refine hL.upd 2 rfl fun S' hL hn' => ?_ | refine hL.upd 3 rfl fun S' hL hn' => ?_ | refine hL.upd 4 rfl fun S' hL hn' => ?_ | refine hL.upd 5 rfl fun S' hL hn' => ?_ | refine hL.upd 6 rfl fun S' hL hn' => ?_ | refine hL.upd 7 rfl fun S' hL hn' => ?_))
    exact evC_of (b31 q6 k4 (by omega) fun own' S' a1 a2 a3 => ⟨_, rfl, hkind S' own' _ a1 a2 a3 ((spoilS_ok k4 _ _ _).mono (by omega)) (spoilS_srt r4 _ _ _)⟩)
  exact hJ S6 st own e6 q6 f4 (k4.mono (by omega)) r4
end
end Go.Proofs.Ytcookjolkhcjhaa

/- Bags: the document's own: found, sent. -/
namespace Go.Proofs.Ytcookjolkhcjhaa
open Go Go.Proofs.Ytcookjolkhcjhaa.D
set_option linter.unusedVariables false
set_option linter.unusedSimpArgs false
noncomputable section

theorem app_dat {S : St} {x : Sl} {l : List Int} (hv : SlOf cellB 1 S x l) (hsp : ∀ a, x.a = some a → a.spot = none) (hlen : l.length ≤ 1000000) {k : Sl → St → Prop} (hk : ∀ d S', Dat S.next S' d l → Ext S S' → k d S') :
    evP tS (appendD E0 S 42 42 (.slice none 0 0) (.slice x.a x.len x.cap)) k := by
  have hx := hv.first (f := cellB) (sz := 1) (fun _ => rfl) hsp
  have hl := hv.len
  by_cases h0 : l = []
  · subst h0
    refine ⟨⟨none, 0, 0⟩, S, ?_, hk ⟨none, 0, 0⟩ S (.inr (.inl ⟨rfl, rfl⟩)) (Mod.refl _ _)⟩
    have hl0 : x.len = 0 := hl
    rw [hl0] at hx ⊢
    have hx' : firstD S 1 0 (.slice x.a 0 x.cap) = some [] := hx
    have g1 : Nat.beq (cellsOf (.int .u8 0)).length 1 = true := rfl
    have g2 : Nat.beq ([] : List Value).length (0 * 1) = true := rfl
    have g3 : Nat.ble ((0 + 0) * DEnv.i5.bytes) 17592186044416 = true := Nat.ble_eq_true_of_le (by omega)
    have g4 : Nat.ble (0 + 0) 17592186044416 = true := rfl
    have g5 : Nat.blt 0 1 = true := rfl
    simp only [appendD, und42b, inf5b, apK, cond_true, zero5, Option.bind_some, lenOfD, sizei5, hx', g1, g2, g3, g4, g5, Nat.beq_refl, Bool.and_true, TT.enc, Ty.enc, Sc.enc]
  · exact Gr.append (f := cellB) (sz := 1) (N := S.next) (s := ⟨none, 0, 0⟩) (l := []) (fun _ => rfl) (by omega) Gr.nil und42b inf5b und42b rfl sizei5 zero5 rfl (by simp only [lenOfD, hl]) hx (oneB l) (by rw [bytes5]; simp; omega) (by simp; omega) h0
      (fun s' S' g m _ => hk s' S' (.inr (by simpa using g)) (m.mono fun b hb _ => by cases hb.2)) (Nat.le_refl _)
def idxI (l : List Pk) (n : Int) : Int := match idxS l n with | some i => (i : Int) | none => -1
theorem b39 {S : St} {bb m : Nat} {st : BagS} {own : List Nat} {n : Int} {k : Value → St → Prop} (h : BagIs S bb st own) (ok : BagOk m st) (hk : k (.int .i64 (idxI st.l n)) S) :
    WC E0 39 [.pointer (some ⟨bb, 0, none⟩), .int .i64 n] S k := by
  obtain ⟨s, fl, ow, h1, h2, h3, h4, rfl⟩ := h
  have hlen := h3.len
  have o1 := ok.len
  refine w39 _ n ?_
  unfold c39
  refine loopW_ind (fun q (x : Int) S' => ∃ i : Nat, x = i ∧ i ≤ st.l.length ∧ q = st.l.length - i ∧ S' = S ∧ ∀ j (hj : j < st.l.length), j < i → st.l[j].1 ≠ n) (m := st.l.length) ⟨0, rfl, by omega, rfl, rfl, fun j _ h => by omega⟩ ?_
  rintro P q x S1 ⟨i, rfl, hi, rfl, rfl, hno⟩ hP
  refine ptrW_of (ptrW_of ?_)
  refine evV_of s (load_one h1 (by kernel_rfl)) ?_
  have hsl : s.len = st.l.length := by rw [h2.len, hlen]
  rw [hsl]
  refine ifW_dec (fun hlt => ?_) fun hlt => ?_
  · have hi3 : i < st.l.length := by omega
    refine ptrW_of (ptrW_of ?_)
    refine evV_of s (load_one h1 (by kernel_rfl)) ?_
    obtain ⟨d, o, e1, _, _⟩ := h3.get i hi3
    refine (GrX.of (f := cellsF) (sz := 5) (fun _ => rfl) h2).idxL (f := cellsF) (sz := 5) (fun _ => rfl) (by omega) (by omega) fun b5 o5 cs5 m5 r5 f5 at5 _ hv5 => ?_
    rw [e1] at hv5
    refine ptrW_of ?_
    refine evV_of st.l[i].1 ((load_one at5 (by kernel_rfl)).trans (at_take hv5 (j := 0) (by omega))) ?_
    refine ifW_dec (fun he => ?_) fun he => ?_
    · have : idxS st.l n = some i := by
        unfold idxS
        rw [List.findIdx?_eq_some_iff_getElem]
        exact ⟨hi3, by simpa using he, fun j hj => by simpa using hno j (by omega) hj⟩
      unfold idxI at hk
      rw [this] at hk
      exact hk
    · rw [wrap_succ (by omega)]
      refine hP _ _ _ (by omega) ⟨i + 1, rfl, by omega, rfl, rfl, fun j hj hlt => ?_⟩
      rcases Nat.lt_or_ge j i with h | h
      · exact hno j hj h
      · have : j = i := by omega
        subst this; exact he
  · have : idxS st.l n = none := by
      unfold idxS
      rw [List.findIdx?_eq_none_iff]
      intro p hp
      obtain ⟨j, hj, rfl⟩ := List.getElem_of_mem hp
      simpa using hno j hj (by omega)
    unfold idxI at hk
    rw [this] at hk
    exact hk
theorem own_lt {S : St} {bb : Nat} {st : BagS} {own : List Nat} (h : BagIs S bb st own) : ∀ c, c ∈ own → c < S.next := fun c hc => h.lt hc
/-- A bag's box, and the rest beside it. -/
theorem bag_cx {S : St} {bb : Nat} {st : BagS} {s : Sl} {fl : List Flt} {ow : List Nat} (h1 : At S bb (bagO s st.last st.c)) (h2 : Fls (bb + 1) S s fl) (h3 : Pks S fl st.l ow) :
    Cx (fun c => c ∈ bb :: (blk s ++ ow)) S S [(bb, bagO s st.last st.c)] (fun c => c ∈ blk s ∨ c ∈ ow) (LsR (bb + 1) s fl st.l ow) := by
  refine Cx.startL _ (fun p hp => ?_) (by simp) ⟨h2, h3⟩ LsR.frm (fun c hc => ?_) (fun p hp hc => ?_)
  · simp only [List.mem_cons, List.not_mem_nil, or_false] at hp; subst hp; exact ⟨h1, by simp⟩
  · rcases hc with hc | hc
    · obtain ⟨cs, h, _⟩ := h2.bk hc; exact h.lt
    · obtain ⟨x, h, _⟩ := h3.blk hc; exact h.lt
  · simp only [List.mem_cons, List.not_mem_nil, or_false] at hp; subst hp
    rcases hc with hc | hc
    · obtain ⟨cs, h, h', _⟩ := h2.bk hc; dsimp only at h'; omega
    · exact list_ne h1 h2 h3 hc (.inl rfl)
/-- .. and other elements. -/
theorem bag_cx2 {S : St} {bb : Nat} {st : BagS} {s : Sl} {fl : List Flt} {ow : List Nat} {x : Sl} {dl : List Int} (h1 : At S bb (bagO s st.last st.c)) (h2 : Fls (bb + 1) S s fl) (h3 : Pks S fl st.l ow) (hd : SlOf cellB 1 S x dl) (hne : dl ≠ [] → ∀ b o, x.a = some ⟨b, o, none⟩ → b ≠ bb) :
    Cx (fun c => c ∈ bb :: (blk s ++ ow)) S S [(bb, bagO s st.last st.c)] (fun c => (c ∈ blk s ∨ c ∈ ow) ∨ SlB x dl c) (fun S => LsR (bb + 1) s fl st.l ow S ∧ SlOf cellB 1 S x dl) := by
  have h := bag_cx h1 h2 h3
  exact ⟨h.h, fun c hc => hc.elim (fun hc => h.lt c hc) fun hc => hd.lt hc, fun p hp hc => hc.elim (fun hc => h.sep p hp hc) fun hc => by
    simp only [List.mem_cons, List.not_mem_nil, or_false] at hp; subst hp
    obtain ⟨hl, o, e⟩ := hc
    exact hne hl _ o e rfl, ⟨h.p, hd⟩, Frm.and h.fr Frm.sl⟩
theorem b71 {S : St} {bb m : Nat} {st : BagS} {own : List Nat} {x : Flt} {dl : List Int} {k : Value → St → Prop} (h : BagIs S bb st own) (ok : BagOk m st) (hm : m < 2000000)
    (hd : SlOf cellB 1 S x.2.2.2.1 dl) (hsp : ∀ a, x.2.2.2.1.a = some a → a.spot = none) (hne : dl ≠ [] → ∀ b o, x.2.2.2.1.a = some ⟨b, o, none⟩ → b ≠ bb) (hl : dl.length ≤ 60)
    (hk : ∀ own' S', BagIs S' bb (putS st (x.2.1, x.2.2.1, dl, x.2.2.2.2)).2 own' → (∀ c ∈ own', c ∈ own ∨ S.next ≤ c) → Mod (fun b => b ∈ own) S S' → k (.int .i64 (putS st (x.2.1, x.2.2.1, dl, x.2.2.2.2)).1) S') :
    WC E0 71 [.pointer (some ⟨bb, 0, none⟩), sv G66 x] S k := by
  obtain ⟨s, fl, ow, h1, h2, h3, h4, rfl⟩ := h
  obtain ⟨x1, x2, x3, x4, x5⟩ := x
  have hlen := h3.len
  have o1 := ok.len; have o2 := ok.last; have o3 := ok.c6
  have hsl : s.len = st.l.length := by rw [h2.len, hlen]
  dsimp only at hd hsp hne hk
  refine w71 _ _ ?_
  unfold c71
  dsimp only
  have hL := bag_cx2 h1 h2 h3 hd hne
  have hbb := h1.lt
  refine hL.new fun b1 S1 hL hb1 hn1 => ?_
  repeat (first | refine ptrW_of ?_ | refine sameV_of ?_ | (first | refine hL.ld 0 rfl (by kernel_rfl) _ rfl ?_ | refine hL.ld 1 rfl (by kernel_rfl) _ rfl ?_ | refine hL.ld 2 rfl (by kernel_rfl) _ rfl ?_ | refine hL.ld 3 rfl (by kernel_rfl) _ rfl ?_ | refine hL.ld 4 rfl (by kernel_rfl) _ rfl ?_ | refine hL.ld 5 rfl (by kernel_rfl) _ rfl ?_ | refine hL.ld 6 rfl (by kernel_rfl) _ rfl ?_ | refine hL.ld 7 rfl (by kernel_rfl) _ rfl ?_ | refine hL.lda 0 rfl (by kernel_rfl) _ rfl ?_ | refine hL.lda 1 rfl (by kernel_rfl) _ rfl ?_ | refine hL.lda 2 rfl (by kernel_rfl) _ rfl ?_ | refine hL.lda 3 rfl (by kernel_rfl) _ rfl ?_ | refine hL.lda 4 rfl (by kernel_rfl) _ rfl ?_ | refine hL.lda 5 rfl (by kernel_rfl) _ rfl ?_ | refine hL.lda 6 rfl (by kernel_rfl) _ rfl ?_ | refine hL.lda 7 rfl (by kernel_rfl) _ rfl ?_) | (first | refine hLo.ld 0 rfl (by kernel_rfl) _ rfl ?_ | refine hLo.ld 1 rfl (by kernel_rfl) _ rfl ?_ | refine hLo.ld 2 rfl (by kernel_rfl) _ rfl ?_ | refine hLo.ld 3 rfl (by kernel_rfl) _ rfl ?_ | refine hLo.ld 4 rfl (by kernel_rfl) _ rfl ?_ | refine hLo.ld 5 rfl (by kernel_rfl) _ rfl ?_ | refine hLo.ld 6 rfl (by kernel_rfl) _ rfl ?_ | refine hLo.ld 7 rfl (by kernel_rfl) _ rfl ?_ | refine hLo.lda 0 rfl (by kernel_rfl) _ rfl ?_ | refine hLo.lda 1 rfl (by kernel_rfl) _ rfl ?_ | refine hLo.lda 2 rfl (by kernel_rfl) _ rfl ?_ | refine hLo.lda 3 rfl (by kernel_rfl) _ rfl ?_ | refine hLo.lda 4 rfl (by kernel_rfl) _ rfl ?_ | refine hLo.lda 5 rfl (by kernel_rfl) _ rfl ?_ | refine hLo.lda 6 rfl (by kernel_rfl) _ rfl ?_ | refine hLo.lda 7 rfl (by kernel_rfl) _ rfl ?_))
  rw [hsl]
  refine ifW_dec (fun hfull => ?_) fun hfull => ?_
  · repeat (first | refine ptrW_of ?_ | refine sameV_of ?_ | (first | refine hL.ld 0 rfl (by kernel_rfl) _ rfl ?_ | refine hL.ld 1 rfl (by kernel_rfl) _ rfl ?_ | refine hL.ld 2 rfl (by kernel_rfl) _ rfl ?_ | refine hL.ld 3 rfl (by kernel_rfl) _ rfl ?_ | refine hL.ld 4 rfl (by kernel_rfl) _ rfl ?_ | refine hL.ld 5 rfl (by kernel_rfl) _ rfl ?_ | refine hL.ld 6 rfl (by kernel_rfl) _ rfl ?_ | refine hL.ld 7 rfl (by kernel_rfl) _ rfl ?_ | refine hL.lda 0 rfl (by kernel_rfl) _ rfl ?_ | refine hL.lda 1 rfl (by kernel_rfl) _ rfl ?_ | refine hL.lda 2 rfl (by kernel_rfl) _ rfl ?_ | refine hL.lda 3 rfl (by kernel_rfl) _ rfl ?_ | refine hL.lda 4 rfl (by kernel_rfl) _ rfl ?_ | refine hL.lda 5 rfl (by kernel_rfl) _ rfl ?_ | refine hL.lda 6 rfl (by kernel_rfl) _ rfl ?_ | refine hL.lda 7 rfl (by kernel_rfl) _ rfl ?_) | (first | refine hLo.ld 0 rfl (by kernel_rfl) _ rfl ?_ | refine hLo.ld 1 rfl (by kernel_rfl) _ rfl ?_ | refine hLo.ld 2 rfl (by kernel_rfl) _ rfl ?_ | refine hLo.ld 3 rfl (by kernel_rfl) _ rfl ?_ | refine hLo.ld 4 rfl (by kernel_rfl) _ rfl ?_ | refine hLo.ld 5 rfl (by kernel_rfl) _ rfl ?_ | refine hLo.ld 6 rfl (by kernel_rfl) _ rfl ?_ | refine hLo.ld 7 rfl (by kernel_rfl) _ rfl ?_ | refine hLo.lda 0 rfl (by kernel_rfl) _ rfl ?_ | refine hLo.lda 1 rfl (by kernel_rfl) _ rfl ?_ | refine hLo.lda 2 rfl (by kernel_rfl) _ rfl ?_ | refine hLo.lda 3 rfl (by kernel_rfl) _ rfl ?_ | refine hLo.lda 4 rfl (by kernel_rfl) _ rfl ?_ | refine hLo.lda 5 rfl (by kernel_rfl) _ rfl ?_ | refine hLo.lda 6 rfl (by kernel_rfl) _ rfl ?_ | refine hLo.lda 7 rfl (by kernel_rfl) _ rfl ?_))
    rw [wrap_i64 (by omega) (by omega)]
    (first | refine hL.st 0 _ rfl (by kernel_rfl) rfl (Nat.le_of_ble_eq_true rfl) rfl rfl fun S2 hL hn2 => ?_ | refine hL.st 1 _ rfl (by kernel_rfl) rfl (Nat.le_of_ble_eq_true rfl) rfl rfl fun S2 hL hn2 => ?_ | refine hL.st 2 _ rfl (by kernel_rfl) rfl (Nat.le_of_ble_eq_true rfl) rfl rfl fun S2 hL hn2 => ?_ | refine hL.st 3 _ rfl (by kernel_rfl) rfl (Nat.le_of_ble_eq_true rfl) rfl rfl fun S2 hL hn2 => ?_ | refine hL.st 4 _ rfl (by kernel_rfl) rfl (Nat.le_of_ble_eq_true rfl) rfl rfl fun S2 hL hn2 => ?_ | refine hL.st 5 _ rfl (by kernel_rfl) rfl (Nat.le_of_ble_eq_true rfl) rfl rfl fun S2 hL hn2 => ?_ | refine hL.st 6 _ rfl (by kernel_rfl) rfl (Nat.le_of_ble_eq_true rfl) rfl rfl fun S2 hL hn2 => ?_ | refine hL.st 7 _ rfl (by kernel_rfl) rfl (Nat.le_of_ble_eq_true rfl) rfl rfl fun S2 hL hn2 => ?_)
    have e : putS st (x2, x3, dl, x5) = (0, ⟨st.l, st.last, (st.c.1, st.c.2.1, st.c.2.2.1, st.c.2.2.2.1, st.c.2.2.2.2.1, st.c.2.2.2.2.2 + 1)⟩) := by
      unfold putS; rw [if_neg (by omega)]
    rw [e] at hk
    exact hk (bb :: (blk s ++ ow)) S2 ⟨s, fl, ow, hL.at 1 rfl, hL.p.1.1, hL.p.1.2, h4, rfl⟩ (fun c hc => .inl hc) hL.mod
  · have e : putS st (x2, x3, dl, x5) = (st.last + 1, ⟨st.l ++ [(st.last + 1, x2, x3, dl, x5)], st.last + 1, st.c⟩) := by
      unfold putS; rw [if_pos (by omega)]
    rw [e] at hk
    repeat (first | refine ptrW_of ?_ | refine sameV_of ?_ | (first | refine hL.ld 0 rfl (by kernel_rfl) _ rfl ?_ | refine hL.ld 1 rfl (by kernel_rfl) _ rfl ?_ | refine hL.ld 2 rfl (by kernel_rfl) _ rfl ?_ | refine hL.ld 3 rfl (by kernel_rfl) _ rfl ?_ | refine hL.ld 4 rfl (by kernel_rfl) _ rfl ?_ | refine hL.ld 5 rfl (by kernel_rfl) _ rfl ?_ | refine hL.ld 6 rfl (by kernel_rfl) _ rfl ?_ | refine hL.ld 7 rfl (by kernel_rfl) _ rfl ?_ | refine hL.lda 0 rfl (by kernel_rfl) _ rfl ?_ | refine hL.lda 1 rfl (by kernel_rfl) _ rfl ?_ | refine hL.lda 2 rfl (by kernel_rfl) _ rfl ?_ | refine hL.lda 3 rfl (by kernel_rfl) _ rfl ?_ | refine hL.lda 4 rfl (by kernel_rfl) _ rfl ?_ | refine hL.lda 5 rfl (by kernel_rfl) _ rfl ?_ | refine hL.lda 6 rfl (by kernel_rfl) _ rfl ?_ | refine hL.lda 7 rfl (by kernel_rfl) _ rfl ?_) | (first | refine hLo.ld 0 rfl (by kernel_rfl) _ rfl ?_ | refine hLo.ld 1 rfl (by kernel_rfl) _ rfl ?_ | refine hLo.ld 2 rfl (by kernel_rfl) _ rfl ?_ | refine hLo.ld 3 rfl (by kernel_rfl) _ rfl ?_ | refine hLo.ld 4 rfl (by kernel_rfl) _ rfl ?_ | refine hLo.ld 5 rfl (by kernel_rfl) _ rfl ?_ | refine hLo.ld 6 rfl (by kernel_rfl) _ rfl ?_ | refine hLo.ld 7 rfl (by kernel_rfl) _ rfl ?_ | refine hLo.lda 0 rfl (by kernel_rfl) _ rfl ?_ | refine hLo.lda 1 rfl (by kernel_rfl) _ rfl ?_ | refine hLo.lda 2 rfl (by kernel_rfl) _ rfl ?_ | refine hLo.lda 3 rfl (by kernel_rfl) _ rfl ?_ | refine hLo.lda 4 rfl (by kernel_rfl) _ rfl ?_ | refine hLo.lda 5 rfl (by kernel_rfl) _ rfl ?_ | refine hLo.lda 6 rfl (by kernel_rfl) _ rfl ?_ | refine hLo.lda 7 rfl (by kernel_rfl) _ rfl ?_))
    rw [wrap_i64 (by omega) (by omega)]
    (first | refine hL.st 0 _ rfl (by kernel_rfl) rfl (Nat.le_of_ble_eq_true rfl) rfl rfl fun S3 hL hn3 => ?_ | refine hL.st 1 _ rfl (by kernel_rfl) rfl (Nat.le_of_ble_eq_true rfl) rfl rfl fun S3 hL hn3 => ?_ | refine hL.st 2 _ rfl (by kernel_rfl) rfl (Nat.le_of_ble_eq_true rfl) rfl rfl fun S3 hL hn3 => ?_ | refine hL.st 3 _ rfl (by kernel_rfl) rfl (Nat.le_of_ble_eq_true rfl) rfl rfl fun S3 hL hn3 => ?_ | refine hL.st 4 _ rfl (by kernel_rfl) rfl (Nat.le_of_ble_eq_true rfl) rfl rfl fun S3 hL hn3 => ?_ | refine hL.st 5 _ rfl (by kernel_rfl) rfl (Nat.le_of_ble_eq_true rfl) rfl rfl fun S3 hL hn3 => ?_ | refine hL.st 6 _ rfl (by kernel_rfl) rfl (Nat.le_of_ble_eq_true rfl) rfl rfl fun S3 hL hn3 => ?_ | refine hL.st 7 _ rfl (by kernel_rfl) rfl (Nat.le_of_ble_eq_true rfl) rfl rfl fun S3 hL hn3 => ?_)
    repeat (first | refine ptrW_of ?_ | refine sameV_of ?_ | (first | refine hL.ld 0 rfl (by kernel_rfl) _ rfl ?_ | refine hL.ld 1 rfl (by kernel_rfl) _ rfl ?_ | refine hL.ld 2 rfl (by kernel_rfl) _ rfl ?_ | refine hL.ld 3 rfl (by kernel_rfl) _ rfl ?_ | refine hL.ld 4 rfl (by kernel_rfl) _ rfl ?_ | refine hL.ld 5 rfl (by kernel_rfl) _ rfl ?_ | refine hL.ld 6 rfl (by kernel_rfl) _ rfl ?_ | refine hL.ld 7 rfl (by kernel_rfl) _ rfl ?_ | refine hL.lda 0 rfl (by kernel_rfl) _ rfl ?_ | refine hL.lda 1 rfl (by kernel_rfl) _ rfl ?_ | refine hL.lda 2 rfl (by kernel_rfl) _ rfl ?_ | refine hL.lda 3 rfl (by kernel_rfl) _ rfl ?_ | refine hL.lda 4 rfl (by kernel_rfl) _ rfl ?_ | refine hL.lda 5 rfl (by kernel_rfl) _ rfl ?_ | refine hL.lda 6 rfl (by kernel_rfl) _ rfl ?_ | refine hL.lda 7 rfl (by kernel_rfl) _ rfl ?_) | (first | refine hLo.ld 0 rfl (by kernel_rfl) _ rfl ?_ | refine hLo.ld 1 rfl (by kernel_rfl) _ rfl ?_ | refine hLo.ld 2 rfl (by kernel_rfl) _ rfl ?_ | refine hLo.ld 3 rfl (by kernel_rfl) _ rfl ?_ | refine hLo.ld 4 rfl (by kernel_rfl) _ rfl ?_ | refine hLo.ld 5 rfl (by kernel_rfl) _ rfl ?_ | refine hLo.ld 6 rfl (by kernel_rfl) _ rfl ?_ | refine hLo.ld 7 rfl (by kernel_rfl) _ rfl ?_ | refine hLo.lda 0 rfl (by kernel_rfl) _ rfl ?_ | refine hLo.lda 1 rfl (by kernel_rfl) _ rfl ?_ | refine hLo.lda 2 rfl (by kernel_rfl) _ rfl ?_ | refine hLo.lda 3 rfl (by kernel_rfl) _ rfl ?_ | refine hLo.lda 4 rfl (by kernel_rfl) _ rfl ?_ | refine hLo.lda 5 rfl (by kernel_rfl) _ rfl ?_ | refine hLo.lda 6 rfl (by kernel_rfl) _ rfl ?_ | refine hLo.lda 7 rfl (by kernel_rfl) _ rfl ?_))
    (first | refine hL.st 0 _ rfl (by kernel_rfl) rfl (Nat.le_of_ble_eq_true rfl) rfl rfl fun S4 hL hn4 => ?_ | refine hL.st 1 _ rfl (by kernel_rfl) rfl (Nat.le_of_ble_eq_true rfl) rfl rfl fun S4 hL hn4 => ?_ | refine hL.st 2 _ rfl (by kernel_rfl) rfl (Nat.le_of_ble_eq_true rfl) rfl rfl fun S4 hL hn4 => ?_ | refine hL.st 3 _ rfl (by kernel_rfl) rfl (Nat.le_of_ble_eq_true rfl) rfl rfl fun S4 hL hn4 => ?_ | refine hL.st 4 _ rfl (by kernel_rfl) rfl (Nat.le_of_ble_eq_true rfl) rfl rfl fun S4 hL hn4 => ?_ | refine hL.st 5 _ rfl (by kernel_rfl) rfl (Nat.le_of_ble_eq_true rfl) rfl rfl fun S4 hL hn4 => ?_ | refine hL.st 6 _ rfl (by kernel_rfl) rfl (Nat.le_of_ble_eq_true rfl) rfl rfl fun S4 hL hn4 => ?_ | refine hL.st 7 _ rfl (by kernel_rfl) rfl (Nat.le_of_ble_eq_true rfl) rfl rfl fun S4 hL hn4 => ?_)
    repeat (first | refine ptrW_of ?_ | refine sameV_of ?_ | (first | refine hL.ld 0 rfl (by kernel_rfl) _ rfl ?_ | refine hL.ld 1 rfl (by kernel_rfl) _ rfl ?_ | refine hL.ld 2 rfl (by kernel_rfl) _ rfl ?_ | refine hL.ld 3 rfl (by kernel_rfl) _ rfl ?_ | refine hL.ld 4 rfl (by kernel_rfl) _ rfl ?_ | refine hL.ld 5 rfl (by kernel_rfl) _ rfl ?_ | refine hL.ld 6 rfl (by kernel_rfl) _ rfl ?_ | refine hL.ld 7 rfl (by kernel_rfl) _ rfl ?_ | refine hL.lda 0 rfl (by kernel_rfl) _ rfl ?_ | refine hL.lda 1 rfl (by kernel_rfl) _ rfl ?_ | refine hL.lda 2 rfl (by kernel_rfl) _ rfl ?_ | refine hL.lda 3 rfl (by kernel_rfl) _ rfl ?_ | refine hL.lda 4 rfl (by kernel_rfl) _ rfl ?_ | refine hL.lda 5 rfl (by kernel_rfl) _ rfl ?_ | refine hL.lda 6 rfl (by kernel_rfl) _ rfl ?_ | refine hL.lda 7 rfl (by kernel_rfl) _ rfl ?_) | (first | refine hLo.ld 0 rfl (by kernel_rfl) _ rfl ?_ | refine hLo.ld 1 rfl (by kernel_rfl) _ rfl ?_ | refine hLo.ld 2 rfl (by kernel_rfl) _ rfl ?_ | refine hLo.ld 3 rfl (by kernel_rfl) _ rfl ?_ | refine hLo.ld 4 rfl (by kernel_rfl) _ rfl ?_ | refine hLo.ld 5 rfl (by kernel_rfl) _ rfl ?_ | refine hLo.ld 6 rfl (by kernel_rfl) _ rfl ?_ | refine hLo.ld 7 rfl (by kernel_rfl) _ rfl ?_ | refine hLo.lda 0 rfl (by kernel_rfl) _ rfl ?_ | refine hLo.lda 1 rfl (by kernel_rfl) _ rfl ?_ | refine hLo.lda 2 rfl (by kernel_rfl) _ rfl ?_ | refine hLo.lda 3 rfl (by kernel_rfl) _ rfl ?_ | refine hLo.lda 4 rfl (by kernel_rfl) _ rfl ?_ | refine hLo.lda 5 rfl (by kernel_rfl) _ rfl ?_ | refine hLo.lda 6 rfl (by kernel_rfl) _ rfl ?_ | refine hLo.lda 7 rfl (by kernel_rfl) _ rfl ?_))
    refine app_dat hL.p.2 hsp (by omega) fun d S5 hdat e5 => ?_
    obtain ⟨o, q1, q2, q3⟩ := hdat.b
    have en := e5.next
    obtain ⟨⟨p1, p2⟩, _⟩ := hL.p
    have hP : LsRD (bb + 1) s fl st.l ow d dl o S5 := ⟨e5.grX p1 fun _ _ _ h => h, p2.mod e5.kp fun _ _ h => h, q1⟩
    have hL := hL.op (P' := LsRD (bb + 1) s fl st.l ow d dl o) e5 (fun _ h => h.elim) (fun _ h => h.elim) hP LsRD.frm (fun c hc => by
      rcases hc with hc | hc | hc
      · exact .inl (.inl (.inl hc))
      · exact .inl (.inl (.inr hc))
      · exact .inr (q2 c hc)) (fun c hc => hP.lt hc)
    refine ptrW_of ?_
    (first | refine hL.st 0 _ rfl (by kernel_rfl) rfl (Nat.le_of_ble_eq_true rfl) rfl rfl fun S6 hL hn6 => ?_ | refine hL.st 1 _ rfl (by kernel_rfl) rfl (Nat.le_of_ble_eq_true rfl) rfl rfl fun S6 hL hn6 => ?_ | refine hL.st 2 _ rfl (by kernel_rfl) rfl (Nat.le_of_ble_eq_true rfl) rfl rfl fun S6 hL hn6 => ?_ | refine hL.st 3 _ rfl (by kernel_rfl) rfl (Nat.le_of_ble_eq_true rfl) rfl rfl fun S6 hL hn6 => ?_ | refine hL.st 4 _ rfl (by kernel_rfl) rfl (Nat.le_of_ble_eq_true rfl) rfl rfl fun S6 hL hn6 => ?_ | refine hL.st 5 _ rfl (by kernel_rfl) rfl (Nat.le_of_ble_eq_true rfl) rfl rfl fun S6 hL hn6 => ?_ | refine hL.st 6 _ rfl (by kernel_rfl) rfl (Nat.le_of_ble_eq_true rfl) rfl rfl fun S6 hL hn6 => ?_ | refine hL.st 7 _ rfl (by kernel_rfl) rfl (Nat.le_of_ble_eq_true rfl) rfl rfl fun S6 hL hn6 => ?_)
    refine ptrW_of (ptrW_of ?_)
    have hb6 := (hL.at 1 rfl).lt
    (first | refine hL.ld 0 rfl (by kernel_rfl) _ rfl ?_ | refine hL.ld 1 rfl (by kernel_rfl) _ rfl ?_ | refine hL.ld 2 rfl (by kernel_rfl) _ rfl ?_ | refine hL.ld 3 rfl (by kernel_rfl) _ rfl ?_ | refine hL.ld 4 rfl (by kernel_rfl) _ rfl ?_ | refine hL.ld 5 rfl (by kernel_rfl) _ rfl ?_ | refine hL.ld 6 rfl (by kernel_rfl) _ rfl ?_ | refine hL.ld 7 rfl (by kernel_rfl) _ rfl ?_ | refine hL.lda 0 rfl (by kernel_rfl) _ rfl ?_ | refine hL.lda 1 rfl (by kernel_rfl) _ rfl ?_ | refine hL.lda 2 rfl (by kernel_rfl) _ rfl ?_ | refine hL.lda 3 rfl (by kernel_rfl) _ rfl ?_ | refine hL.lda 4 rfl (by kernel_rfl) _ rfl ?_ | refine hL.lda 5 rfl (by kernel_rfl) _ rfl ?_ | refine hL.lda 6 rfl (by kernel_rfl) _ rfl ?_ | refine hL.lda 7 rfl (by kernel_rfl) _ rfl ?_)
    (first | refine hL.ld 0 rfl (by kernel_rfl) _ rfl ?_ | refine hL.ld 1 rfl (by kernel_rfl) _ rfl ?_ | refine hL.ld 2 rfl (by kernel_rfl) _ rfl ?_ | refine hL.ld 3 rfl (by kernel_rfl) _ rfl ?_ | refine hL.ld 4 rfl (by kernel_rfl) _ rfl ?_ | refine hL.ld 5 rfl (by kernel_rfl) _ rfl ?_ | refine hL.ld 6 rfl (by kernel_rfl) _ rfl ?_ | refine hL.ld 7 rfl (by kernel_rfl) _ rfl ?_ | refine hL.lda 0 rfl (by kernel_rfl) _ rfl ?_ | refine hL.lda 1 rfl (by kernel_rfl) _ rfl ?_ | refine hL.lda 2 rfl (by kernel_rfl) _ rfl ?_ | refine hL.lda 3 rfl (by kernel_rfl) _ rfl ?_ | refine hL.lda 4 rfl (by kernel_rfl) _ rfl ?_ | refine hL.lda 5 rfl (by kernel_rfl) _ rfl ?_ | refine hL.lda 6 rfl (by kernel_rfl) _ rfl ?_ | refine hL.lda 7 rfl (by kernel_rfl) _ rfl ?_)
    refine hL.newX fun b40 S9 hL hb40 hn8 e8 => ?_
    (first | refine hL.ld 0 rfl (by kernel_rfl) _ rfl ?_ | refine hL.ld 1 rfl (by kernel_rfl) _ rfl ?_ | refine hL.ld 2 rfl (by kernel_rfl) _ rfl ?_ | refine hL.ld 3 rfl (by kernel_rfl) _ rfl ?_ | refine hL.ld 4 rfl (by kernel_rfl) _ rfl ?_ | refine hL.ld 5 rfl (by kernel_rfl) _ rfl ?_ | refine hL.ld 6 rfl (by kernel_rfl) _ rfl ?_ | refine hL.ld 7 rfl (by kernel_rfl) _ rfl ?_ | refine hL.lda 0 rfl (by kernel_rfl) _ rfl ?_ | refine hL.lda 1 rfl (by kernel_rfl) _ rfl ?_ | refine hL.lda 2 rfl (by kernel_rfl) _ rfl ?_ | refine hL.lda 3 rfl (by kernel_rfl) _ rfl ?_ | refine hL.lda 4 rfl (by kernel_rfl) _ rfl ?_ | refine hL.lda 5 rfl (by kernel_rfl) _ rfl ?_ | refine hL.lda 6 rfl (by kernel_rfl) _ rfl ?_ | refine hL.lda 7 rfl (by kernel_rfl) _ rfl ?_)
    refine sameV_of ?_
    obtain ⟨p1, p2, p3⟩ := hL.p
    have hfr := fun c (hc : c ∈ blk s ∨ c ∈ ow ∨ c ∈ o) => hL.lt c hc
    have hn0 := hL.mod.next
    refine p1.add (v := (st.last + 1, x2, x3, d, x5)) (hL.at 0 rfl) (by omega) (fun s2 S10 g10 m10 f10 => ?_) (by omega)
    have hnw : ∀ b, b ∈ ow ∨ b ∈ o → ¬ (bb + 1 ≤ b ∧ s.a = some ⟨b, 0, none⟩) := fun b hb hc => by
      obtain ⟨cs, h, _⟩ := p1.bk (p1.bk_mem hc.2)
      rcases hb with hb | hb
      · obtain ⟨x, h', hx⟩ := p2.blk hb
        rw [at_inj h' h] at hx; cases hx
      · obtain ⟨x, h', hx⟩ := p3.blk hb
        rw [at_inj h' h] at hx; cases hx
    have hp2 := p2.mod m10.kp fun b hb => hnw b (.inl hb)
    have hp3 := mod_datB m10.kp p3 fun b hb => hnw b (.inr hb)
    have hP : LsR (bb + 1) s2 (fl ++ [fltOf (st.last + 1, x2, x3, dl, x5) d]) (st.l ++ [(st.last + 1, x2, x3, dl, x5)]) (ow ++ o) S10 := ⟨g10, hp2.app (.one hp3)⟩
    have hblk2 : ∀ c ∈ blk s2, c ∈ blk s ∨ S9.next ≤ c := fun c hc => by
      rcases f10 with f | ⟨b, f, hb⟩
      · left; rw [← blk_a f]; exact hc
      · right; unfold blk at hc; rw [f] at hc; simp only [List.mem_cons, List.not_mem_nil, or_false] at hc; omega
    have hL := hL.op (P' := LsR (bb + 1) s2 (fl ++ [fltOf (st.last + 1, x2, x3, dl, x5) d]) (st.l ++ [(st.last + 1, x2, x3, dl, x5)]) (ow ++ o)) m10 (fun c hc => .inl (p1.bk_mem hc.2)) (fun c hc hlt => by simp [p1.bk_mem hc.2]) hP LsR.frm (fun c hc => by
      rcases hc with hc | hc
      · exact (hblk2 c hc).imp (.inl) id
      · rcases List.mem_append.1 hc with hc | hc
        · exact .inl (.inr (.inl hc))
        · exact .inl (.inr (.inr hc))) (fun c hc => by
      rcases hc with hc | hc
      · obtain ⟨cs, h, _⟩ := hP.1.bk hc; exact h.lt
      · obtain ⟨x, h, _⟩ := hP.2.blk hc; exact h.lt)
    refine ptrW_of (ptrW_of ?_)
    (first | refine hL.st 0 _ rfl (by kernel_rfl) rfl (Nat.le_of_ble_eq_true rfl) rfl rfl fun S11 hL hn11 => ?_ | refine hL.st 1 _ rfl (by kernel_rfl) rfl (Nat.le_of_ble_eq_true rfl) rfl rfl fun S11 hL hn11 => ?_ | refine hL.st 2 _ rfl (by kernel_rfl) rfl (Nat.le_of_ble_eq_true rfl) rfl rfl fun S11 hL hn11 => ?_ | refine hL.st 3 _ rfl (by kernel_rfl) rfl (Nat.le_of_ble_eq_true rfl) rfl rfl fun S11 hL hn11 => ?_ | refine hL.st 4 _ rfl (by kernel_rfl) rfl (Nat.le_of_ble_eq_true rfl) rfl rfl fun S11 hL hn11 => ?_ | refine hL.st 5 _ rfl (by kernel_rfl) rfl (Nat.le_of_ble_eq_true rfl) rfl rfl fun S11 hL hn11 => ?_ | refine hL.st 6 _ rfl (by kernel_rfl) rfl (Nat.le_of_ble_eq_true rfl) rfl rfl fun S11 hL hn11 => ?_ | refine hL.st 7 _ rfl (by kernel_rfl) rfl (Nat.le_of_ble_eq_true rfl) rfl rfl fun S11 hL hn11 => ?_)
    repeat (first | refine ptrW_of ?_ | refine sameV_of ?_ | (first | refine hL.ld 0 rfl (by kernel_rfl) _ rfl ?_ | refine hL.ld 1 rfl (by kernel_rfl) _ rfl ?_ | refine hL.ld 2 rfl (by kernel_rfl) _ rfl ?_ | refine hL.ld 3 rfl (by kernel_rfl) _ rfl ?_ | refine hL.ld 4 rfl (by kernel_rfl) _ rfl ?_ | refine hL.ld 5 rfl (by kernel_rfl) _ rfl ?_ | refine hL.ld 6 rfl (by kernel_rfl) _ rfl ?_ | refine hL.ld 7 rfl (by kernel_rfl) _ rfl ?_ | refine hL.lda 0 rfl (by kernel_rfl) _ rfl ?_ | refine hL.lda 1 rfl (by kernel_rfl) _ rfl ?_ | refine hL.lda 2 rfl (by kernel_rfl) _ rfl ?_ | refine hL.lda 3 rfl (by kernel_rfl) _ rfl ?_ | refine hL.lda 4 rfl (by kernel_rfl) _ rfl ?_ | refine hL.lda 5 rfl (by kernel_rfl) _ rfl ?_ | refine hL.lda 6 rfl (by kernel_rfl) _ rfl ?_ | refine hL.lda 7 rfl (by kernel_rfl) _ rfl ?_) | (first | refine hLo.ld 0 rfl (by kernel_rfl) _ rfl ?_ | refine hLo.ld 1 rfl (by kernel_rfl) _ rfl ?_ | refine hLo.ld 2 rfl (by kernel_rfl) _ rfl ?_ | refine hLo.ld 3 rfl (by kernel_rfl) _ rfl ?_ | refine hLo.ld 4 rfl (by kernel_rfl) _ rfl ?_ | refine hLo.ld 5 rfl (by kernel_rfl) _ rfl ?_ | refine hLo.ld 6 rfl (by kernel_rfl) _ rfl ?_ | refine hLo.ld 7 rfl (by kernel_rfl) _ rfl ?_ | refine hLo.lda 0 rfl (by kernel_rfl) _ rfl ?_ | refine hLo.lda 1 rfl (by kernel_rfl) _ rfl ?_ | refine hLo.lda 2 rfl (by kernel_rfl) _ rfl ?_ | refine hLo.lda 3 rfl (by kernel_rfl) _ rfl ?_ | refine hLo.lda 4 rfl (by kernel_rfl) _ rfl ?_ | refine hLo.lda 5 rfl (by kernel_rfl) _ rfl ?_ | refine hLo.lda 6 rfl (by kernel_rfl) _ rfl ?_ | refine hLo.lda 7 rfl (by kernel_rfl) _ rfl ?_))
    refine hk (bb :: (blk s2 ++ (ow ++ o))) S11 ⟨s2, _, ow ++ o, hL.at 2 rfl, hL.p.1, hL.p.2, ?_, rfl⟩ ?_ hL.mod
    · rw [List.nodup_append]
      refine ⟨h4, q3, fun a ha b hb e => ?_⟩
      subst e
      have h1 := q2 a hb
      obtain ⟨x, hx, _⟩ := h3.blk ha
      have := hx.lt
      omega
    · intro c hc
      simp only [List.mem_cons, List.mem_append] at hc ⊢
      rcases hc with hc | hc | hc | hc
      · exact .inl (.inl hc)
      · rcases hblk2 c hc with h | h
        · exact .inl (.inr (.inl h))
        · exact .inr (by omega)
      · exact .inl (.inr (.inr hc))
      · have := q2 c hc; exact .inr (by omega)
end
end Go.Proofs.Ytcookjolkhcjhaa

/- Bags: the document's own: sent, delivered, dropped, doubled. -/
namespace Go.Proofs.Ytcookjolkhcjhaa
open Go Go.Proofs.Ytcookjolkhcjhaa.D
set_option linter.unusedVariables false
set_option linter.unusedSimpArgs false
noncomputable section

theorem b59 {S : St} {bb m : Nat} {st : BagS} {own : List Nat} {fr to : Int} {da : Sl} {d : List Int} {k : Value → St → Prop} (h : BagIs S bb st own) (ok : BagOk m st) (hm : m < 1000000)
    (hd : SlOf cellB 1 S da d) (hsp : ∀ a, da.a = some a → a.spot = none) (hne : d ≠ [] → ∀ b o, da.a = some ⟨b, o, none⟩ → b ≠ bb) (hl : d.length ≤ 60)
    (hk : ∀ own' S', BagIs S' bb (sendS st fr to d).2 own' → (∀ c ∈ own', c ∈ own ∨ S.next ≤ c) → Mod (fun b => b ∈ own) S S' → k (.int .i64 (sendS st fr to d).1) S') :
    WC E0 59 [.pointer (some ⟨bb, 0, none⟩), .int .i64 fr, .int .i64 to, .slice da.a da.len da.cap] S k := by
  obtain ⟨s, fl, ow, h1, h2, h3, h4, rfl⟩ := h
  have o1 := ok.c1
  refine w59 _ fr to da ?_
  unfold c59
  have hL := bag_cx2 h1 h2 h3 hd hne
  repeat (first | refine ptrW_of ?_ | refine sameV_of ?_ | (first | refine hL.ld 0 rfl (by kernel_rfl) _ rfl ?_ | refine hL.ld 1 rfl (by kernel_rfl) _ rfl ?_ | refine hL.ld 2 rfl (by kernel_rfl) _ rfl ?_ | refine hL.ld 3 rfl (by kernel_rfl) _ rfl ?_ | refine hL.ld 4 rfl (by kernel_rfl) _ rfl ?_ | refine hL.ld 5 rfl (by kernel_rfl) _ rfl ?_ | refine hL.ld 6 rfl (by kernel_rfl) _ rfl ?_ | refine hL.ld 7 rfl (by kernel_rfl) _ rfl ?_ | refine hL.lda 0 rfl (by kernel_rfl) _ rfl ?_ | refine hL.lda 1 rfl (by kernel_rfl) _ rfl ?_ | refine hL.lda 2 rfl (by kernel_rfl) _ rfl ?_ | refine hL.lda 3 rfl (by kernel_rfl) _ rfl ?_ | refine hL.lda 4 rfl (by kernel_rfl) _ rfl ?_ | refine hL.lda 5 rfl (by kernel_rfl) _ rfl ?_ | refine hL.lda 6 rfl (by kernel_rfl) _ rfl ?_ | refine hL.lda 7 rfl (by kernel_rfl) _ rfl ?_) | (first | refine hLo.ld 0 rfl (by kernel_rfl) _ rfl ?_ | refine hLo.ld 1 rfl (by kernel_rfl) _ rfl ?_ | refine hLo.ld 2 rfl (by kernel_rfl) _ rfl ?_ | refine hLo.ld 3 rfl (by kernel_rfl) _ rfl ?_ | refine hLo.ld 4 rfl (by kernel_rfl) _ rfl ?_ | refine hLo.ld 5 rfl (by kernel_rfl) _ rfl ?_ | refine hLo.ld 6 rfl (by kernel_rfl) _ rfl ?_ | refine hLo.ld 7 rfl (by kernel_rfl) _ rfl ?_ | refine hLo.lda 0 rfl (by kernel_rfl) _ rfl ?_ | refine hLo.lda 1 rfl (by kernel_rfl) _ rfl ?_ | refine hLo.lda 2 rfl (by kernel_rfl) _ rfl ?_ | refine hLo.lda 3 rfl (by kernel_rfl) _ rfl ?_ | refine hLo.lda 4 rfl (by kernel_rfl) _ rfl ?_ | refine hLo.lda 5 rfl (by kernel_rfl) _ rfl ?_ | refine hLo.lda 6 rfl (by kernel_rfl) _ rfl ?_ | refine hLo.lda 7 rfl (by kernel_rfl) _ rfl ?_))
  rw [wrap_i64 (by omega) (by omega)]
  (first | refine hL.st 0 _ rfl (by kernel_rfl) rfl (Nat.le_of_ble_eq_true rfl) rfl rfl fun S1 hL hn1 => ?_ | refine hL.st 1 _ rfl (by kernel_rfl) rfl (Nat.le_of_ble_eq_true rfl) rfl rfl fun S1 hL hn1 => ?_ | refine hL.st 2 _ rfl (by kernel_rfl) rfl (Nat.le_of_ble_eq_true rfl) rfl rfl fun S1 hL hn1 => ?_ | refine hL.st 3 _ rfl (by kernel_rfl) rfl (Nat.le_of_ble_eq_true rfl) rfl rfl fun S1 hL hn1 => ?_ | refine hL.st 4 _ rfl (by kernel_rfl) rfl (Nat.le_of_ble_eq_true rfl) rfl rfl fun S1 hL hn1 => ?_ | refine hL.st 5 _ rfl (by kernel_rfl) rfl (Nat.le_of_ble_eq_true rfl) rfl rfl fun S1 hL hn1 => ?_ | refine hL.st 6 _ rfl (by kernel_rfl) rfl (Nat.le_of_ble_eq_true rfl) rfl rfl fun S1 hL hn1 => ?_ | refine hL.st 7 _ rfl (by kernel_rfl) rfl (Nat.le_of_ble_eq_true rfl) rfl rfl fun S1 hL hn1 => ?_)
  have hB : BagIs S1 bb ⟨st.l, st.last, (st.c.1 + 1, st.c.2)⟩ (bb :: (blk s ++ ow)) := ⟨s, fl, ow, hL.at 0 rfl, hL.p.1.1, hL.p.1.2, h4, rfl⟩
  have okB : BagOk (m + 1) ⟨st.l, st.last, (st.c.1 + 1, st.c.2)⟩ := by have h' := ok.mono (Nat.le_succ m); exact ⟨h'.len, h'.last, by have := ok.c1; simp only; omega, h'.c2, h'.c3, h'.c4, h'.c5, h'.c6, h'.dat⟩
  have hn := hL.mod.next
  exact evC_of (b71 (x := (0, fr, to, da, false)) hB okB (by omega) hL.p.2 hsp hne hl fun own' S' a1 a2 a3 => ⟨_, rfl, hk own' S' a1 (fun c hc => (a2 c hc).imp id fun h => by omega) (hL.mod.trans a3 fun b h _ => h)⟩)
theorem b62 {S : St} {bb m : Nat} {st : BagS} {own : List Nat} {n : Int} {k : Value → St → Prop} (h : BagIs S bb st own) (ok : BagOk m st) (hm : m < 1000000)
    (hk : ∀ own' S', BagIs S' bb (doubleS st n).2 own' → (∀ c ∈ own', c ∈ own ∨ S.next ≤ c) → Mod (fun b => b ∈ own) S S' → k (.tuple #[.int .i64 (doubleS st n).1.1, .int .i64 (doubleS st n).1.2]) S') :
    WC E0 62 [.pointer (some ⟨bb, 0, none⟩), .int .i64 n] S k := by
  have h0 := h
  refine w62 _ n ?_
  unfold c62
  refine evC_of (b39 h ok ⟨_, rfl, ?_⟩)
  unfold doubleS at hk
  unfold idxI
  cases hi : idxS st.l n with
  | none =>
    rw [hi] at hk
    refine ifW_pos (by decide) ?_
    exact hk own S h (fun c hc => .inl hc) (Mod.refl _ _)
  | some i =>
    rw [hi] at hk
    obtain ⟨hil, _, _⟩ := idxS_lt hi
    simp only [List.getElem?_eq_getElem hil] at hk
    refine ifW_neg (by dsimp only; omega) ?_
    dsimp only
    obtain ⟨s, fl, ow, h1, h2, h3, h4, rfl⟩ := h
    have o1 := ok.c4
    have hL := bag_cx h1 h2 h3
    repeat (first | refine ptrW_of ?_ | refine sameV_of ?_ | (first | refine hL.ld 0 rfl (by kernel_rfl) _ rfl ?_ | refine hL.ld 1 rfl (by kernel_rfl) _ rfl ?_ | refine hL.ld 2 rfl (by kernel_rfl) _ rfl ?_ | refine hL.ld 3 rfl (by kernel_rfl) _ rfl ?_ | refine hL.ld 4 rfl (by kernel_rfl) _ rfl ?_ | refine hL.ld 5 rfl (by kernel_rfl) _ rfl ?_ | refine hL.ld 6 rfl (by kernel_rfl) _ rfl ?_ | refine hL.ld 7 rfl (by kernel_rfl) _ rfl ?_ | refine hL.lda 0 rfl (by kernel_rfl) _ rfl ?_ | refine hL.lda 1 rfl (by kernel_rfl) _ rfl ?_ | refine hL.lda 2 rfl (by kernel_rfl) _ rfl ?_ | refine hL.lda 3 rfl (by kernel_rfl) _ rfl ?_ | refine hL.lda 4 rfl (by kernel_rfl) _ rfl ?_ | refine hL.lda 5 rfl (by kernel_rfl) _ rfl ?_ | refine hL.lda 6 rfl (by kernel_rfl) _ rfl ?_ | refine hL.lda 7 rfl (by kernel_rfl) _ rfl ?_) | (first | refine hLo.ld 0 rfl (by kernel_rfl) _ rfl ?_ | refine hLo.ld 1 rfl (by kernel_rfl) _ rfl ?_ | refine hLo.ld 2 rfl (by kernel_rfl) _ rfl ?_ | refine hLo.ld 3 rfl (by kernel_rfl) _ rfl ?_ | refine hLo.ld 4 rfl (by kernel_rfl) _ rfl ?_ | refine hLo.ld 5 rfl (by kernel_rfl) _ rfl ?_ | refine hLo.ld 6 rfl (by kernel_rfl) _ rfl ?_ | refine hLo.ld 7 rfl (by kernel_rfl) _ rfl ?_ | refine hLo.lda 0 rfl (by kernel_rfl) _ rfl ?_ | refine hLo.lda 1 rfl (by kernel_rfl) _ rfl ?_ | refine hLo.lda 2 rfl (by kernel_rfl) _ rfl ?_ | refine hLo.lda 3 rfl (by kernel_rfl) _ rfl ?_ | refine hLo.lda 4 rfl (by kernel_rfl) _ rfl ?_ | refine hLo.lda 5 rfl (by kernel_rfl) _ rfl ?_ | refine hLo.lda 6 rfl (by kernel_rfl) _ rfl ?_ | refine hLo.lda 7 rfl (by kernel_rfl) _ rfl ?_))
    rw [wrap_i64 (by omega) (by omega)]
    (first | refine hL.st 0 _ rfl (by kernel_rfl) rfl (Nat.le_of_ble_eq_true rfl) rfl rfl fun S1 hL hn1 => ?_ | refine hL.st 1 _ rfl (by kernel_rfl) rfl (Nat.le_of_ble_eq_true rfl) rfl rfl fun S1 hL hn1 => ?_ | refine hL.st 2 _ rfl (by kernel_rfl) rfl (Nat.le_of_ble_eq_true rfl) rfl rfl fun S1 hL hn1 => ?_ | refine hL.st 3 _ rfl (by kernel_rfl) rfl (Nat.le_of_ble_eq_true rfl) rfl rfl fun S1 hL hn1 => ?_ | refine hL.st 4 _ rfl (by kernel_rfl) rfl (Nat.le_of_ble_eq_true rfl) rfl rfl fun S1 hL hn1 => ?_ | refine hL.st 5 _ rfl (by kernel_rfl) rfl (Nat.le_of_ble_eq_true rfl) rfl rfl fun S1 hL hn1 => ?_ | refine hL.st 6 _ rfl (by kernel_rfl) rfl (Nat.le_of_ble_eq_true rfl) rfl rfl fun S1 hL hn1 => ?_ | refine hL.st 7 _ rfl (by kernel_rfl) rfl (Nat.le_of_ble_eq_true rfl) rfl rfl fun S1 hL hn1 => ?_)
    repeat (first | refine ptrW_of ?_ | refine sameV_of ?_ | (first | refine hL.ld 0 rfl (by kernel_rfl) _ rfl ?_ | refine hL.ld 1 rfl (by kernel_rfl) _ rfl ?_ | refine hL.ld 2 rfl (by kernel_rfl) _ rfl ?_ | refine hL.ld 3 rfl (by kernel_rfl) _ rfl ?_ | refine hL.ld 4 rfl (by kernel_rfl) _ rfl ?_ | refine hL.ld 5 rfl (by kernel_rfl) _ rfl ?_ | refine hL.ld 6 rfl (by kernel_rfl) _ rfl ?_ | refine hL.ld 7 rfl (by kernel_rfl) _ rfl ?_ | refine hL.lda 0 rfl (by kernel_rfl) _ rfl ?_ | refine hL.lda 1 rfl (by kernel_rfl) _ rfl ?_ | refine hL.lda 2 rfl (by kernel_rfl) _ rfl ?_ | refine hL.lda 3 rfl (by kernel_rfl) _ rfl ?_ | refine hL.lda 4 rfl (by kernel_rfl) _ rfl ?_ | refine hL.lda 5 rfl (by kernel_rfl) _ rfl ?_ | refine hL.lda 6 rfl (by kernel_rfl) _ rfl ?_ | refine hL.lda 7 rfl (by kernel_rfl) _ rfl ?_) | (first | refine hLo.ld 0 rfl (by kernel_rfl) _ rfl ?_ | refine hLo.ld 1 rfl (by kernel_rfl) _ rfl ?_ | refine hLo.ld 2 rfl (by kernel_rfl) _ rfl ?_ | refine hLo.ld 3 rfl (by kernel_rfl) _ rfl ?_ | refine hLo.ld 4 rfl (by kernel_rfl) _ rfl ?_ | refine hLo.ld 5 rfl (by kernel_rfl) _ rfl ?_ | refine hLo.ld 6 rfl (by kernel_rfl) _ rfl ?_ | refine hLo.ld 7 rfl (by kernel_rfl) _ rfl ?_ | refine hLo.lda 0 rfl (by kernel_rfl) _ rfl ?_ | refine hLo.lda 1 rfl (by kernel_rfl) _ rfl ?_ | refine hLo.lda 2 rfl (by kernel_rfl) _ rfl ?_ | refine hLo.lda 3 rfl (by kernel_rfl) _ rfl ?_ | refine hLo.lda 4 rfl (by kernel_rfl) _ rfl ?_ | refine hLo.lda 5 rfl (by kernel_rfl) _ rfl ?_ | refine hLo.lda 6 rfl (by kernel_rfl) _ rfl ?_ | refine hLo.lda 7 rfl (by kernel_rfl) _ rfl ?_))
    have hB : BagIs S1 bb ⟨st.l, st.last, (st.c.1, st.c.2.1, st.c.2.2.1, st.c.2.2.2.1 + 1, st.c.2.2.2.2)⟩ (bb :: (blk s ++ ow)) := ⟨s, fl, ow, hL.at 0 rfl, hL.p.1, hL.p.2, h4, rfl⟩
    have okB : BagOk (m + 1) ⟨st.l, st.last, (st.c.1, st.c.2.1, st.c.2.2.1, st.c.2.2.2.1 + 1, st.c.2.2.2.2)⟩ := by
      have h' := ok.mono (Nat.le_succ m)
      exact ⟨h'.len, h'.last, h'.c1, h'.c2, h'.c3, by have := ok.c4; simp only; omega, h'.c5, h'.c6, h'.dat⟩
    obtain ⟨p1, p2⟩ := hL.p
    have g1 := hL.at 0 rfl
    have hfl := p2.len
    have hsl := p1.len
    obtain ⟨d, o, e9, d9, o9⟩ := p2.get i hil
    refine (GrX.of (f := cellsF) (sz := 5) (fun _ => rfl) p1).idxL (f := cellsF) (sz := 5) (fun _ => rfl) hsl (by omega) fun b4' o4 cs4 m4 r4 f4 at4 _ hv4 => ?_
    refine ⟨fl[i]'(by omega), load_agg at4 (n := 5) (by kernel_rfl) hv4 rfl, ?_⟩
    rw [e9]
    have hn := hL.mod.next
    refine evC_of (b71 (dl := st.l[i].2.2.2.1) hB okB (by omega) d9.of d9.sp (fun hne b o' hb => ?_) (ok.dat _ (List.getElem_mem _)) fun own' S9 q1 q2 q3 => ⟨_, rfl, ?_⟩)
    · rcases d9 with ⟨h, _⟩ | ⟨b', cap, more, rfl, h', hat, hmo⟩
      · exact (hne h).elim
      · simp only at hb; rw [h'] at hb; cases hb
        rcases hmo with rfl | ⟨h, _⟩
        · exact at_ne hat g1 (by simp)
        · exact (hne h).elim
    · exact hk own' S9 q1 (fun c hc => (q2 c hc).imp id fun h => by omega) (hL.mod.trans q3 fun b h _ => h)
/-- A list grows by a part of another one. -/
theorem Fls.addAll {N : Nat} {S : St} {s x : Sl} {l vs : List Flt} (h : Fls N S s l) (hv : SlOf cellsF 5 S x vs) (hsp : ∀ a, x.a = some a → a.spot = none) (hl : l.length + vs.length ≤ 512)
    {k : Sl → St → Prop} (hk : ∀ s' S', Fls N S' s' (l ++ vs) → Mod (fun b => N ≤ b ∧ s.a = some ⟨b, 0, none⟩) S S' → (s'.a = s.a ∨ ∃ b, s'.a = some ⟨b, 0, none⟩ ∧ S.next ≤ b) → k s' S') (hN : N ≤ S.next) :
    evP tS (appendD E0 S 55 55 (.slice s.a s.len s.cap) (.slice x.a x.len x.cap)) k := by
  have hb3 : (l.length + vs.length) * 5 < inex := by
    have : (l.length + vs.length) * 5 ≤ 2560 := by omega
    exact Nat.lt_of_le_of_lt this (by decide)
  exact GrX.appendS (f := cellsF) (sz := 5) (fun _ => rfl) (by omega) h hv hsp und55 inf67 und55 rfl (by kernel_rfl) zero67 rfl (oneF vs) (by rw [bytes67]; omega) (by omega) hb3 hk hN
/-- A bag while one is cut out. -/
def BagC (N : Nat) (s0 : Sl) (fl : List Flt) (s : Sl) (fla fl1 fl2 : List Flt) (l1 l2 : List Pk) (ow1 ow2 : List Nat) (d : Sl) (dl : List Int) (o : List Nat) (S : St) : Prop :=
  Fls N S s0 fl ∧ Fls N S s fla ∧ Pks S fl1 l1 ow1 ∧ DatB S d dl o ∧ Pks S fl2 l2 ow2
theorem BagC.frm {N : Nat} {s0 s : Sl} {fl fla fl1 fl2 : List Flt} {l1 l2 : List Pk} {ow1 ow2 : List Nat} {d : Sl} {dl : List Int} {o : List Nat} : Frm (fun c => c ∈ blk s0 ∨ c ∈ blk s ∨ c ∈ ow1 ∨ c ∈ o ∨ c ∈ ow2) (BagC N s0 fl s fla fl1 fl2 l1 l2 ow1 ow2 d dl o) :=
  Frm.conj (Frm.fls fun c h => .inl h) (Frm.conj (Frm.fls fun c h => .inr (.inl h)) (Frm.conj (Frm.pks fun c h => .inr (.inr (.inl h))) (Frm.conj (Frm.dat fun c h => .inr (.inr (.inr (.inl h)))) (Frm.pks fun c h => .inr (.inr (.inr (.inr h)))))))
theorem BagC.lt {N : Nat} {s0 s : Sl} {fl fla fl1 fl2 : List Flt} {l1 l2 : List Pk} {ow1 ow2 : List Nat} {d : Sl} {dl : List Int} {o : List Nat} {S : St} (h : BagC N s0 fl s fla fl1 fl2 l1 l2 ow1 ow2 d dl o S) {c : Nat} (hc : c ∈ blk s0 ∨ c ∈ blk s ∨ c ∈ ow1 ∨ c ∈ o ∨ c ∈ ow2) : c < S.next := by
  obtain ⟨h1, h2, h3, h4, h5⟩ := h
  rcases hc with hc | hc | hc | hc | hc
  · obtain ⟨cs, h, _⟩ := h1.bk hc; exact h.lt
  · obtain ⟨cs, h, _⟩ := h2.bk hc; exact h.lt
  · obtain ⟨x, h, _⟩ := h3.blk hc; exact h.lt
  · exact h4.lt hc
  · obtain ⟨x, h, _⟩ := h5.blk hc; exact h.lt
theorem b72 {S : St} {bb m i : Nat} {st : BagS} {own : List Nat} {k : Value → St → Prop} (h : BagIs S bb st own) (ok : BagOk m st) (hi : i < st.l.length)
    (hk : ∀ own' d o S', BagIs S' bb ⟨st.l.eraseIdx i, st.last, st.c⟩ own' → DatB S' d (st.l[i].2.2.2.1) o → (∀ c ∈ own', c ∈ own ∨ S.next ≤ c) → (∀ c ∈ o, c ∈ own ∧ c ∉ own') → Mod (fun b => b ∈ own) S S' → k (sv G66 (fltOf st.l[i] d)) S') :
    WC E0 72 [.pointer (some ⟨bb, 0, none⟩), .int .i64 (i : Int)] S k := by
  obtain ⟨s, fl, ow, h1, h2, h3, h4, rfl⟩ := h
  have hlen := h3.len
  have o1 := ok.len
  obtain ⟨fl1, p, d, fl2, l1, l2, ow1, o, ow2, q1, q2, q3, q4, q5, g1, g2, g3⟩ := h3.at i hi
  have ep : st.l[i] = p := by simp only [q4]; rw [List.getElem_append_right (by omega)]; simp [q2]
  have ex : fl[i]'(by omega) = fltOf p d := by simp only [q3]; rw [List.getElem_append_right (by omega)]; simp [q1]
  have el : st.l.eraseIdx i = l1 ++ l2 := by rw [q4, List.eraseIdx_append_of_length_le (by omega)]; simp [← q2]
  have et : fl.take i = fl1 := by rw [q3, List.take_left' q1]
  have ed : fl.drop (i + 1) = fl2 := by rw [q3, ← List.drop_drop, List.drop_left' q1]; rfl
  rw [ep, el] at hk
  have hfl12 : fl.length = fl1.length + (fl2.length + 1) := by rw [q3]; simp
  refine w72 _ _ ?_
  unfold c72
  rcases h2 with ⟨hnil, _⟩ | ⟨lb, rest, hlb, rfl, hat, hrest⟩
  · rw [hnil] at hlen; simp at hlen; omega
  have hbl : blk ⟨some ⟨lb, 0, none⟩, fl.length, inex⟩ = [lb] := rfl
  rw [hbl] at hk
  have h2 : Fls (bb + 1) S ⟨some ⟨lb, 0, none⟩, fl.length, inex⟩ fl := .inr ⟨lb, rest, hlb, rfl, hat, hrest⟩
  have hb0 := bag_cx h1 h2 h3
  have hC0 : BagC (bb + 1) ⟨some ⟨lb, 0, none⟩, fl.length, inex⟩ fl ⟨none, 0, 0⟩ [] fl1 fl2 l1 l2 ow1 ow2 d p.2.2.2.1 o S := ⟨h2, .inl ⟨rfl, rfl⟩, g1, g2, g3⟩
  have hL : Cx (fun c => c ∈ bb :: ([lb] ++ ow)) S S [(bb, bagO ⟨some ⟨lb, 0, none⟩, fl.length, inex⟩ st.last st.c)] _ (BagC (bb + 1) ⟨some ⟨lb, 0, none⟩, fl.length, inex⟩ fl ⟨none, 0, 0⟩ [] fl1 fl2 l1 l2 ow1 ow2 d p.2.2.2.1 o) :=
    hb0.as hC0 BagC.frm (fun c hc => by
      rcases hc with hc | hc | hc | hc | hc
      · exact .inl hc
      · cases hc
      · exact .inr (by simp [q5, hc])
      · exact .inr (by simp [q5, hc])
      · exact .inr (by simp [q5, hc]))
  have hbb := h1.lt
  refine hL.new fun b1 S1 hL hb1 hn1 => ?_
  refine ptrW_of (ptrW_of ?_)
  (first | refine hL.ld 0 rfl (by kernel_rfl) _ rfl ?_ | refine hL.ld 1 rfl (by kernel_rfl) _ rfl ?_ | refine hL.ld 2 rfl (by kernel_rfl) _ rfl ?_ | refine hL.ld 3 rfl (by kernel_rfl) _ rfl ?_ | refine hL.ld 4 rfl (by kernel_rfl) _ rfl ?_ | refine hL.ld 5 rfl (by kernel_rfl) _ rfl ?_ | refine hL.ld 6 rfl (by kernel_rfl) _ rfl ?_ | refine hL.ld 7 rfl (by kernel_rfl) _ rfl ?_ | refine hL.lda 0 rfl (by kernel_rfl) _ rfl ?_ | refine hL.lda 1 rfl (by kernel_rfl) _ rfl ?_ | refine hL.lda 2 rfl (by kernel_rfl) _ rfl ?_ | refine hL.lda 3 rfl (by kernel_rfl) _ rfl ?_ | refine hL.lda 4 rfl (by kernel_rfl) _ rfl ?_ | refine hL.lda 5 rfl (by kernel_rfl) _ rfl ?_ | refine hL.lda 6 rfl (by kernel_rfl) _ rfl ?_ | refine hL.lda 7 rfl (by kernel_rfl) _ rfl ?_)
  obtain ⟨p0, p1, p2, p3, p4⟩ := hL.p
  refine (GrX.of (f := cellsF) (sz := 5) (fun _ => rfl) p0).idxL (f := cellsF) (sz := 5) (l := fl) (n := i) (fun _ => rfl) rfl (by omega) fun b4' o4 cs4 m4 r4 f4 at4 _ hv4 => ?_
  refine ⟨fl[i]'(by omega), load_agg at4 (n := 5) (by kernel_rfl) hv4 rfl, ?_⟩
  rw [ex]
  refine hL.new fun b8 S2 hL hb8 hn2 => ?_
  (first | refine hL.st 0 _ rfl (by kernel_rfl) rfl (Nat.le_of_ble_eq_true rfl) rfl rfl fun S3 hL hn3 => ?_ | refine hL.st 1 _ rfl (by kernel_rfl) rfl (Nat.le_of_ble_eq_true rfl) rfl rfl fun S3 hL hn3 => ?_ | refine hL.st 2 _ rfl (by kernel_rfl) rfl (Nat.le_of_ble_eq_true rfl) rfl rfl fun S3 hL hn3 => ?_ | refine hL.st 3 _ rfl (by kernel_rfl) rfl (Nat.le_of_ble_eq_true rfl) rfl rfl fun S3 hL hn3 => ?_ | refine hL.st 4 _ rfl (by kernel_rfl) rfl (Nat.le_of_ble_eq_true rfl) rfl rfl fun S3 hL hn3 => ?_ | refine hL.st 5 _ rfl (by kernel_rfl) rfl (Nat.le_of_ble_eq_true rfl) rfl rfl fun S3 hL hn3 => ?_ | refine hL.st 6 _ rfl (by kernel_rfl) rfl (Nat.le_of_ble_eq_true rfl) rfl rfl fun S3 hL hn3 => ?_ | refine hL.st 7 _ rfl (by kernel_rfl) rfl (Nat.le_of_ble_eq_true rfl) rfl rfl fun S3 hL hn3 => ?_)
  repeat (first | refine ptrW_of ?_ | refine sameV_of ?_ | (first | refine hL.ld 0 rfl (by kernel_rfl) _ rfl ?_ | refine hL.ld 1 rfl (by kernel_rfl) _ rfl ?_ | refine hL.ld 2 rfl (by kernel_rfl) _ rfl ?_ | refine hL.ld 3 rfl (by kernel_rfl) _ rfl ?_ | refine hL.ld 4 rfl (by kernel_rfl) _ rfl ?_ | refine hL.ld 5 rfl (by kernel_rfl) _ rfl ?_ | refine hL.ld 6 rfl (by kernel_rfl) _ rfl ?_ | refine hL.ld 7 rfl (by kernel_rfl) _ rfl ?_ | refine hL.lda 0 rfl (by kernel_rfl) _ rfl ?_ | refine hL.lda 1 rfl (by kernel_rfl) _ rfl ?_ | refine hL.lda 2 rfl (by kernel_rfl) _ rfl ?_ | refine hL.lda 3 rfl (by kernel_rfl) _ rfl ?_ | refine hL.lda 4 rfl (by kernel_rfl) _ rfl ?_ | refine hL.lda 5 rfl (by kernel_rfl) _ rfl ?_ | refine hL.lda 6 rfl (by kernel_rfl) _ rfl ?_ | refine hL.lda 7 rfl (by kernel_rfl) _ rfl ?_) | (first | refine hLo.ld 0 rfl (by kernel_rfl) _ rfl ?_ | refine hLo.ld 1 rfl (by kernel_rfl) _ rfl ?_ | refine hLo.ld 2 rfl (by kernel_rfl) _ rfl ?_ | refine hLo.ld 3 rfl (by kernel_rfl) _ rfl ?_ | refine hLo.ld 4 rfl (by kernel_rfl) _ rfl ?_ | refine hLo.ld 5 rfl (by kernel_rfl) _ rfl ?_ | refine hLo.ld 6 rfl (by kernel_rfl) _ rfl ?_ | refine hLo.ld 7 rfl (by kernel_rfl) _ rfl ?_ | refine hLo.lda 0 rfl (by kernel_rfl) _ rfl ?_ | refine hLo.lda 1 rfl (by kernel_rfl) _ rfl ?_ | refine hLo.lda 2 rfl (by kernel_rfl) _ rfl ?_ | refine hLo.lda 3 rfl (by kernel_rfl) _ rfl ?_ | refine hLo.lda 4 rfl (by kernel_rfl) _ rfl ?_ | refine hLo.lda 5 rfl (by kernel_rfl) _ rfl ?_ | refine hLo.lda 6 rfl (by kernel_rfl) _ rfl ?_ | refine hLo.lda 7 rfl (by kernel_rfl) _ rfl ?_))
  obtain ⟨p0, p1, p2, p3, p4⟩ := hL.p
  rcases p0 with ⟨hnil, _⟩ | ⟨lb', rest', hlb', hs', hat3, hrest'⟩
  · rw [hnil] at hlen; simp at hlen; omega
  cases hs'
  have hf : ∀ x, (cellsF x).length = 5 := fun _ => rfl
  have hcs : (fl.flatMap cellsF ++ rest').length = fl.length * 5 + rest'.length := by rw [List.length_append, flat_len hf]
  have hr3 := roomD_at (o := 0) hat3 (by omega)
  rw [hcs] at hr3
  have hroom : Nat.max fl.length (roomD S3 lb 0 5) < inex := by
    show max fl.length (roomD S3 lb 0 5) < inex
    have : (fl.length * 5 + rest'.length - 0) / 5 ≤ fl.length * 5 + rest'.length := by omega
    omega
  have hmx : fl.length ≤ Nat.max fl.length (roomD S3 lb 0 5) := Nat.le_max_left _ _
  refine evV_of ⟨_, _, _⟩ (sliceD_grow (lo := 0) (hi := i) und55 size67 hat3 rfl (natOf_int (k := .i64)) (by omega) (Nat.le_trans (by omega : i ≤ fl.length) hmx) hroom) ?_
  have hsl : SlOf cellsF 5 S3 ⟨some ⟨lb, 0, none⟩, fl.length, inex⟩ fl := GrX.of (fun _ => rfl) (.inr ⟨lb, rest', hlb', rfl, hat3, hrest'⟩)
  have hsl1 : SlOf cellsF 5 S3 ⟨some ⟨lb, 0 + 0 * 5, none⟩, i - 0, inex⟩ fl1 := by
    have := hsl.part hf (lo := 0) (hi := i) (c := inex) (o' := 0 + 0 * 5) rfl (by omega) (by omega) (fun _ => rfl)
    rw [List.drop_zero, Nat.sub_zero, et] at this
    exact this
  have hn3 := hL.mod.next
  refine p1.addAll hsl1 (fun a h => by cases h; rfl) (by simp; omega) (fun s4 S4 t1 t2 t3 => ?_) (by omega)
  rw [List.nil_append] at t1
  have e4 : Ext S3 S4 := t2.mono fun b hb _ => by cases hb.2
  have hC4 : BagC (bb + 1) ⟨some ⟨lb, 0, none⟩, fl.length, inex⟩ fl s4 fl1 fl1 fl2 l1 l2 ow1 ow2 d p.2.2.2.1 o S4 :=
    ⟨.inr ⟨lb, rest', hlb', rfl, e4.at hat3, hrest'⟩, t1, p2.mod e4.kp fun _ _ h => h, mod_datB e4.kp p3 fun _ _ h => h, p4.mod e4.kp fun _ _ h => h⟩
  have hs4 : ∀ c ∈ blk s4, S3.next ≤ c := fun c hc => by
    rcases t3 with f | ⟨b, f, hb⟩
    · unfold blk at hc; rw [f] at hc; cases hc
    · unfold blk at hc; rw [f] at hc; simp only [List.mem_cons, List.not_mem_nil, or_false] at hc; omega
  have hL := hL.op (P' := BagC (bb + 1) ⟨some ⟨lb, 0, none⟩, fl.length, inex⟩ fl s4 fl1 fl1 fl2 l1 l2 ow1 ow2 d p.2.2.2.1 o) e4 (fun _ h => h.elim) (fun _ h => h.elim) hC4 BagC.frm (fun c hc => by
    rcases hc with hc | hc | hc | hc | hc
    · exact .inl (.inl hc)
    · exact .inr (hs4 c hc)
    · exact .inl (.inr (.inr (.inl hc)))
    · exact .inl (.inr (.inr (.inr (.inl hc))))
    · exact .inl (.inr (.inr (.inr (.inr hc))))) (fun c hc => hC4.lt hc)
  have hn4 := e4.next
  repeat (first | refine ptrW_of ?_ | refine sameV_of ?_ | (first | refine hL.ld 0 rfl (by kernel_rfl) _ rfl ?_ | refine hL.ld 1 rfl (by kernel_rfl) _ rfl ?_ | refine hL.ld 2 rfl (by kernel_rfl) _ rfl ?_ | refine hL.ld 3 rfl (by kernel_rfl) _ rfl ?_ | refine hL.ld 4 rfl (by kernel_rfl) _ rfl ?_ | refine hL.ld 5 rfl (by kernel_rfl) _ rfl ?_ | refine hL.ld 6 rfl (by kernel_rfl) _ rfl ?_ | refine hL.ld 7 rfl (by kernel_rfl) _ rfl ?_ | refine hL.lda 0 rfl (by kernel_rfl) _ rfl ?_ | refine hL.lda 1 rfl (by kernel_rfl) _ rfl ?_ | refine hL.lda 2 rfl (by kernel_rfl) _ rfl ?_ | refine hL.lda 3 rfl (by kernel_rfl) _ rfl ?_ | refine hL.lda 4 rfl (by kernel_rfl) _ rfl ?_ | refine hL.lda 5 rfl (by kernel_rfl) _ rfl ?_ | refine hL.lda 6 rfl (by kernel_rfl) _ rfl ?_ | refine hL.lda 7 rfl (by kernel_rfl) _ rfl ?_) | (first | refine hLo.ld 0 rfl (by kernel_rfl) _ rfl ?_ | refine hLo.ld 1 rfl (by kernel_rfl) _ rfl ?_ | refine hLo.ld 2 rfl (by kernel_rfl) _ rfl ?_ | refine hLo.ld 3 rfl (by kernel_rfl) _ rfl ?_ | refine hLo.ld 4 rfl (by kernel_rfl) _ rfl ?_ | refine hLo.ld 5 rfl (by kernel_rfl) _ rfl ?_ | refine hLo.ld 6 rfl (by kernel_rfl) _ rfl ?_ | refine hLo.ld 7 rfl (by kernel_rfl) _ rfl ?_ | refine hLo.lda 0 rfl (by kernel_rfl) _ rfl ?_ | refine hLo.lda 1 rfl (by kernel_rfl) _ rfl ?_ | refine hLo.lda 2 rfl (by kernel_rfl) _ rfl ?_ | refine hLo.lda 3 rfl (by kernel_rfl) _ rfl ?_ | refine hLo.lda 4 rfl (by kernel_rfl) _ rfl ?_ | refine hLo.lda 5 rfl (by kernel_rfl) _ rfl ?_ | refine hLo.lda 6 rfl (by kernel_rfl) _ rfl ?_ | refine hLo.lda 7 rfl (by kernel_rfl) _ rfl ?_))
  obtain ⟨p0, p1, p2, p3, p4⟩ := hL.p
  have hat4 := e4.at hat3
  have hr4 := roomD_at (o := 0) hat4 (by omega)
  rw [hcs] at hr4
  have hroom4 : Nat.max fl.length (roomD S4 lb 0 5) < inex := by rw [hr4, ← hr3]; exact hroom
  have hmx4 : fl.length ≤ Nat.max fl.length (roomD S4 lb 0 5) := Nat.le_max_left _ _
  rw [wrap_succ (by omega)]
  refine evV_of ⟨_, _, _⟩ (sliceD_grow (lo := i + 1) (hi := fl.length) und55 size67 hat4 (natOf_int (k := .i64)) rfl (by omega) hmx4 hroom4) ?_
  have hsl4 : SlOf cellsF 5 S4 ⟨some ⟨lb, 0, none⟩, fl.length, inex⟩ fl := e4.slOf hsl
  have hsl2 : SlOf cellsF 5 S4 ⟨some ⟨lb, 0 + (i + 1) * 5, none⟩, fl.length - (i + 1), inex⟩ fl2 := by
    have := hsl4.part hf (lo := i + 1) (hi := fl.length) (c := inex) (o' := 0 + (i + 1) * 5) rfl (by omega) (by omega) (fun _ => rfl)
    rw [ed, List.take_of_length_le (by omega)] at this
    exact this
  refine p1.addAll hsl2 (fun a h => by cases h; rfl) (by omega) (fun s7 S5 t1' t2' t3' => ?_) (by omega)
  have hs7 : ∀ c ∈ blk s7, S3.next ≤ c := fun c hc => by
    rcases t3' with f | ⟨b, f, hb⟩
    · exact hs4 c (by rw [← blk_a f]; exact hc)
    · unfold blk at hc; rw [f] at hc; simp only [List.mem_cons, List.not_mem_nil, or_false] at hc; omega
  have hF : ∀ c, (bb + 1 ≤ c ∧ s4.a = some ⟨c, 0, none⟩) → S3.next ≤ c := fun c hc => hs4 c (by unfold blk; rw [hc.2]; simp)
  have h1lt := fun c (hc : c ∈ bb :: ([lb] ++ ow)) => (show c < S.next by
    simp only [List.mem_cons, List.mem_append, List.not_mem_nil, or_false] at hc
    rcases hc with rfl | rfl | hc
    · exact h1.lt
    · exact hat.lt
    · obtain ⟨x, h, _⟩ := h3.blk hc; exact h.lt)
  have hC5 : BagC (bb + 1) ⟨some ⟨lb, 0, none⟩, fl.length, inex⟩ fl s7 (fl1 ++ fl2) fl1 fl2 l1 l2 ow1 ow2 d p.2.2.2.1 o S5 :=
    ⟨.inr ⟨lb, rest', hlb', rfl, t2'.at hat4 (fun h => by have := hF _ h; have := h1lt lb (by simp); omega), hrest'⟩, t1', p2.mod t2'.kp (fun c hc h => by have := hF _ h; have := h1lt c (by simp [q5, hc]); omega),
      mod_datB t2'.kp p3 (fun c hc h => by have := hF _ h; have := h1lt c (by simp [q5, hc]); omega), p4.mod t2'.kp (fun c hc h => by have := hF _ h; have := h1lt c (by simp [q5, hc]); omega)⟩
  have hL := hL.op (P' := BagC (bb + 1) ⟨some ⟨lb, 0, none⟩, fl.length, inex⟩ fl s7 (fl1 ++ fl2) fl1 fl2 l1 l2 ow1 ow2 d p.2.2.2.1 o) t2' (fun c hc => .inr (.inl (by unfold blk; rw [hc.2]; simp))) (fun c hc hlt => by have := hF c hc; omega) hC5 BagC.frm (fun c hc => by
    rcases hc with hc | hc | hc | hc | hc
    · exact .inl (.inl hc)
    · rcases t3' with f | ⟨b, f, hb⟩
      · exact .inl (.inr (.inl (by rw [← blk_a f]; exact hc)))
      · unfold blk at hc; rw [f] at hc; simp only [List.mem_cons, List.not_mem_nil, or_false] at hc; exact .inr (by omega)
    · exact .inl (.inr (.inr (.inl hc)))
    · exact .inl (.inr (.inr (.inr (.inl hc))))
    · exact .inl (.inr (.inr (.inr (.inr hc))))) (fun c hc => hC5.lt hc)
  refine ptrW_of (ptrW_of ?_)
  (first | refine hL.st 0 _ rfl (by kernel_rfl) rfl (Nat.le_of_ble_eq_true rfl) rfl rfl fun S6 hL hn6 => ?_ | refine hL.st 1 _ rfl (by kernel_rfl) rfl (Nat.le_of_ble_eq_true rfl) rfl rfl fun S6 hL hn6 => ?_ | refine hL.st 2 _ rfl (by kernel_rfl) rfl (Nat.le_of_ble_eq_true rfl) rfl rfl fun S6 hL hn6 => ?_ | refine hL.st 3 _ rfl (by kernel_rfl) rfl (Nat.le_of_ble_eq_true rfl) rfl rfl fun S6 hL hn6 => ?_ | refine hL.st 4 _ rfl (by kernel_rfl) rfl (Nat.le_of_ble_eq_true rfl) rfl rfl fun S6 hL hn6 => ?_ | refine hL.st 5 _ rfl (by kernel_rfl) rfl (Nat.le_of_ble_eq_true rfl) rfl rfl fun S6 hL hn6 => ?_ | refine hL.st 6 _ rfl (by kernel_rfl) rfl (Nat.le_of_ble_eq_true rfl) rfl rfl fun S6 hL hn6 => ?_ | refine hL.st 7 _ rfl (by kernel_rfl) rfl (Nat.le_of_ble_eq_true rfl) rfl rfl fun S6 hL hn6 => ?_)
  (first | refine hL.ld 0 rfl (by kernel_rfl) _ rfl ?_ | refine hL.ld 1 rfl (by kernel_rfl) _ rfl ?_ | refine hL.ld 2 rfl (by kernel_rfl) _ rfl ?_ | refine hL.ld 3 rfl (by kernel_rfl) _ rfl ?_ | refine hL.ld 4 rfl (by kernel_rfl) _ rfl ?_ | refine hL.ld 5 rfl (by kernel_rfl) _ rfl ?_ | refine hL.ld 6 rfl (by kernel_rfl) _ rfl ?_ | refine hL.ld 7 rfl (by kernel_rfl) _ rfl ?_ | refine hL.lda 0 rfl (by kernel_rfl) _ rfl ?_ | refine hL.lda 1 rfl (by kernel_rfl) _ rfl ?_ | refine hL.lda 2 rfl (by kernel_rfl) _ rfl ?_ | refine hL.lda 3 rfl (by kernel_rfl) _ rfl ?_ | refine hL.lda 4 rfl (by kernel_rfl) _ rfl ?_ | refine hL.lda 5 rfl (by kernel_rfl) _ rfl ?_ | refine hL.lda 6 rfl (by kernel_rfl) _ rfl ?_ | refine hL.lda 7 rfl (by kernel_rfl) _ rfl ?_)
  (first | refine hL.st 0 _ rfl (by kernel_rfl) rfl (Nat.le_of_ble_eq_true rfl) rfl rfl fun S7 hL hn7 => ?_ | refine hL.st 1 _ rfl (by kernel_rfl) rfl (Nat.le_of_ble_eq_true rfl) rfl rfl fun S7 hL hn7 => ?_ | refine hL.st 2 _ rfl (by kernel_rfl) rfl (Nat.le_of_ble_eq_true rfl) rfl rfl fun S7 hL hn7 => ?_ | refine hL.st 3 _ rfl (by kernel_rfl) rfl (Nat.le_of_ble_eq_true rfl) rfl rfl fun S7 hL hn7 => ?_ | refine hL.st 4 _ rfl (by kernel_rfl) rfl (Nat.le_of_ble_eq_true rfl) rfl rfl fun S7 hL hn7 => ?_ | refine hL.st 5 _ rfl (by kernel_rfl) rfl (Nat.le_of_ble_eq_true rfl) rfl rfl fun S7 hL hn7 => ?_ | refine hL.st 6 _ rfl (by kernel_rfl) rfl (Nat.le_of_ble_eq_true rfl) rfl rfl fun S7 hL hn7 => ?_ | refine hL.st 7 _ rfl (by kernel_rfl) rfl (Nat.le_of_ble_eq_true rfl) rfl rfl fun S7 hL hn7 => ?_)
  (first | refine hL.ld 0 rfl (by kernel_rfl) _ rfl ?_ | refine hL.ld 1 rfl (by kernel_rfl) _ rfl ?_ | refine hL.ld 2 rfl (by kernel_rfl) _ rfl ?_ | refine hL.ld 3 rfl (by kernel_rfl) _ rfl ?_ | refine hL.ld 4 rfl (by kernel_rfl) _ rfl ?_ | refine hL.ld 5 rfl (by kernel_rfl) _ rfl ?_ | refine hL.ld 6 rfl (by kernel_rfl) _ rfl ?_ | refine hL.ld 7 rfl (by kernel_rfl) _ rfl ?_ | refine hL.lda 0 rfl (by kernel_rfl) _ rfl ?_ | refine hL.lda 1 rfl (by kernel_rfl) _ rfl ?_ | refine hL.lda 2 rfl (by kernel_rfl) _ rfl ?_ | refine hL.lda 3 rfl (by kernel_rfl) _ rfl ?_ | refine hL.lda 4 rfl (by kernel_rfl) _ rfl ?_ | refine hL.lda 5 rfl (by kernel_rfl) _ rfl ?_ | refine hL.lda 6 rfl (by kernel_rfl) _ rfl ?_ | refine hL.lda 7 rfl (by kernel_rfl) _ rfl ?_)
  obtain ⟨p0, p1, p2, p3, p4⟩ := hL.p
  have hno := h4
  rw [q5, List.nodup_append] at hno
  obtain ⟨n1, n2, n3⟩ := hno
  rw [List.nodup_append] at n2
  refine hk (bb :: (blk s7 ++ (ow1 ++ ow2))) d o S7 ⟨s7, fl1 ++ fl2, ow1 ++ ow2, hL.at 2 rfl, p1, p2.app p4, ?_, rfl⟩ p3 ?_ ?_ hL.mod
  · rw [List.nodup_append]
    exact ⟨n1, n2.2.1, fun a ha b hb => n3 a ha b (by simp [hb])⟩
  · intro c hc
    simp only [List.mem_cons, List.mem_append, q5] at hc ⊢
    rcases hc with hc | hc | hc | hc
    · simp [hc]
    · have := hs7 c hc; exact .inr (by omega)
    · simp [hc]
    · simp [hc]
  · intro c hc
    refine ⟨by simp [q5, hc], fun hm => ?_⟩
    simp only [List.mem_cons, List.mem_append] at hm
    have hcl := h1lt c (by simp [q5, hc])
    rcases hm with hm | hm | hm | hm
    · exact list_ne h1 h2 h3 (b := c) (by simp [q5, hc]) (.inl hm)
    · have := hs7 c hm; omega
    · exact n3 c hm c (by simp [hc]) rfl
    · exact n2.2.2 c hc c hm rfl
end
end Go.Proofs.Ytcookjolkhcjhaa

/- Bags: the document's own: a byte is spoilt; delivered, dropped. -/
namespace Go.Proofs.Ytcookjolkhcjhaa
open Go Go.Proofs.Ytcookjolkhcjhaa.D
set_option linter.unusedVariables false
set_option linter.unusedSimpArgs false
noncomputable section

theorem b63 {S : St} {bb m : Nat} {st : BagS} {own : List Nat} {n a w : Int} {k : Value → St → Prop} (h : BagIs S bb st own) (ok : BagOk m st) (hm : m < 1000000)
    (hk : ∀ own' S', BagIs S' bb (spoilS st n a w).2 own' → (∀ c ∈ own', c ∈ own ∨ S.next ≤ c) → Mod (fun b => b ∈ own) S S' → k (.int .i64 (spoilS st n a w).1) S') :
    WC E0 63 [.pointer (some ⟨bb, 0, none⟩), .int .i64 n, .int .i64 a, .int .u8 w] S k := by
  have hB := h
  obtain ⟨s, fl, ow, h1, h2, h3, h4, rfl⟩ := h
  have hlen := h3.len
  have o1 := ok.len
  have o5 := ok.c5
  refine w63 _ n a w ?_
  unfold c63
  unfold spoilS at hk
  have e1 : Ext S S := Mod.refl _ _
  refine evC_of (b39 hB ok ⟨_, rfl, ?_⟩)
  unfold idxI
  cases hi : idxS st.l n with
  | none =>
    rw [hi] at hk
    refine ifW_pos (by decide) ?_
    exact hk _ S hB (fun c hc => .inl hc) (Mod.refl _ _)
  | some i =>
    rw [hi] at hk
    obtain ⟨hil, _, _⟩ := idxS_lt hi
    refine ifW_neg (by dsimp only; omega) ?_
    dsimp only
    obtain ⟨fl1, p, d, fl2, l1, l2, ow1, o, ow2, q1, q2, q3, q4, q5, g1, g2, g3⟩ := h3.at i hil
    have ep : st.l[i]? = some p := by rw [q4]; simp [← q2]
    have es : ∀ x, st.l.set i x = l1 ++ x :: l2 := fun x => by rw [q4, List.set_append_right _ _ (by omega)]; simp [← q2]
    simp only [ep, es] at hk
    have hfull := hk
    rcases h2 with ⟨hnil, _⟩ | ⟨lb, rest, hlb, rfl, hat, hrest⟩
    · rw [hnil] at hlen; simp at hlen; omega
    have eA : (fl1.flatMap cellsF).length = i * 5 := by rw [flat_len (sz := 5) fun _ => rfl, q1]
    have ecs : fl.flatMap cellsF ++ rest = fl1.flatMap cellsF ++ (cellsF (fltOf p d) ++ (fl2.flatMap cellsF ++ rest)) := by rw [q3]; simp
    have hbl : blk ⟨some ⟨lb, 0, none⟩, fl.length, inex⟩ = [lb] := rfl
    rw [hbl] at hfull hk hB
    have hlt := fun c (hc : c ∈ bb :: ([lb] ++ ow)) => hB.lt hc
    have hat0 := hat
    rw [ecs] at hat
    have hL := Cx.start (S := S) (O := fun c => c ∈ bb :: ([lb] ++ ow)) (P := BagU bb lb ⟨some ⟨lb, 0, none⟩, fl.length, inex⟩ st.last st.c i (fl1.flatMap cellsF) (fl2.flatMap cellsF ++ rest) (fltOf p d) fl1 fl2 l1 l2 ow1 ow2 d p.2.2.2.1 o) (fun c => c ∈ bb :: ([lb] ++ ow))
      ⟨e1.at h1, e1.at hat, g1.mod e1.kp fun _ _ h => h, mod_datB e1.kp g2 fun _ _ h => h, g3.mod e1.kp fun _ _ h => h⟩
      (BagU.frm (by simp) (by simp) (fun c hc => by simp [q5, hc]) (fun c hc => by simp [q5, hc]) (fun c hc => by simp [q5, hc])) (fun c hc => by have := hlt c hc; have := e1.next; omega)
    obtain ⟨p1, p2, p3, p4, p5⟩ := hL.p
    have hi0 : (0 : Int) ≤ (i : Int) := by omega
    have hi1 : (i : Int) < ((⟨some ⟨lb, 0, none⟩, fl.length, inex⟩ : Sl).len : Int) := by simp only; omega
    have hno : (p.2.2.2.2 = true ∨ a < 0 ∨ (p.2.2.2.1.length : Int) ≤ a ∨ w = 0) → k (.int .i64 80) S := fun hc => by
      rw [if_pos hc] at hk
      exact hk _ S (hB.ext e1) (fun c hc => .inl hc) (e1.mono fun _ h _ => h.elim)
    refine ptrW_of (ptrW_of ?_)
    refine evV_of ⟨some ⟨lb, 0, none⟩, fl.length, inex⟩ (load_one p1 (by kernel_rfl)) ?_
    refine ⟨lb, 0, rfl, hi0, hi1, ptrW_of ?_⟩
    refine evV_of p.2.2.2.2 ((load_one p2 (by kernel_rfl)).trans (cell_get (j := 4) eA (by simp))) ?_
    refine ifW_of (fun hs => hno (.inl hs)) fun hs => ?_
    refine ifW_dec (fun ha => hno (.inr (.inl ha))) fun ha => ?_
    refine ptrW_of (ptrW_of ?_)
    refine evV_of ⟨some ⟨lb, 0, none⟩, fl.length, inex⟩ (load_one p1 (by kernel_rfl)) ?_
    refine ⟨lb, 0, rfl, hi0, hi1, ptrW_of ?_⟩
    refine evV_of d ((load_one p2 (by kernel_rfl)).trans (cell_get (j := 3) eA (by simp))) ?_
    have hdl : d.len = p.2.2.2.1.length := p4.of.len
    rw [hdl]
    refine ifW_dec (fun hb => hno (.inr (.inr (.inl hb)))) fun hb => ?_
    refine ifW_dec (fun hw => hno (.inr (.inr (.inr hw)))) fun hw => ?_
    rw [if_neg (by rintro (h | h | h | h) <;> simp_all)] at hfull
    clear hk
    refine ptrW_of (ptrW_of ?_)
    refine evV_of ⟨some ⟨lb, 0, none⟩, fl.length, inex⟩ (load_one p1 (by kernel_rfl)) ?_
    refine ⟨lb, 0, rfl, hi0, hi1, ptrW_of ?_⟩
    refine evV_of d ((load_one p2 (by kernel_rfl)).trans (cell_get (j := 3) eA (by simp))) ?_
    obtain ⟨j, rfl⟩ : ∃ j : Nat, a = j := ⟨a.toNat, by omega⟩
    have hj : j < p.2.2.2.1.length := by omega
    have hdl60 := ok.dat p (by rw [q4]; simp)
    refine app_dat p4.of p4.sp (by omega) fun d' S1 hdat e1' => ?_
    obtain ⟨o', z1, z2, z3⟩ := hdat.b
    have en1 := e1'.next
    have hL := hL.op (O' := fun c => c ∈ bb :: ([lb] ++ ow) ∨ c ∈ o') (P' := fun S => BagU bb lb ⟨some ⟨lb, 0, none⟩, fl.length, inex⟩ st.last st.c i (fl1.flatMap cellsF) (fl2.flatMap cellsF ++ rest) (fltOf p d) fl1 fl2 l1 l2 ow1 ow2 d' p.2.2.2.1 o' S) e1' (fun _ h => h.elim) (fun _ h => h.elim)
      ⟨e1'.at p1, e1'.at p2, p3.mod e1'.kp fun _ _ h => h, z1, p5.mod e1'.kp fun _ _ h => h⟩
      (BagU.frm (by simp) (by simp) (fun c hc => by simp [q5, hc]) (fun c hc => by simp [hc]) (fun c hc => by simp [q5, hc])) (fun c hc => hc.imp id (z2 c)) (fun c hc => hc.elim (fun hc => by have := hlt c hc; omega) fun hc => z1.lt hc)
    obtain ⟨p1, p2, p3, p4, p5⟩ := hL.p
    rcases p4 with ⟨hnil, _⟩ | ⟨db, cap, more, rfl, hd, hdat, hmo⟩
    · rw [hnil] at hj; cases hj
    subst hd
    have hdbn : S.next ≤ db := z2 db (by simp)
    have hne : p.2.2.2.1 ≠ [] := by intro h; rw [h] at hj; cases hj
    obtain rfl : more = some 1 := hmo.resolve_right fun h => hne h.1
    refine ⟨db, 0, rfl, by omega, by simp only; omega, ?_⟩
    refine evV_of (p.2.2.2.1.getD j 0) ((load_one hdat (by kernel_rfl)).trans (getB hj)) ?_
    refine ⟨db, 0, rfl, by omega, by simp only; omega, ?_⟩
    have hst : storeV E0 S1 5 (.pointer (some ⟨db, 0 + Int.toNat (j : Int) * 1, none⟩)) (.int .u8 (xorI .u8 (p.2.2.2.1.getD j 0) w)) = some (S1.upd db (.cells ((p.2.2.2.1.set j (byteX (p.2.2.2.1.getD j 0) w)).flatMap cellB) (some 1) false none)) :=
      (store_cells (n := 1) hdat (by kernel_rfl) rfl (by rw [flatB, List.length_map]; show 0 + j * 1 + 1 ≤ _; omega) rfl).trans (by rw [← setB hj]; rfl)
    refine ⟨_, hst, ?_⟩
    have m2 : Mod (fun c => c = db) S1 (S1.upd db (.cells ((p.2.2.2.1.set j (byteX (p.2.2.2.1.getD j 0) w)).flatMap cellB) (some 1) false none)) := upd_mod
    have a2 := upd_at (o' := .cells ((p.2.2.2.1.set j (byteX (p.2.2.2.1.getD j 0) w)).flatMap cellB) (some 1) false none) hdat
    have hn2 : (S1.upd db (.cells ((p.2.2.2.1.set j (byteX (p.2.2.2.1.getD j 0) w)).flatMap cellB) (some 1) false none)).next = S1.next := rfl
    generalize S1.upd db (.cells ((p.2.2.2.1.set j (byteX (p.2.2.2.1.getD j 0) w)).flatMap cellB) (some 1) false none) = S2 at m2 a2 hn2 ⊢
    have hoo : ∀ b, b ∈ bb :: ([lb] ++ ow) → b ≠ db := fun b hb e => by have := hlt b hb; omega
    have hlt2 : ∀ c, (c ∈ bb :: ([lb] ++ ow) ∨ c ∈ [db]) → c < S2.next := fun c hc => hc.elim (fun hc => by have := hlt c hc; omega) fun hc => by
      simp only [List.mem_cons, List.not_mem_nil, or_false] at hc; subst hc; have := hdat.lt; omega
    have hL := hL.op (O' := fun c => c ∈ bb :: ([lb] ++ ow) ∨ c ∈ [db]) (P' := BagU bb lb ⟨some ⟨lb, 0, none⟩, fl.length, inex⟩ st.last st.c i (fl1.flatMap cellsF) (fl2.flatMap cellsF ++ rest) (fltOf p d) fl1 fl2 l1 l2 ow1 ow2 ⟨some ⟨db, 0, none⟩, p.2.2.2.1.length, cap⟩ (p.2.2.2.1.set j (byteX (p.2.2.2.1.getD j 0) w)) [db]) m2
      (fun c hc => by subst hc; simp) (fun c hc h => by omega)
      ⟨m2.at p1 (hoo bb (by simp)), m2.at p2 (hoo lb (by simp)), p3.mod m2.kp (fun b hb => hoo b (by simp [q5, hb])), .inr ⟨db, cap, some 1, rfl, by simp, a2, .inl rfl⟩, p5.mod m2.kp (fun b hb => hoo b (by simp [q5, hb]))⟩
      (BagU.frm (by simp) (by simp) (fun c hc => by simp [q5, hc]) (fun c hc => .inr hc) (fun c hc => by simp [q5, hc])) (fun c hc => .inl hc) hlt2
    obtain ⟨p1, p2, p3, p4, p5⟩ := hL.p
    refine ptrW_of (ptrW_of ?_)
    refine evV_of ⟨some ⟨lb, 0, none⟩, fl.length, inex⟩ (load_one p1 (by kernel_rfl)) ?_
    refine ⟨lb, 0, rfl, hi0, hi1, ptrW_of ?_⟩
    have hst : storeV E0 S2 42 (.pointer (some ⟨lb, 0 + Int.toNat (i : Int) * 5 + 3, none⟩)) (.slice (some ⟨db, 0, none⟩) p.2.2.2.1.length cap) = some (S2.upd lb (.cells (fl1.flatMap cellsF ++ (cellsF (fltOf p ⟨some ⟨db, 0, none⟩, p.2.2.2.1.length, cap⟩) ++ (fl2.flatMap cellsF ++ rest))) (some 5) false none)) :=
      (store_cells (n := 1) p2 (by kernel_rfl) rfl (by simp only [List.length_append, eA]; show 0 + i * 5 + 3 + 1 ≤ i * 5 + (5 + _); omega) rfl).trans (by
        have := cell_set (A := fl1.flatMap cellsF) (v := cellsF (fltOf p d)) (B := fl2.flatMap cellsF ++ rest) (j := 3) (w := .slice (some ⟨db, 0, none⟩) p.2.2.2.1.length cap) eA (by simp)
        exact congrArg (fun x => some (S2.upd lb (.cells x (some 5) false none))) this)
    refine ⟨_, hst, ?_⟩
    have m3 : Mod (fun c => c = lb) S2 (S2.upd lb (.cells (fl1.flatMap cellsF ++ (cellsF (fltOf p ⟨some ⟨db, 0, none⟩, p.2.2.2.1.length, cap⟩) ++ (fl2.flatMap cellsF ++ rest))) (some 5) false none)) := upd_mod
    have a3 := upd_at (o' := .cells (fl1.flatMap cellsF ++ (cellsF (fltOf p ⟨some ⟨db, 0, none⟩, p.2.2.2.1.length, cap⟩) ++ (fl2.flatMap cellsF ++ rest))) (some 5) false none) p2
    have hn3 : (S2.upd lb (.cells (fl1.flatMap cellsF ++ (cellsF (fltOf p ⟨some ⟨db, 0, none⟩, p.2.2.2.1.length, cap⟩) ++ (fl2.flatMap cellsF ++ rest))) (some 5) false none)).next = S2.next := rfl
    generalize S2.upd lb (.cells (fl1.flatMap cellsF ++ (cellsF (fltOf p ⟨some ⟨db, 0, none⟩, p.2.2.2.1.length, cap⟩) ++ (fl2.flatMap cellsF ++ rest))) (some 5) false none) = S3 at m3 a3 hn3 ⊢
    have hl1 : ∀ b ∈ ow1, b ≠ lb := fun b hb e => by
      obtain ⟨x, h, hx⟩ := p3.blk hb
      rw [at_inj h (e ▸ p2)] at hx; cases hx
    have hl2 : ∀ b ∈ ow2, b ≠ lb := fun b hb e => by
      obtain ⟨x, h, hx⟩ := p5.blk hb
      rw [at_inj h (e ▸ p2)] at hx; cases hx
    have hdl2 : lb ≠ db := hoo lb (by simp)
    have hl3 : ∀ b ∈ [db], b ≠ lb := fun b hb => by simp only [List.mem_cons, List.not_mem_nil, or_false] at hb; subst hb; exact hdl2.symm
    have hL := hL.op (O' := fun c => c ∈ bb :: ([lb] ++ ow) ∨ c ∈ [db]) (P' := BagU bb lb ⟨some ⟨lb, 0, none⟩, fl.length, inex⟩ st.last st.c i (fl1.flatMap cellsF) (fl2.flatMap cellsF ++ rest) (fltOf p ⟨some ⟨db, 0, none⟩, p.2.2.2.1.length, cap⟩) fl1 fl2 l1 l2 ow1 ow2 ⟨some ⟨db, 0, none⟩, p.2.2.2.1.length, cap⟩ (p.2.2.2.1.set j (byteX (p.2.2.2.1.getD j 0) w)) [db]) m3
      (fun c hc => by subst hc; simp) (fun c hc _ => by subst hc; simp)
      ⟨m3.at p1 (fun h => by omega), a3, p3.mod m3.kp hl1, mod_datB m3.kp p4 hl3, p5.mod m3.kp hl2⟩
      (BagU.frm (by simp) (by simp) (fun c hc => by simp [q5, hc]) (fun c hc => .inr hc) (fun c hc => by simp [q5, hc])) (fun c hc => .inl hc) (fun c hc => by have := hlt2 c hc; omega)
    obtain ⟨p1, p2, p3, p4, p5⟩ := hL.p
    refine ptrW_of (ptrW_of ?_)
    refine evV_of ⟨some ⟨lb, 0, none⟩, fl.length, inex⟩ (load_one p1 (by kernel_rfl)) ?_
    refine ⟨lb, 0, rfl, hi0, hi1, ptrW_of ?_⟩
    have hst : storeV E0 S3 4 (.pointer (some ⟨lb, 0 + Int.toNat (i : Int) * 5 + 4, none⟩)) (.bool true) = some (S3.upd lb (.cells (fl1.flatMap cellsF ++ (cellsF (p.1, p.2.1, p.2.2.1, ⟨some ⟨db, 0, none⟩, p.2.2.2.1.length, cap⟩, true) ++ (fl2.flatMap cellsF ++ rest))) (some 5) false none)) :=
      (store_cells (n := 1) p2 (by kernel_rfl) rfl (by simp only [List.length_append, eA]; show 0 + i * 5 + 4 + 1 ≤ i * 5 + (5 + _); omega) rfl).trans (by
        have := cell_set (A := fl1.flatMap cellsF) (v := cellsF (fltOf p ⟨some ⟨db, 0, none⟩, p.2.2.2.1.length, cap⟩)) (B := fl2.flatMap cellsF ++ rest) (j := 4) (w := .bool true) eA (by simp)
        exact congrArg (fun x => some (S3.upd lb (.cells x (some 5) false none))) this)
    refine ⟨_, hst, ?_⟩
    have m4 : Mod (fun c => c = lb) S3 (S3.upd lb (.cells (fl1.flatMap cellsF ++ (cellsF (p.1, p.2.1, p.2.2.1, ⟨some ⟨db, 0, none⟩, p.2.2.2.1.length, cap⟩, true) ++ (fl2.flatMap cellsF ++ rest))) (some 5) false none)) := upd_mod
    have a4 := upd_at (o' := .cells (fl1.flatMap cellsF ++ (cellsF (p.1, p.2.1, p.2.2.1, ⟨some ⟨db, 0, none⟩, p.2.2.2.1.length, cap⟩, true) ++ (fl2.flatMap cellsF ++ rest))) (some 5) false none) p2
    have hn4 : (S3.upd lb (.cells (fl1.flatMap cellsF ++ (cellsF (p.1, p.2.1, p.2.2.1, ⟨some ⟨db, 0, none⟩, p.2.2.2.1.length, cap⟩, true) ++ (fl2.flatMap cellsF ++ rest))) (some 5) false none)).next = S3.next := rfl
    generalize S3.upd lb (.cells (fl1.flatMap cellsF ++ (cellsF (p.1, p.2.1, p.2.2.1, ⟨some ⟨db, 0, none⟩, p.2.2.2.1.length, cap⟩, true) ++ (fl2.flatMap cellsF ++ rest))) (some 5) false none) = S4 at m4 a4 hn4 ⊢
    have hL := hL.op (O' := fun c => c ∈ bb :: ([lb] ++ ow) ∨ c ∈ [db]) (P' := BagU bb lb ⟨some ⟨lb, 0, none⟩, fl.length, inex⟩ st.last st.c i (fl1.flatMap cellsF) (fl2.flatMap cellsF ++ rest) (p.1, p.2.1, p.2.2.1, ⟨some ⟨db, 0, none⟩, p.2.2.2.1.length, cap⟩, true) fl1 fl2 l1 l2 ow1 ow2 ⟨some ⟨db, 0, none⟩, p.2.2.2.1.length, cap⟩ (p.2.2.2.1.set j (byteX (p.2.2.2.1.getD j 0) w)) [db]) m4
      (fun c hc => by subst hc; simp) (fun c hc _ => by subst hc; simp)
      ⟨m4.at p1 (fun h => by omega), a4, p3.mod m4.kp hl1, mod_datB m4.kp p4 hl3, p5.mod m4.kp hl2⟩
      (BagU.frm (by simp) (by simp) (fun c hc => by simp [q5, hc]) (fun c hc => .inr hc) (fun c hc => by simp [q5, hc])) (fun c hc => .inl hc) (fun c hc => by have := hlt2 c hc; omega)
    obtain ⟨p1, p2, p3, p4, p5⟩ := hL.p
    refine ptrW_of (ptrW_of (ptrW_of ?_))
    refine evV_of st.c.2.2.2.2.1 (load_one p1 (by kernel_rfl)) ?_
    refine ptrW_of (ptrW_of (ptrW_of ?_))
    rw [wrap_i64 (by omega) (by omega)]
    refine ⟨_, store_cells p1 (n := 1) (by kernel_rfl) rfl (Nat.le_of_ble_eq_true rfl) rfl, ?_⟩
    have m5 : Mod (fun c => c = bb) S4 (S4.upd bb (bagO ⟨some ⟨lb, 0, none⟩, fl.length, inex⟩ st.last (st.c.1, st.c.2.1, st.c.2.2.1, st.c.2.2.2.1, st.c.2.2.2.2.1 + 1, st.c.2.2.2.2.2))) := upd_mod
    have a5 := upd_at (o' := bagO ⟨some ⟨lb, 0, none⟩, fl.length, inex⟩ st.last (st.c.1, st.c.2.1, st.c.2.2.1, st.c.2.2.2.1, st.c.2.2.2.2.1 + 1, st.c.2.2.2.2.2)) p1
    show k _ (S4.upd bb (bagO ⟨some ⟨lb, 0, none⟩, fl.length, inex⟩ st.last (st.c.1, st.c.2.1, st.c.2.2.1, st.c.2.2.2.1, st.c.2.2.2.2.1 + 1, st.c.2.2.2.2.2)))
    generalize S4.upd bb (bagO ⟨some ⟨lb, 0, none⟩, fl.length, inex⟩ st.last (st.c.1, st.c.2.1, st.c.2.2.1, st.c.2.2.2.1, st.c.2.2.2.2.1 + 1, st.c.2.2.2.2.2)) = S5 at m5 a5 ⊢
    have hb1 : ∀ b ∈ ow1, b ≠ bb := fun b hb e => by
      obtain ⟨x, h, hx⟩ := p3.blk hb
      rw [at_inj h (e ▸ p1)] at hx; cases hx
    have hb2 : ∀ b ∈ ow2, b ≠ bb := fun b hb e => by
      obtain ⟨x, h, hx⟩ := p5.blk hb
      rw [at_inj h (e ▸ p1)] at hx; cases hx
    have hb3 : ∀ b ∈ [db], b ≠ bb := fun b hb => by simp only [List.mem_cons, List.not_mem_nil, or_false] at hb; subst hb; exact (hoo bb (by simp)).symm
    have hnod := h4
    rw [q5, List.nodup_append] at hnod
    obtain ⟨n1, n2, n3⟩ := hnod
    rw [List.nodup_append] at n2
    refine hfull (bb :: ([lb] ++ (ow1 ++ ([db] ++ ow2)))) S5 ⟨⟨some ⟨lb, 0, none⟩, fl.length, inex⟩, fl1 ++ (fltOf (p.1, p.2.1, p.2.2.1, p.2.2.2.1.set j (byteX (p.2.2.2.1.getD j 0) w), true) ⟨some ⟨db, 0, none⟩, p.2.2.2.1.length, cap⟩) :: fl2, ow1 ++ ([db] ++ ow2), a5, ?_, ?_, ?_, rfl⟩ (fun c hc => ?_) (hL.mod.trans (m5.mono fun c hc _ => by subst hc; simp) fun b h _ => h)
    · refine .inr ⟨lb, rest, hlb, ?_, ?_, ?_⟩
      · rw [q3]; simp
      · have := m5.at p2 (fun h => by omega)
        simpa using this
      · have : fl.length = fl1.length + (fl2.length + 1) := by rw [q3]; simp
        simp only [List.length_append, List.length_cons]; omega
    · exact (p3.mod m5.kp hb1).app (.cons (mod_datB m5.kp p4 hb3) (p5.mod m5.kp hb2))
    · rw [List.nodup_append]
      refine ⟨n1, ?_, fun a ha b hb => ?_⟩
      · rw [List.nodup_append]
        exact ⟨by simp, n2.2.1, fun a ha b hb e => by simp only [List.mem_cons, List.not_mem_nil, or_false] at ha; subst ha e; exact hoo _ (by simp [q5, hb]) rfl⟩
      · simp only [List.mem_append, List.mem_cons, List.not_mem_nil, or_false] at hb
        rcases hb with rfl | hb
        · exact hoo a (by simp [q5, ha])
        · exact n3 a ha b (by simp [hb])
    · simp only [List.mem_cons, List.mem_append, List.not_mem_nil, or_false, q5] at hc ⊢
      rcases hc with hc | hc | hc | hc | hc <;> first | (subst hc; exact .inr hdbn) | simp [hc]
theorem b60 {S : St} {bb m : Nat} {st : BagS} {own : List Nat} {n : Int} {k : Value → St → Prop} (h : BagIs S bb st own) (ok : BagOk m st) (hm : m < 1000000)
    (hk : ∀ own' d o S', BagIs S' bb (takeS st n cDel).2 own' → DatB S' d (takeS st n cDel).1.1.2.2.2.1 o → (∀ c ∈ own', c ∈ own ∨ S.next ≤ c) → (∀ c ∈ o, c ∈ own ∧ c ∉ own') → Mod (fun b => b ∈ own) S S' → k (.tuple #[sv G66 (fltOf (takeS st n cDel).1.1 d), .int .i64 (takeS st n cDel).1.2]) S') :
    WC E0 60 [.pointer (some ⟨bb, 0, none⟩), .int .i64 n] S k := by
  have hB := h
  have hlt := fun c (hc : c ∈ own) => h.lt hc
  refine w60 _ n ?_
  unfold c60
  unfold takeS at hk
  cases hi : idxS st.l n with
  | none =>
    rw [hi] at hk
    have hL := Cx.start (fun c => c ∈ own) h BagIs.frm hlt
    refine hL.new fun b1 S1 hL hb1 hn1 => ?_
    refine evC_of (b39 hL.p ok ⟨_, rfl, ?_⟩)
    unfold idxI
    rw [hi]
    refine ifW_pos (by decide) ?_
    (first | refine hL.st 0 _ rfl (by kernel_rfl) rfl (Nat.le_of_ble_eq_true rfl) rfl rfl fun S' hL hn' => ?_ | refine hL.st 1 _ rfl (by kernel_rfl) rfl (Nat.le_of_ble_eq_true rfl) rfl rfl fun S' hL hn' => ?_ | refine hL.st 2 _ rfl (by kernel_rfl) rfl (Nat.le_of_ble_eq_true rfl) rfl rfl fun S' hL hn' => ?_ | refine hL.st 3 _ rfl (by kernel_rfl) rfl (Nat.le_of_ble_eq_true rfl) rfl rfl fun S' hL hn' => ?_ | refine hL.st 4 _ rfl (by kernel_rfl) rfl (Nat.le_of_ble_eq_true rfl) rfl rfl fun S' hL hn' => ?_ | refine hL.st 5 _ rfl (by kernel_rfl) rfl (Nat.le_of_ble_eq_true rfl) rfl rfl fun S' hL hn' => ?_ | refine hL.st 6 _ rfl (by kernel_rfl) rfl (Nat.le_of_ble_eq_true rfl) rfl rfl fun S' hL hn' => ?_ | refine hL.st 7 _ rfl (by kernel_rfl) rfl (Nat.le_of_ble_eq_true rfl) rfl rfl fun S' hL hn' => ?_)
    (first | refine hL.ld 0 rfl (by kernel_rfl) _ rfl ?_ | refine hL.ld 1 rfl (by kernel_rfl) _ rfl ?_ | refine hL.ld 2 rfl (by kernel_rfl) _ rfl ?_ | refine hL.ld 3 rfl (by kernel_rfl) _ rfl ?_ | refine hL.ld 4 rfl (by kernel_rfl) _ rfl ?_ | refine hL.ld 5 rfl (by kernel_rfl) _ rfl ?_ | refine hL.ld 6 rfl (by kernel_rfl) _ rfl ?_ | refine hL.ld 7 rfl (by kernel_rfl) _ rfl ?_ | refine hL.lda 0 rfl (by kernel_rfl) _ rfl ?_ | refine hL.lda 1 rfl (by kernel_rfl) _ rfl ?_ | refine hL.lda 2 rfl (by kernel_rfl) _ rfl ?_ | refine hL.lda 3 rfl (by kernel_rfl) _ rfl ?_ | refine hL.lda 4 rfl (by kernel_rfl) _ rfl ?_ | refine hL.lda 5 rfl (by kernel_rfl) _ rfl ?_ | refine hL.lda 6 rfl (by kernel_rfl) _ rfl ?_ | refine hL.lda 7 rfl (by kernel_rfl) _ rfl ?_)
    exact hk _ ⟨none, 0, 0⟩ [] _ hL.p dat_nil (fun c hc => .inl hc) (fun _ h => by cases h) hL.mod
  | some i =>
    rw [hi] at hk
    obtain ⟨hil, _, _⟩ := idxS_lt hi
    have ep : st.l.getD i noPk = st.l[i] := by simp [hil]
    simp only [ep] at hk
    have o2 := ok.c2
    obtain ⟨s, fl, ow, h1, h2, h3, h4, rfl⟩ := h
    have hL := bag_cx h1 h2 h3
    refine hL.new fun b1 S1 hL hb1 hn1 => ?_
    have hB1 : BagIs S1 bb st (bb :: (blk s ++ ow)) := ⟨s, fl, ow, hL.at 1 rfl, hL.p.1, hL.p.2, h4, rfl⟩
    refine evC_of (b39 hB1 ok ⟨_, rfl, ?_⟩)
    unfold idxI
    rw [hi]
    refine ifW_neg (by dsimp only; omega) ?_
    dsimp only
    repeat (first | refine ptrW_of ?_ | refine sameV_of ?_ | (first | refine hL.ld 0 rfl (by kernel_rfl) _ rfl ?_ | refine hL.ld 1 rfl (by kernel_rfl) _ rfl ?_ | refine hL.ld 2 rfl (by kernel_rfl) _ rfl ?_ | refine hL.ld 3 rfl (by kernel_rfl) _ rfl ?_ | refine hL.ld 4 rfl (by kernel_rfl) _ rfl ?_ | refine hL.ld 5 rfl (by kernel_rfl) _ rfl ?_ | refine hL.ld 6 rfl (by kernel_rfl) _ rfl ?_ | refine hL.ld 7 rfl (by kernel_rfl) _ rfl ?_ | refine hL.lda 0 rfl (by kernel_rfl) _ rfl ?_ | refine hL.lda 1 rfl (by kernel_rfl) _ rfl ?_ | refine hL.lda 2 rfl (by kernel_rfl) _ rfl ?_ | refine hL.lda 3 rfl (by kernel_rfl) _ rfl ?_ | refine hL.lda 4 rfl (by kernel_rfl) _ rfl ?_ | refine hL.lda 5 rfl (by kernel_rfl) _ rfl ?_ | refine hL.lda 6 rfl (by kernel_rfl) _ rfl ?_ | refine hL.lda 7 rfl (by kernel_rfl) _ rfl ?_) | (first | refine hLo.ld 0 rfl (by kernel_rfl) _ rfl ?_ | refine hLo.ld 1 rfl (by kernel_rfl) _ rfl ?_ | refine hLo.ld 2 rfl (by kernel_rfl) _ rfl ?_ | refine hLo.ld 3 rfl (by kernel_rfl) _ rfl ?_ | refine hLo.ld 4 rfl (by kernel_rfl) _ rfl ?_ | refine hLo.ld 5 rfl (by kernel_rfl) _ rfl ?_ | refine hLo.ld 6 rfl (by kernel_rfl) _ rfl ?_ | refine hLo.ld 7 rfl (by kernel_rfl) _ rfl ?_ | refine hLo.lda 0 rfl (by kernel_rfl) _ rfl ?_ | refine hLo.lda 1 rfl (by kernel_rfl) _ rfl ?_ | refine hLo.lda 2 rfl (by kernel_rfl) _ rfl ?_ | refine hLo.lda 3 rfl (by kernel_rfl) _ rfl ?_ | refine hLo.lda 4 rfl (by kernel_rfl) _ rfl ?_ | refine hLo.lda 5 rfl (by kernel_rfl) _ rfl ?_ | refine hLo.lda 6 rfl (by kernel_rfl) _ rfl ?_ | refine hLo.lda 7 rfl (by kernel_rfl) _ rfl ?_))
    rw [wrap_i64 (by omega) (by omega)]
    (first | refine hL.st 0 _ rfl (by kernel_rfl) rfl (Nat.le_of_ble_eq_true rfl) rfl rfl fun S2 hL hn2 => ?_ | refine hL.st 1 _ rfl (by kernel_rfl) rfl (Nat.le_of_ble_eq_true rfl) rfl rfl fun S2 hL hn2 => ?_ | refine hL.st 2 _ rfl (by kernel_rfl) rfl (Nat.le_of_ble_eq_true rfl) rfl rfl fun S2 hL hn2 => ?_ | refine hL.st 3 _ rfl (by kernel_rfl) rfl (Nat.le_of_ble_eq_true rfl) rfl rfl fun S2 hL hn2 => ?_ | refine hL.st 4 _ rfl (by kernel_rfl) rfl (Nat.le_of_ble_eq_true rfl) rfl rfl fun S2 hL hn2 => ?_ | refine hL.st 5 _ rfl (by kernel_rfl) rfl (Nat.le_of_ble_eq_true rfl) rfl rfl fun S2 hL hn2 => ?_ | refine hL.st 6 _ rfl (by kernel_rfl) rfl (Nat.le_of_ble_eq_true rfl) rfl rfl fun S2 hL hn2 => ?_ | refine hL.st 7 _ rfl (by kernel_rfl) rfl (Nat.le_of_ble_eq_true rfl) rfl rfl fun S2 hL hn2 => ?_)
    have g1 := hL.at 1 rfl
    have hB2 : BagIs S2 bb ⟨st.l, st.last, cDel st.c⟩ (bb :: (blk s ++ ow)) := ⟨s, fl, ow, g1, hL.p.1, hL.p.2, h4, rfl⟩
    have ok2 : BagOk (m + 1) ⟨st.l, st.last, cDel st.c⟩ := by
      have h' := ok.mono (Nat.le_succ m)
      exact ⟨h'.len, h'.last, h'.c1, by have := ok.c2; simp only [cDel]; omega, h'.c3, h'.c4, h'.c5, h'.c6, h'.dat⟩
    have hL0 := (Cx.tl hL 2).mod
    have hLb : Cx (fun c => c ∈ bb :: (blk s ++ ow)) S S2 [(b1, _)] (fun c => c ∈ bb :: (blk s ++ ow)) (fun S => BagIs S bb ⟨st.l, st.last, cDel st.c⟩ (bb :: (blk s ++ ow))) :=
      ⟨⟨hL.mod, fun p hp => hL.h.all p (by simp only [List.mem_cons, List.not_mem_nil, or_false] at hp; subst hp; exact List.mem_of_getElem? (i := 0) rfl), by simp⟩, fun c hc => hB2.lt hc, fun p hp hc => by
        simp only [List.mem_cons, List.not_mem_nil, or_false] at hp; subst hp
        have := hlt _ hc; dsimp only at this; omega, hB2, BagIs.frm⟩
    have hn2 := hLb.mod.next
    refine evC_of (b72 (i := i) hB2 ok2 hil fun own' d o S3 t1 t2 t3 t4 t5 => ⟨_, rfl, ?_⟩)
    have n5 := t5.next
    have hL := hLb.op (P' := BagD bb ⟨st.l.eraseIdx i, st.last, cDel st.c⟩ own' d st.l[i].2.2.2.1 o) t5 (fun c hc => hc) (fun c hc _ => hc) ⟨t1, t2⟩ BagD.frm (fun c hc => hc.elim (fun hc => t3 c hc) fun hc => .inl (t4 c hc).1) (fun c hc => hc.elim (fun hc => t1.lt hc) fun hc => t2.lt hc)
    (first | refine hL.st 0 _ rfl (by kernel_rfl) rfl (Nat.le_of_ble_eq_true rfl) rfl rfl fun S' hL hn' => ?_ | refine hL.st 1 _ rfl (by kernel_rfl) rfl (Nat.le_of_ble_eq_true rfl) rfl rfl fun S' hL hn' => ?_ | refine hL.st 2 _ rfl (by kernel_rfl) rfl (Nat.le_of_ble_eq_true rfl) rfl rfl fun S' hL hn' => ?_ | refine hL.st 3 _ rfl (by kernel_rfl) rfl (Nat.le_of_ble_eq_true rfl) rfl rfl fun S' hL hn' => ?_ | refine hL.st 4 _ rfl (by kernel_rfl) rfl (Nat.le_of_ble_eq_true rfl) rfl rfl fun S' hL hn' => ?_ | refine hL.st 5 _ rfl (by kernel_rfl) rfl (Nat.le_of_ble_eq_true rfl) rfl rfl fun S' hL hn' => ?_ | refine hL.st 6 _ rfl (by kernel_rfl) rfl (Nat.le_of_ble_eq_true rfl) rfl rfl fun S' hL hn' => ?_ | refine hL.st 7 _ rfl (by kernel_rfl) rfl (Nat.le_of_ble_eq_true rfl) rfl rfl fun S' hL hn' => ?_)
    (first | refine hL.ld 0 rfl (by kernel_rfl) _ rfl ?_ | refine hL.ld 1 rfl (by kernel_rfl) _ rfl ?_ | refine hL.ld 2 rfl (by kernel_rfl) _ rfl ?_ | refine hL.ld 3 rfl (by kernel_rfl) _ rfl ?_ | refine hL.ld 4 rfl (by kernel_rfl) _ rfl ?_ | refine hL.ld 5 rfl (by kernel_rfl) _ rfl ?_ | refine hL.ld 6 rfl (by kernel_rfl) _ rfl ?_ | refine hL.ld 7 rfl (by kernel_rfl) _ rfl ?_ | refine hL.lda 0 rfl (by kernel_rfl) _ rfl ?_ | refine hL.lda 1 rfl (by kernel_rfl) _ rfl ?_ | refine hL.lda 2 rfl (by kernel_rfl) _ rfl ?_ | refine hL.lda 3 rfl (by kernel_rfl) _ rfl ?_ | refine hL.lda 4 rfl (by kernel_rfl) _ rfl ?_ | refine hL.lda 5 rfl (by kernel_rfl) _ rfl ?_ | refine hL.lda 6 rfl (by kernel_rfl) _ rfl ?_ | refine hL.lda 7 rfl (by kernel_rfl) _ rfl ?_)
    exact hk own' d o _ hL.p.1 hL.p.2 (fun c hc => (t3 c hc).imp id fun h => by omega) t4 hL.mod
theorem b61 {S : St} {bb m : Nat} {st : BagS} {own : List Nat} {n : Int} {k : Value → St → Prop} (h : BagIs S bb st own) (ok : BagOk m st) (hm : m < 1000000)
    (hk : ∀ own' S', BagIs S' bb (takeS st n cDrop).2 own' → (∀ c ∈ own', c ∈ own ∨ S.next ≤ c) → Mod (fun b => b ∈ own) S S' → k (.int .i64 (takeS st n cDrop).1.2) S') :
    WC E0 61 [.pointer (some ⟨bb, 0, none⟩), .int .i64 n] S k := by
  refine w61 _ n ?_
  unfold c61
  unfold takeS at hk
  refine evC_of (b39 h ok ⟨_, rfl, ?_⟩)
  unfold idxI
  cases hi : idxS st.l n with
  | none =>
    rw [hi] at hk
    refine ifW_pos (by decide) ?_
    exact hk own S h (fun c hc => .inl hc) (Mod.refl _ _)
  | some i =>
    rw [hi] at hk
    obtain ⟨hil, _, _⟩ := idxS_lt hi
    have o2 := ok.c3
    obtain ⟨s, fl, ow, h1, h2, h3, h4, rfl⟩ := h
    have hL := bag_cx h1 h2 h3
    refine ifW_neg (by dsimp only; omega) ?_
    dsimp only
    repeat (first | refine ptrW_of ?_ | refine sameV_of ?_ | (first | refine hL.ld 0 rfl (by kernel_rfl) _ rfl ?_ | refine hL.ld 1 rfl (by kernel_rfl) _ rfl ?_ | refine hL.ld 2 rfl (by kernel_rfl) _ rfl ?_ | refine hL.ld 3 rfl (by kernel_rfl) _ rfl ?_ | refine hL.ld 4 rfl (by kernel_rfl) _ rfl ?_ | refine hL.ld 5 rfl (by kernel_rfl) _ rfl ?_ | refine hL.ld 6 rfl (by kernel_rfl) _ rfl ?_ | refine hL.ld 7 rfl (by kernel_rfl) _ rfl ?_ | refine hL.lda 0 rfl (by kernel_rfl) _ rfl ?_ | refine hL.lda 1 rfl (by kernel_rfl) _ rfl ?_ | refine hL.lda 2 rfl (by kernel_rfl) _ rfl ?_ | refine hL.lda 3 rfl (by kernel_rfl) _ rfl ?_ | refine hL.lda 4 rfl (by kernel_rfl) _ rfl ?_ | refine hL.lda 5 rfl (by kernel_rfl) _ rfl ?_ | refine hL.lda 6 rfl (by kernel_rfl) _ rfl ?_ | refine hL.lda 7 rfl (by kernel_rfl) _ rfl ?_) | (first | refine hLo.ld 0 rfl (by kernel_rfl) _ rfl ?_ | refine hLo.ld 1 rfl (by kernel_rfl) _ rfl ?_ | refine hLo.ld 2 rfl (by kernel_rfl) _ rfl ?_ | refine hLo.ld 3 rfl (by kernel_rfl) _ rfl ?_ | refine hLo.ld 4 rfl (by kernel_rfl) _ rfl ?_ | refine hLo.ld 5 rfl (by kernel_rfl) _ rfl ?_ | refine hLo.ld 6 rfl (by kernel_rfl) _ rfl ?_ | refine hLo.ld 7 rfl (by kernel_rfl) _ rfl ?_ | refine hLo.lda 0 rfl (by kernel_rfl) _ rfl ?_ | refine hLo.lda 1 rfl (by kernel_rfl) _ rfl ?_ | refine hLo.lda 2 rfl (by kernel_rfl) _ rfl ?_ | refine hLo.lda 3 rfl (by kernel_rfl) _ rfl ?_ | refine hLo.lda 4 rfl (by kernel_rfl) _ rfl ?_ | refine hLo.lda 5 rfl (by kernel_rfl) _ rfl ?_ | refine hLo.lda 6 rfl (by kernel_rfl) _ rfl ?_ | refine hLo.lda 7 rfl (by kernel_rfl) _ rfl ?_))
    rw [wrap_i64 (by omega) (by omega)]
    (first | refine hL.st 0 _ rfl (by kernel_rfl) rfl (Nat.le_of_ble_eq_true rfl) rfl rfl fun S2 hL hn2 => ?_ | refine hL.st 1 _ rfl (by kernel_rfl) rfl (Nat.le_of_ble_eq_true rfl) rfl rfl fun S2 hL hn2 => ?_ | refine hL.st 2 _ rfl (by kernel_rfl) rfl (Nat.le_of_ble_eq_true rfl) rfl rfl fun S2 hL hn2 => ?_ | refine hL.st 3 _ rfl (by kernel_rfl) rfl (Nat.le_of_ble_eq_true rfl) rfl rfl fun S2 hL hn2 => ?_ | refine hL.st 4 _ rfl (by kernel_rfl) rfl (Nat.le_of_ble_eq_true rfl) rfl rfl fun S2 hL hn2 => ?_ | refine hL.st 5 _ rfl (by kernel_rfl) rfl (Nat.le_of_ble_eq_true rfl) rfl rfl fun S2 hL hn2 => ?_ | refine hL.st 6 _ rfl (by kernel_rfl) rfl (Nat.le_of_ble_eq_true rfl) rfl rfl fun S2 hL hn2 => ?_ | refine hL.st 7 _ rfl (by kernel_rfl) rfl (Nat.le_of_ble_eq_true rfl) rfl rfl fun S2 hL hn2 => ?_)
    have hB2 : BagIs S2 bb ⟨st.l, st.last, cDrop st.c⟩ (bb :: (blk s ++ ow)) := ⟨s, fl, ow, hL.at 0 rfl, hL.p.1, hL.p.2, h4, rfl⟩
    have ok2 : BagOk (m + 1) ⟨st.l, st.last, cDrop st.c⟩ := by
      have h' := ok.mono (Nat.le_succ m)
      exact ⟨h'.len, h'.last, h'.c1, h'.c2, by have := ok.c3; simp only [cDrop]; omega, h'.c4, h'.c5, h'.c6, h'.dat⟩
    have hn2 := hL.mod.next
    refine evC_of (b72 (i := i) hB2 ok2 hil fun own' d o S3 t1 t2 t3 t4 t5 => ⟨_, rfl, ?_⟩)
    exact hk own' S3 t1 (fun c hc => (t3 c hc).imp id fun h => by omega) (hL.mod.trans t5 fun b h _ => h)
end
end Go.Proofs.Ytcookjolkhcjhaa
