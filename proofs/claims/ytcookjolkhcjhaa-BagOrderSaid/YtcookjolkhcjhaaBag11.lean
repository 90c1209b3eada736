/- Bags: one is taken out. -/
import Derived.Test.YtcookjolkhcjhaaBag10
namespace Go.Proofs.Ytcookjolkhcjhaa
open Go Go.Proofs.Ytcookjolkhcjhaa.D
set_option linter.unusedVariables false
set_option linter.unusedSimpArgs false
noncomputable section

theorem Frm.at {O : Nat → Prop} {b : Nat} {o : DObj} (h : O b) : Frm O (fun S => At S b o) := fun F S S' m hF ha => m.at ha (hF b h)
theorem Frm.fls {O : Nat → Prop} {N : Nat} {s : Sl} {fl : List Flt} (h : ∀ c ∈ blk s, O c) : Frm O (fun S => Fls N S s fl) := fun F S S' m hF ha => m.grX ha fun b _ _ e => hF b (h b (by simp [blk, e]))
theorem Frm.pks {O : Nat → Prop} {fl : List Flt} {l : List Pk} {ow : List Nat} (h : ∀ c ∈ ow, O c) : Frm O (fun S => Pks S fl l ow) := fun F S S' m hF ha => ha.mod m fun b hb => hF b (h b hb)
theorem Frm.dat {O : Nat → Prop} {d : Sl} {l : List Int} {o : List Nat} (h : ∀ c ∈ o, O c) : Frm O (fun S => DatB S d l o) := fun F S S' m hF ha => mod_datB m ha fun b hb => hF b (h b hb)
theorem Frm.conj {O : Nat → Prop} {P P' : St → Prop} (h : Frm O P) (h' : Frm O P') : Frm O (fun S => P S ∧ P' S) := fun F S S' m hF ha => ⟨h F S S' m hF ha.1, h' F S S' m hF ha.2⟩
theorem BagIs.frm {bb : Nat} {st : BagS} {own : List Nat} : Frm (fun c => c ∈ own) (fun S => BagIs S bb st own) := fun F S S' m hF h => h.mod m hF
abbrev fltOf (p : Pk) (d : Sl) : Flt := (p.1, p.2.1, p.2.2.1, d, p.2.2.2.2)
theorem dat_nil {S : St} : DatB S ⟨none, 0, 0⟩ [] [] := .inl ⟨rfl, rfl, rfl⟩
theorem blk_a {s s' : Sl} (h : s'.a = s.a) : blk s' = blk s := by unfold blk; rw [h]
/-- A bag while one is taken out. -/
def BagT (bb c0 : Nat) (s0 s : Sl) (last : Int) (c : Cnt) (fl fl1 fl2 : List Flt) (l1 l2 : List Pk) (ow1 ow2 : List Nat) (d : Sl) (dl : List Int) (o : List Nat) (S : St) : Prop :=
  At S bb (bagO s0 last c) ∧ Fls (bb + 1) S s fl ∧ Pks S fl1 l1 ow1 ∧ DatB S d dl o ∧ Pks S fl2 l2 ow2 ∧ At S c0 (.cells [.pointer (some ⟨bb, 0, none⟩)] none false none)
theorem BagT.frm {bb c0 : Nat} {s0 s : Sl} {last : Int} {c : Cnt} {fl fl1 fl2 : List Flt} {l1 l2 : List Pk} {ow1 ow2 : List Nat} {d : Sl} {dl : List Int} {o : List Nat} {O : Nat → Prop}
    (h1 : O bb) (h2 : O c0) (h3 : ∀ c ∈ blk s, O c) (h4 : ∀ c ∈ ow1, O c) (h5 : ∀ c ∈ o, O c) (h6 : ∀ c ∈ ow2, O c) : Frm O (BagT bb c0 s0 s last c fl fl1 fl2 l1 l2 ow1 ow2 d dl o) :=
  Frm.conj (Frm.at h1) (Frm.conj (Frm.fls h3) (Frm.conj (Frm.pks h4) (Frm.conj (Frm.dat h5) (Frm.conj (Frm.pks h6) (Frm.at h2)))))
theorem b53 {S : St} {bb m g c0 : Nat} {st : BagS} {own : List Nat} {n : Int} {f : Cnt → Cnt} {k : Value → St → Prop} (h : BagIs S bb st own) (ok : BagOk m st)
    (h0 : At S c0 (.cells [.pointer (some ⟨bb, 0, none⟩)] none false none))
    (hg : ∀ S1 (s' : Sl) (k : Value → St → Prop), At S1 c0 (.cells [.pointer (some ⟨bb, 0, none⟩)] none false none) → At S1 bb (bagO s' st.last st.c) → (∀ S', At S' bb (bagO s' st.last (f st.c)) → Mod (fun b => b = bb) S1 S' → k (.tuple #[]) S') → WC E0 g [.pointer (some ⟨c0, 0, none⟩)] S1 k)
    (hk : ∀ own' d o S', BagIs S' bb (takeS st n f).2 own' → DatB S' d (takeS st n f).1.1.2.2.2.1 o → (∀ c ∈ own', c ∈ own ∨ S.next ≤ c) → (∀ c ∈ o, c ∈ own ∧ c ∉ own') → Mod (fun b => b ∈ own) S S' → k (.tuple #[sv G66 (fltOf (takeS st n f).1.1 d), .int .i64 (takeS st n f).1.2]) S') :
    WC E0 53 [.pointer (some ⟨bb, 0, none⟩), .int .i64 n, .func (.func g) #[] #[.pointer (some ⟨c0, 0, none⟩)]] S k := by
  have hB := h
  obtain ⟨s, fl, ow, h1, h2, h3, h4, rfl⟩ := h
  have hlen := h3.len
  have o1 := ok.len
  refine w53 _ n _ ?_
  unfold c53
  unfold takeS at hk
  cases hi : idxS st.l n with
  | none =>
    rw [hi] at hk
    have hL := Cx.start noB hB BagIs.frm (fun c hc => hB.lt hc)
    refine hL.new fun b1 S1 hL hb1 hn1 => ?_
    have hm1 := hL.mod
    refine evC_of (s56 (hm1.at h1 (fun h => h)) (hm1.slOf (h2.of fun _ => rfl) fun _ _ _ _ h => h) (by omega) fun S2 e2 => ⟨placeF fl n, rfl, ?_⟩)
    have hL := hL.ext e2
    rw [h3.place n, hi]
    refine ifW_ndec (fun _ => ?_) fun h => by cases h
    (first | refine hL.st 0 _ rfl (by kernel_rfl) rfl (Nat.le_of_ble_eq_true rfl) rfl rfl fun S' hL hn' => ?_ | refine hL.st 1 _ rfl (by kernel_rfl) rfl (Nat.le_of_ble_eq_true rfl) rfl rfl fun S' hL hn' => ?_ | refine hL.st 2 _ rfl (by kernel_rfl) rfl (Nat.le_of_ble_eq_true rfl) rfl rfl fun S' hL hn' => ?_ | refine hL.st 3 _ rfl (by kernel_rfl) rfl (Nat.le_of_ble_eq_true rfl) rfl rfl fun S' hL hn' => ?_ | refine hL.st 4 _ rfl (by kernel_rfl) rfl (Nat.le_of_ble_eq_true rfl) rfl rfl fun S' hL hn' => ?_ | refine hL.st 5 _ rfl (by kernel_rfl) rfl (Nat.le_of_ble_eq_true rfl) rfl rfl fun S' hL hn' => ?_ | refine hL.st 6 _ rfl (by kernel_rfl) rfl (Nat.le_of_ble_eq_true rfl) rfl rfl fun S' hL hn' => ?_ | refine hL.st 7 _ rfl (by kernel_rfl) rfl (Nat.le_of_ble_eq_true rfl) rfl rfl fun S' hL hn' => ?_)
    (first | refine hL.ld 0 rfl (by kernel_rfl) _ rfl ?_ | refine hL.ld 1 rfl (by kernel_rfl) _ rfl ?_ | refine hL.ld 2 rfl (by kernel_rfl) _ rfl ?_ | refine hL.ld 3 rfl (by kernel_rfl) _ rfl ?_ | refine hL.ld 4 rfl (by kernel_rfl) _ rfl ?_ | refine hL.ld 5 rfl (by kernel_rfl) _ rfl ?_ | refine hL.ld 6 rfl (by kernel_rfl) _ rfl ?_ | refine hL.ld 7 rfl (by kernel_rfl) _ rfl ?_ | refine hL.lda 0 rfl (by kernel_rfl) _ rfl ?_ | refine hL.lda 1 rfl (by kernel_rfl) _ rfl ?_ | refine hL.lda 2 rfl (by kernel_rfl) _ rfl ?_ | refine hL.lda 3 rfl (by kernel_rfl) _ rfl ?_ | refine hL.lda 4 rfl (by kernel_rfl) _ rfl ?_ | refine hL.lda 5 rfl (by kernel_rfl) _ rfl ?_ | refine hL.lda 6 rfl (by kernel_rfl) _ rfl ?_ | refine hL.lda 7 rfl (by kernel_rfl) _ rfl ?_)
    exact hk _ ⟨none, 0, 0⟩ [] _ hL.p dat_nil (fun c hc => .inl hc) (fun _ h => by cases h) (hL.mod.mono fun _ h _ => h.elim)
  | some i =>
    rw [hi] at hk
    obtain ⟨hil, _, _⟩ := idxS_lt hi
    obtain ⟨fl1, p, d, fl2, l1, l2, ow1, o, ow2, q1, q2, q3, q4, q5, g1, g2, g3⟩ := h3.at i hil
    have ep : st.l.getD i noPk = p := by rw [q4]; simp [← q2]
    have ex : fl[i]'(by omega) = fltOf p d := by simp only [q3]; rw [List.getElem_append_right (by omega)]; simp [q1]
    have el : st.l.eraseIdx i = l1 ++ l2 := by rw [q4, List.eraseIdx_append_of_length_le (by omega)]; simp [← q2]
    have ef : fl.eraseIdx i = fl1 ++ fl2 := by rw [q3, List.eraseIdx_append_of_length_le (by omega)]; simp [← q1]
    simp only [ep, el] at hk
    have hbb := h1.lt
    have hc0 := h0.lt
    have o1l := fun c (hc : c ∈ ow1) => hB.lt (c := c) (by simp [q5, hc])
    have o2l := fun c (hc : c ∈ ow2) => hB.lt (c := c) (by simp [q5, hc])
    have ol := fun c (hc : c ∈ o) => hB.lt (c := c) (by simp [q5, hc])
    have sl := fun c (hc : c ∈ blk s) => hB.lt (c := c) (by simp [hc])
    have hO : ∀ c, (c = c0 ∨ c ∈ bb :: (blk s ++ ow)) → c < S.next := fun c hc => hc.elim (fun e => by omega) fun h => hB.lt h
    have hL := Cx.start (O := fun c => c = c0 ∨ c ∈ bb :: (blk s ++ ow)) (P := BagT bb c0 s s st.last st.c fl fl1 fl2 l1 l2 ow1 ow2 d p.2.2.2.1 o) (fun c => c ∈ bb :: (blk s ++ ow)) ⟨h1, h2, g1, g2, g3, h0⟩
      (BagT.frm (by simp) (by simp) (fun c hc => by simp [hc]) (fun c hc => by simp [q5, hc]) (fun c hc => by simp [q5, hc]) (fun c hc => by simp [q5, hc])) hO
    refine hL.new fun b1 S1 hL hb1 hn1 => ?_
    obtain ⟨p1, p2, p3, p4, p5, p6⟩ := hL.p
    refine evC_of (s56 p1 (p2.of fun _ => rfl) (by omega) fun S2 e2 => ⟨placeF fl n, rfl, ?_⟩)
    have hL := hL.ext e2
    rw [h3.place n, hi]
    refine ifW_ndec (fun h => (h rfl).elim) fun _ => ?_
    obtain ⟨p1, p2, p3, p4, p5, p6⟩ := hL.p
    refine ptrW_of (ptrW_of ?_)
    refine evV_of s (load_one p1 (by kernel_rfl)) ?_
    have hlt2 : (i : Int) < (fl.length : Int) := by omega
    have h00i : (0 : Int) ≤ (i : Int) := by omega
    refine (GrX.of (f := cellsF) (sz := 5) (fun _ => rfl) p2).idx (f := cellsF) (sz := 5) (fun _ => rfl) h00i hlt2 fun b4' o4 cs4 m4 r4 f4 at4 _ hv4 => ?_
    refine ⟨fl[i], load_agg at4 (n := 5) (by kernel_rfl) hv4 rfl, ?_⟩
    rw [ex]
    refine hL.new fun b8 S4 hL hb8 hn4 => ?_
    (first | refine hL.st 0 _ rfl (by kernel_rfl) rfl (Nat.le_of_ble_eq_true rfl) rfl rfl fun S' hL hn' => ?_ | refine hL.st 1 _ rfl (by kernel_rfl) rfl (Nat.le_of_ble_eq_true rfl) rfl rfl fun S' hL hn' => ?_ | refine hL.st 2 _ rfl (by kernel_rfl) rfl (Nat.le_of_ble_eq_true rfl) rfl rfl fun S' hL hn' => ?_ | refine hL.st 3 _ rfl (by kernel_rfl) rfl (Nat.le_of_ble_eq_true rfl) rfl rfl fun S' hL hn' => ?_ | refine hL.st 4 _ rfl (by kernel_rfl) rfl (Nat.le_of_ble_eq_true rfl) rfl rfl fun S' hL hn' => ?_ | refine hL.st 5 _ rfl (by kernel_rfl) rfl (Nat.le_of_ble_eq_true rfl) rfl rfl fun S' hL hn' => ?_ | refine hL.st 6 _ rfl (by kernel_rfl) rfl (Nat.le_of_ble_eq_true rfl) rfl rfl fun S' hL hn' => ?_ | refine hL.st 7 _ rfl (by kernel_rfl) rfl (Nat.le_of_ble_eq_true rfl) rfl rfl fun S' hL hn' => ?_)
    obtain ⟨p1, p2, p3, p4, p5, p6⟩ := hL.p
    refine ptrW_of (ptrW_of ?_)
    refine evV_of s (load_one p1 (by kernel_rfl)) ?_
    rw [wrap_succ (by omega)]
    refine evC_of (s68 p2 (by omega) (by omega) fun s' S6 t1 t2 t3 t4 => ⟨s', rfl, ?_⟩)
    have en := e2.next
    have hne1 : ∀ b ∈ ow1, ¬ (bb + 1 ≤ b ∧ s.a = some ⟨b, 0, none⟩) := fun b hb e => list_ne h1 h2 h3 (b := b) (by simp [q5, hb]) (.inr e)
    have hne2 : ∀ b ∈ ow2, ¬ (bb + 1 ≤ b ∧ s.a = some ⟨b, 0, none⟩) := fun b hb e => list_ne h1 h2 h3 (b := b) (by simp [q5, hb]) (.inr e)
    have hneo : ∀ b ∈ o, ¬ (bb + 1 ≤ b ∧ s.a = some ⟨b, 0, none⟩) := fun b hb e => list_ne h1 h2 h3 (b := b) (by simp [q5, hb]) (.inr e)
    have hne0 : ¬ (bb + 1 ≤ c0 ∧ s.a = some ⟨c0, 0, none⟩) := fun e => by
      obtain ⟨cs', h', _⟩ := h2.bk (h2.bk_mem e.2)
      have := at_inj h0 h'; simp at this
    rw [ef] at t1
    have hL := hL.op (O' := fun c => c = c0 ∨ c ∈ bb :: (blk s ++ ow)) (P' := BagT bb c0 s s' st.last st.c (fl1 ++ fl2) fl1 fl2 l1 l2 ow1 ow2 d p.2.2.2.1 o) t2 (fun c hc => .inr (by simp [h2.bk_mem hc.2])) (fun c hc _ => by simp [h2.bk_mem hc.2])
      ⟨t2.at p1 (fun h => by omega), t1, p3.mod t2.kp hne1, mod_datB t2.kp p4 hneo, p5.mod t2.kp hne2, t2.at p6 hne0⟩
      (BagT.frm (by simp) (by simp) (fun c hc => by rw [blk_a t3] at hc; simp [hc]) (fun c hc => by simp [q5, hc]) (fun c hc => by simp [q5, hc]) (fun c hc => by simp [q5, hc])) (fun c hc => .inl hc) (fun c hc => by have := hO c hc; omega)
    obtain ⟨p1, p2, p3, p4, p5, p6⟩ := hL.p
    refine ptrW_of (ptrW_of ?_)
    have hm7 : Mod (fun c => c = bb) S6 (S6.upd bb (bagO s' st.last st.c)) := upd_mod
    have h17 : At (S6.upd bb (bagO s' st.last st.c)) bb (bagO s' st.last st.c) := upd_at p1
    refine ⟨_, store_cells p1 (n := 1) (by kernel_rfl) rfl (Nat.le_of_ble_eq_true rfl) rfl, ?_⟩
    show evY E0 (TT.tup []) _ [] (S6.upd bb (bagO s' st.last st.c)) _
    have hn7 : (S6.upd bb (bagO s' st.last st.c)).next = S6.next := rfl
    generalize S6.upd bb (bagO s' st.last st.c) = S7 at hm7 h17 hn7 ⊢
    have hnb1 : ∀ b ∈ ow1, b ≠ bb := fun b hb e => list_ne h1 h2 h3 (b := b) (by simp [q5, hb]) (.inl e)
    have hnb2 : ∀ b ∈ ow2, b ≠ bb := fun b hb e => list_ne h1 h2 h3 (b := b) (by simp [q5, hb]) (.inl e)
    have hnbo : ∀ b ∈ o, b ≠ bb := fun b hb e => list_ne h1 h2 h3 (b := b) (by simp [q5, hb]) (.inl e)
    have hnb0 : c0 ≠ bb := at_ne h0 h1 (by simp)
    have hL := hL.op (O' := fun c => c = c0 ∨ c ∈ bb :: (blk s ++ ow)) (P' := BagT bb c0 s' s' st.last st.c (fl1 ++ fl2) fl1 fl2 l1 l2 ow1 ow2 d p.2.2.2.1 o) hm7 (fun c hc => .inr (by simp [hc])) (fun c hc _ => by simp [hc])
      ⟨h17, hm7.grX p2 (fun b h _ e => by omega), p3.mod hm7.kp hnb1, mod_datB hm7.kp p4 hnbo, p5.mod hm7.kp hnb2, hm7.at p6 hnb0⟩
      (BagT.frm (by simp) (by simp) (fun c hc => by rw [blk_a t3] at hc; simp [hc]) (fun c hc => by simp [q5, hc]) (fun c hc => by simp [q5, hc]) (fun c hc => by simp [q5, hc])) (fun c hc => .inl hc) (fun c hc => by have := hO c hc; omega)
    obtain ⟨p1, p2, p3, p4, p5, p6⟩ := hL.p
    refine evY_func (evC_of (hg S7 s' _ p6 p1 fun S8 h18 m8 => ⟨(), rfl, ?_⟩))
    have hn8 := m8.next
    have hL := hL.op (O' := fun c => c = c0 ∨ c ∈ bb :: (blk s ++ ow)) (P' := BagT bb c0 s' s' st.last (f st.c) (fl1 ++ fl2) fl1 fl2 l1 l2 ow1 ow2 d p.2.2.2.1 o) m8 (fun c hc => .inr (by simp [hc])) (fun c hc _ => by simp [hc])
      ⟨h18, m8.grX p2 (fun b h _ e => by omega), p3.mod m8.kp hnb1, mod_datB m8.kp p4 hnbo, p5.mod m8.kp hnb2, m8.at p6 hnb0⟩
      (BagT.frm (by simp) (by simp) (fun c hc => by rw [blk_a t3] at hc; simp [hc]) (fun c hc => by simp [q5, hc]) (fun c hc => by simp [q5, hc]) (fun c hc => by simp [q5, hc])) (fun c hc => .inl hc) (fun c hc => by have := hO c hc; omega)
    (first | refine hL.ld 0 rfl (by kernel_rfl) _ rfl ?_ | refine hL.ld 1 rfl (by kernel_rfl) _ rfl ?_ | refine hL.ld 2 rfl (by kernel_rfl) _ rfl ?_ | refine hL.ld 3 rfl (by kernel_rfl) _ rfl ?_ | refine hL.ld 4 rfl (by kernel_rfl) _ rfl ?_ | refine hL.ld 5 rfl (by kernel_rfl) _ rfl ?_ | refine hL.ld 6 rfl (by kernel_rfl) _ rfl ?_ | refine hL.ld 7 rfl (by kernel_rfl) _ rfl ?_ | refine hL.lda 0 rfl (by kernel_rfl) _ rfl ?_ | refine hL.lda 1 rfl (by kernel_rfl) _ rfl ?_ | refine hL.lda 2 rfl (by kernel_rfl) _ rfl ?_ | refine hL.lda 3 rfl (by kernel_rfl) _ rfl ?_ | refine hL.lda 4 rfl (by kernel_rfl) _ rfl ?_ | refine hL.lda 5 rfl (by kernel_rfl) _ rfl ?_ | refine hL.lda 6 rfl (by kernel_rfl) _ rfl ?_ | refine hL.lda 7 rfl (by kernel_rfl) _ rfl ?_)
    (first | refine hL.st 0 _ rfl (by kernel_rfl) rfl (Nat.le_of_ble_eq_true rfl) rfl rfl fun S' hL hn' => ?_ | refine hL.st 1 _ rfl (by kernel_rfl) rfl (Nat.le_of_ble_eq_true rfl) rfl rfl fun S' hL hn' => ?_ | refine hL.st 2 _ rfl (by kernel_rfl) rfl (Nat.le_of_ble_eq_true rfl) rfl rfl fun S' hL hn' => ?_ | refine hL.st 3 _ rfl (by kernel_rfl) rfl (Nat.le_of_ble_eq_true rfl) rfl rfl fun S' hL hn' => ?_ | refine hL.st 4 _ rfl (by kernel_rfl) rfl (Nat.le_of_ble_eq_true rfl) rfl rfl fun S' hL hn' => ?_ | refine hL.st 5 _ rfl (by kernel_rfl) rfl (Nat.le_of_ble_eq_true rfl) rfl rfl fun S' hL hn' => ?_ | refine hL.st 6 _ rfl (by kernel_rfl) rfl (Nat.le_of_ble_eq_true rfl) rfl rfl fun S' hL hn' => ?_ | refine hL.st 7 _ rfl (by kernel_rfl) rfl (Nat.le_of_ble_eq_true rfl) rfl rfl fun S' hL hn' => ?_)
    (first | refine hL.ld 0 rfl (by kernel_rfl) _ rfl ?_ | refine hL.ld 1 rfl (by kernel_rfl) _ rfl ?_ | refine hL.ld 2 rfl (by kernel_rfl) _ rfl ?_ | refine hL.ld 3 rfl (by kernel_rfl) _ rfl ?_ | refine hL.ld 4 rfl (by kernel_rfl) _ rfl ?_ | refine hL.ld 5 rfl (by kernel_rfl) _ rfl ?_ | refine hL.ld 6 rfl (by kernel_rfl) _ rfl ?_ | refine hL.ld 7 rfl (by kernel_rfl) _ rfl ?_ | refine hL.lda 0 rfl (by kernel_rfl) _ rfl ?_ | refine hL.lda 1 rfl (by kernel_rfl) _ rfl ?_ | refine hL.lda 2 rfl (by kernel_rfl) _ rfl ?_ | refine hL.lda 3 rfl (by kernel_rfl) _ rfl ?_ | refine hL.lda 4 rfl (by kernel_rfl) _ rfl ?_ | refine hL.lda 5 rfl (by kernel_rfl) _ rfl ?_ | refine hL.lda 6 rfl (by kernel_rfl) _ rfl ?_ | refine hL.lda 7 rfl (by kernel_rfl) _ rfl ?_)
    obtain ⟨p1, p2, p3, p4, p5, p6⟩ := hL.p
    have hno := h4
    rw [q5, List.nodup_append] at hno
    obtain ⟨n1, n2, n3⟩ := hno
    rw [List.nodup_append] at n2
    refine hk (bb :: (blk s' ++ (ow1 ++ ow2))) d o _ ⟨s', fl1 ++ fl2, ow1 ++ ow2, p1, p2, p3.app p5, ?_, rfl⟩ p4 ?_ ?_ hL.mod
    · rw [List.nodup_append]
      exact ⟨n1, n2.2.1, fun a ha b hb => n3 a ha b (by simp [hb])⟩
    · intro c hc
      rw [blk_a t3] at hc
      simp only [List.mem_cons, List.mem_append, q5] at hc ⊢
      rcases hc with hc | hc | hc | hc <;> simp [hc]
    · intro c hc
      refine ⟨by simp [q5, hc], fun hm => ?_⟩
      rw [blk_a t3] at hm
      simp only [List.mem_cons, List.mem_append] at hm
      rcases hm with hm | hm | hm | hm
      · exact hnbo c hc hm
      · obtain ⟨cs, hx, hy, hz⟩ := h2.bk hm
        exact hneo c hc ⟨hy, hz⟩
      · exact n3 c hm c (by simp [hc]) rfl
      · exact n2.2.2 c hc c hm rfl
end
end Go.Proofs.Ytcookjolkhcjhaa
