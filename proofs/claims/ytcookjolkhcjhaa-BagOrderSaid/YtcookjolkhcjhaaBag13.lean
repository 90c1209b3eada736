/- Bags: all packets. -/
import Derived.Test.YtcookjolkhcjhaaBag12
namespace Go.Proofs.Ytcookjolkhcjhaa
open Go Go.Proofs.Ytcookjolkhcjhaa.D
set_option linter.unusedVariables false
set_option linter.unusedSimpArgs false
noncomputable section

def LsR (N : Nat) (s : Sl) (fl : List Flt) (l : List Pk) (ow : List Nat) (S : St) : Prop := Fls N S s fl ∧ Pks S fl l ow
theorem LsR.frm {N : Nat} {s : Sl} {fl : List Flt} {l : List Pk} {ow : List Nat} : Frm (fun c => c ∈ blk s ∨ c ∈ ow) (LsR N s fl l ow) :=
  Frm.conj (Frm.fls fun c hc => .inl hc) (Frm.pks fun c hc => .inr hc)
def LsRD (N : Nat) (s : Sl) (fl : List Flt) (l : List Pk) (ow : List Nat) (d : Sl) (dl : List Int) (o : List Nat) (S : St) : Prop := Fls N S s fl ∧ Pks S fl l ow ∧ DatB S d dl o
theorem LsRD.frm {N : Nat} {s : Sl} {fl : List Flt} {l : List Pk} {ow : List Nat} {d : Sl} {dl : List Int} {o : List Nat} : Frm (fun c => c ∈ blk s ∨ c ∈ ow ∨ c ∈ o) (LsRD N s fl l ow d dl o) :=
  Frm.conj (Frm.fls fun c hc => .inl hc) (Frm.conj (Frm.pks fun c hc => .inr (.inl hc)) (Frm.dat fun c hc => .inr (.inr hc)))
theorem LsRD.lt {N : Nat} {s : Sl} {fl : List Flt} {l : List Pk} {ow : List Nat} {d : Sl} {dl : List Int} {o : List Nat} {S : St} (h : LsRD N s fl l ow d dl o S) {c : Nat} (hc : c ∈ blk s ∨ c ∈ ow ∨ c ∈ o) : c < S.next := by
  rcases hc with hc | hc | hc
  · obtain ⟨cs, h, _⟩ := h.1.bk hc; exact h.lt
  · obtain ⟨x, h, _⟩ := h.2.1.blk hc; exact h.lt
  · exact h.2.2.lt hc
theorem take_succ' {α : Type} {l : List α} {i : Nat} (hi : i < l.length) : l.take (i + 1) = l.take i ++ [l[i]] := by
  rw [List.take_add_one, List.getElem?_eq_getElem hi]; rfl
theorem b34 {S : St} {bb m : Nat} {st : BagS} {own : List Nat} {k : Value → St → Prop} (h : BagIs S bb st own) (ok : BagOk m st)
    (hk : ∀ s S', LsIs S.next S' s st.l → Ext S S' → k (.slice s.a s.len s.cap) S') :
    WC E0 34 [.pointer (some ⟨bb, 0, none⟩)] S k := by
  obtain ⟨s, fl, ow, h1, h2, h3, h4, rfl⟩ := h
  have hlen := h3.len
  have o1 := ok.len
  refine w34 _ ?_
  unfold c34
  have hL := Cx.start (S := S) (O := fun c => c ∈ blk ⟨none, 0, 0⟩ ∨ c ∈ ([] : List Nat)) (P := LsR S.next ⟨none, 0, 0⟩ [] [] []) noB ⟨.inl ⟨rfl, rfl⟩, .nil⟩ LsR.frm (by simp [blk])
  refine hL.new fun b1 S1 hL hb1 hn1 => ?_
  refine evC_of (w57 _ ?_)
  unfold c57
  refine hL.new fun c1 S2 hL hb2 hn2 => ?_
  refine ⟨_, rfl, ?_⟩
  refine hL.new fun b2 S3 hL hb3 hn3 => ?_
  rintro b3 S4 L rfl rfl hLL hR
  have hL := hL.record (o := L .ready none)
  have hn4 : (S3.alloc (L .ready none)).2.next = S3.next + 1 := rfl
  generalize (S3.alloc (L .ready none)).2 = S4 at hL hn4 ⊢
  generalize hb4 : S3.next = b3 at hL hR ⊢
  refine WG_of rfl (s69 (bb := bb) (s := s) (fl := fl) (last := st.last) (c := st.c) (by omega) (fun i S' => ∃ s' fl' ow', Cx noB S S' [(b3, L .ready none), (b2, .deferred), (c1, .cells [.pointer (some ⟨bb, 0, none⟩)] none false none), (b1, .cells [.slice s'.a s'.len s'.cap] none false none)] (fun c => c ∈ blk s' ∨ c ∈ ow') (LsR S.next s' fl' (st.l.take i) ow') ∧ ow'.Nodup ∧ ∀ c ∈ ow', S.next ≤ c) ?_ ?_ ?_ ?_ ?_)
  · rintro i S' ⟨s', fl', ow', hL, _⟩
    have hm := hL.mod
    exact ⟨hL.at 2 rfl, hm.at h1 (fun h => h), hm.slOf (h2.of fun _ => rfl) fun _ _ _ _ h => h⟩
  · rintro i S' S'' ⟨s', fl', ow', hL, h2⟩ e
    exact ⟨s', fl', ow', hL.ext e, h2⟩
  · exact ⟨⟨none, 0, 0⟩, [], [], hL, by simp, by simp⟩
  · rintro i hi S' ⟨s', fl', ow', hL, hnd, hge⟩
    refine hR ((i : Int), fl[i]) S' _ ?_
    have hil : i < st.l.length := by omega
    (first | refine hL.has 0 rfl ?_ | refine hL.has 1 rfl ?_ | refine hL.has 2 rfl ?_ | refine hL.has 3 rfl ?_ | refine hL.has 4 rfl ?_ | refine hL.has 5 rfl ?_ | refine hL.has 6 rfl ?_ | refine hL.has 7 rfl ?_)
    refine hL.new fun b4 S6 hL hb5 hn6 => ?_
    (first | refine hL.st 0 _ rfl (by kernel_rfl) rfl (Nat.le_of_ble_eq_true rfl) rfl rfl fun S' hL hn' => ?_ | refine hL.st 1 _ rfl (by kernel_rfl) rfl (Nat.le_of_ble_eq_true rfl) rfl rfl fun S' hL hn' => ?_ | refine hL.st 2 _ rfl (by kernel_rfl) rfl (Nat.le_of_ble_eq_true rfl) rfl rfl fun S' hL hn' => ?_ | refine hL.st 3 _ rfl (by kernel_rfl) rfl (Nat.le_of_ble_eq_true rfl) rfl rfl fun S' hL hn' => ?_ | refine hL.st 4 _ rfl (by kernel_rfl) rfl (Nat.le_of_ble_eq_true rfl) rfl rfl fun S' hL hn' => ?_ | refine hL.st 5 _ rfl (by kernel_rfl) rfl (Nat.le_of_ble_eq_true rfl) rfl rfl fun S' hL hn' => ?_ | refine hL.st 6 _ rfl (by kernel_rfl) rfl (Nat.le_of_ble_eq_true rfl) rfl rfl fun S' hL hn' => ?_ | refine hL.st 7 _ rfl (by kernel_rfl) rfl (Nat.le_of_ble_eq_true rfl) rfl rfl fun S' hL hn' => ?_)
    rename_i S7 hn7
    (first | refine hL.has 0 rfl ?_ | refine hL.has 1 rfl ?_ | refine hL.has 2 rfl ?_ | refine hL.has 3 rfl ?_ | refine hL.has 4 rfl ?_ | refine hL.has 5 rfl ?_ | refine hL.has 6 rfl ?_ | refine hL.has 7 rfl ?_)
    (first | refine hL.upd 0 rfl fun S' hL hn' => ?_ | refine hL.upd 1 rfl fun S' hL hn' => ?_ | refine hL.upd 2 rfl fun S' hL hn' => ?_ | refine hL.upd 3 rfl fun S' hL hn' => ?_ | refine hL.upd 4 rfl fun S' hL hn' => ?_ | refine hL.upd 5 rfl fun S' hL hn' => ?_ | refine hL.upd 6 rfl fun S' hL hn' => ?_ | refine hL.upd 7 rfl fun S' hL hn' => ?_)
    rename_i S8 hn8
    refine lowVW_ptr (hL.at 4 rfl).lt ?_
    (first | refine hL.ld 0 rfl (by kernel_rfl) _ rfl ?_ | refine hL.ld 1 rfl (by kernel_rfl) _ rfl ?_ | refine hL.ld 2 rfl (by kernel_rfl) _ rfl ?_ | refine hL.ld 3 rfl (by kernel_rfl) _ rfl ?_ | refine hL.ld 4 rfl (by kernel_rfl) _ rfl ?_ | refine hL.ld 5 rfl (by kernel_rfl) _ rfl ?_ | refine hL.ld 6 rfl (by kernel_rfl) _ rfl ?_ | refine hL.ld 7 rfl (by kernel_rfl) _ rfl ?_ | refine hL.lda 0 rfl (by kernel_rfl) _ rfl ?_ | refine hL.lda 1 rfl (by kernel_rfl) _ rfl ?_ | refine hL.lda 2 rfl (by kernel_rfl) _ rfl ?_ | refine hL.lda 3 rfl (by kernel_rfl) _ rfl ?_ | refine hL.lda 4 rfl (by kernel_rfl) _ rfl ?_ | refine hL.lda 5 rfl (by kernel_rfl) _ rfl ?_ | refine hL.lda 6 rfl (by kernel_rfl) _ rfl ?_ | refine hL.lda 7 rfl (by kernel_rfl) _ rfl ?_)
    (first | refine hL.ld 0 rfl (by kernel_rfl) _ rfl ?_ | refine hL.ld 1 rfl (by kernel_rfl) _ rfl ?_ | refine hL.ld 2 rfl (by kernel_rfl) _ rfl ?_ | refine hL.ld 3 rfl (by kernel_rfl) _ rfl ?_ | refine hL.ld 4 rfl (by kernel_rfl) _ rfl ?_ | refine hL.ld 5 rfl (by kernel_rfl) _ rfl ?_ | refine hL.ld 6 rfl (by kernel_rfl) _ rfl ?_ | refine hL.ld 7 rfl (by kernel_rfl) _ rfl ?_ | refine hL.lda 0 rfl (by kernel_rfl) _ rfl ?_ | refine hL.lda 1 rfl (by kernel_rfl) _ rfl ?_ | refine hL.lda 2 rfl (by kernel_rfl) _ rfl ?_ | refine hL.lda 3 rfl (by kernel_rfl) _ rfl ?_ | refine hL.lda 4 rfl (by kernel_rfl) _ rfl ?_ | refine hL.lda 5 rfl (by kernel_rfl) _ rfl ?_ | refine hL.lda 6 rfl (by kernel_rfl) _ rfl ?_ | refine hL.lda 7 rfl (by kernel_rfl) _ rfl ?_)
    have hL8 := hL
    refine hL.quiet fun S9 hL e9 hn9 hl9 => ?_
    obtain ⟨d0, o0, e0, d1, _⟩ := h3.get i hil
    have hm9 := hL.mod
    have hd9 : SlOf cellB 1 S9 fl[i].2.2.2.1 st.l[i].2.2.2.1 := by rw [e0]; exact hm9.slOf d1.of fun _ _ _ _ h => h
    have hdl := ok.dat st.l[i] (List.getElem_mem _)
    refine evC_of (s58 hd9 (by rw [e0]; exact d1.sp) (by omega) fun d N2 S10 hN2 hdat e10 => ⟨_, rfl, ?_⟩)
    obtain ⟨o, q1, q2, q3⟩ := hdat.b
    have en := e10.next
    obtain ⟨p1, p2⟩ := hL.p
    have hP : LsRD S.next s' fl' (st.l.take i) ow' d st.l[i].2.2.2.1 o S10 := ⟨e10.grX p1 fun _ _ _ h => h, p2.mod e10.kp fun _ _ h => h, q1⟩
    have hL := hL.op (P' := LsRD S.next s' fl' (st.l.take i) ow' d st.l[i].2.2.2.1 o) e10 (fun _ h => h.elim) (fun _ h => h.elim) hP LsRD.frm (fun c hc => by
      rcases hc with hc | hc | hc
      · exact .inl (.inl hc)
      · exact .inl (.inr hc)
      · exact .inr (by have := q2 c hc; omega)) (fun c hc => hP.lt hc)
    refine ⟨Nat.ble_eq_true_of_le (e10.low _ (by omega) (by omega) (fun _ h => h.elim)), ?_⟩
    refine hL8.loud hL (Nat.le_refl _) fun S11 hL h11 hn11 => ?_
    have hL11 := hL
    have hSn := hL8.mod.next
    refine hL.quiet' hSn fun S12 hL h12 hn12 hl12 => ?_
    refine hL.newX fun b5 S13 hL hb13 hn13 e13 => ?_
    refine ⟨Nat.ble_eq_true_of_le (e13.low _ (by omega) (by omega) (fun _ h => h.elim)), ?_⟩
    refine hL11.loud' hL hSn fun S14 hL h14 hn14 => ?_
    obtain ⟨p1, p2, p3⟩ := hL.p
    have hlf : fl'.length ≤ 256 := by rw [p2.len]; simp; omega
    have hfr := fun c (hc : c ∈ blk s' ∨ c ∈ ow' ∨ c ∈ o) => hL.lt c hc
    refine p1.add (v := (fl[i].1, fl[i].2.1, fl[i].2.2.1, d, fl[i].2.2.2.2)) (hL.at 0 rfl) hlf (fun s2 S15 g15 m15 f15 => ?_) (by omega)
    have hnw : ∀ b, b ∈ ow' ∨ b ∈ o → ¬ (S.next ≤ b ∧ s'.a = some ⟨b, 0, none⟩) := fun b hb hc => by
      obtain ⟨cs, h, _⟩ := p1.bk (p1.bk_mem hc.2)
      rcases hb with hb | hb
      · obtain ⟨x, h', hx⟩ := p2.blk hb
        rw [at_inj h' h] at hx; cases hx
      · obtain ⟨x, h', hx⟩ := p3.blk hb
        rw [at_inj h' h] at hx; cases hx
    have ev : fl[i] = fltOf st.l[i] d0 := e0
    have hp2 := p2.mod m15.kp fun b hb => hnw b (.inl hb)
    have hp3 := mod_datB m15.kp p3 fun b hb => hnw b (.inr hb)
    have e15 : (fl[i].1, fl[i].2.1, fl[i].2.2.1, d, fl[i].2.2.2.2) = fltOf st.l[i] d := by rw [ev]
    rw [e15] at g15
    have hP : LsR S.next s2 (fl' ++ [fltOf st.l[i] d]) (st.l.take (i + 1)) (ow' ++ o) S15 := ⟨g15, by rw [take_succ' hil]; exact hp2.app (.one hp3)⟩
    have hblk2 : ∀ c ∈ blk s2, c ∈ blk s' ∨ S14.next ≤ c := fun c hc => by
      rcases f15 with f | ⟨b, f, hb⟩
      · left; rw [← blk_a f]; exact hc
      · right; unfold blk at hc; rw [f] at hc; simp only [List.mem_cons, List.not_mem_nil, or_false] at hc; omega
    have hL := hL.op (P' := LsR S.next s2 (fl' ++ [fltOf st.l[i] d]) (st.l.take (i + 1)) (ow' ++ o)) m15 (fun c hc => .inl (p1.bk_mem hc.2)) (fun c hc hlt => by omega) hP LsR.frm (fun c hc => by
      rcases hc with hc | hc
      · exact (hblk2 c hc).imp (.inl) id
      · rcases List.mem_append.1 hc with hc | hc
        · exact .inl (.inr (.inl hc))
        · exact .inl (.inr (.inr hc))) (fun c hc => by
      rcases hc with hc | hc
      · obtain ⟨cs, h, _⟩ := hP.1.bk hc; exact h.lt
      · obtain ⟨x, h, _⟩ := hP.2.blk hc; exact h.lt)
    (first | refine hL.st 0 _ rfl (by kernel_rfl) rfl (Nat.le_of_ble_eq_true rfl) rfl rfl fun S' hL hn' => ?_ | refine hL.st 1 _ rfl (by kernel_rfl) rfl (Nat.le_of_ble_eq_true rfl) rfl rfl fun S' hL hn' => ?_ | refine hL.st 2 _ rfl (by kernel_rfl) rfl (Nat.le_of_ble_eq_true rfl) rfl rfl fun S' hL hn' => ?_ | refine hL.st 3 _ rfl (by kernel_rfl) rfl (Nat.le_of_ble_eq_true rfl) rfl rfl fun S' hL hn' => ?_ | refine hL.st 4 _ rfl (by kernel_rfl) rfl (Nat.le_of_ble_eq_true rfl) rfl rfl fun S' hL hn' => ?_ | refine hL.st 5 _ rfl (by kernel_rfl) rfl (Nat.le_of_ble_eq_true rfl) rfl rfl fun S' hL hn' => ?_ | refine hL.st 6 _ rfl (by kernel_rfl) rfl (Nat.le_of_ble_eq_true rfl) rfl rfl fun S' hL hn' => ?_ | refine hL.st 7 _ rfl (by kernel_rfl) rfl (Nat.le_of_ble_eq_true rfl) rfl rfl fun S' hL hn' => ?_)
    (first | refine hL.has 0 rfl ?_ | refine hL.has 1 rfl ?_ | refine hL.has 2 rfl ?_ | refine hL.has 3 rfl ?_ | refine hL.has 4 rfl ?_ | refine hL.has 5 rfl ?_ | refine hL.has 6 rfl ?_ | refine hL.has 7 rfl ?_)
    (first | refine hL.upd 0 rfl fun S' hL hn' => ?_ | refine hL.upd 1 rfl fun S' hL hn' => ?_ | refine hL.upd 2 rfl fun S' hL hn' => ?_ | refine hL.upd 3 rfl fun S' hL hn' => ?_ | refine hL.upd 4 rfl fun S' hL hn' => ?_ | refine hL.upd 5 rfl fun S' hL hn' => ?_ | refine hL.upd 6 rfl fun S' hL hn' => ?_ | refine hL.upd 7 rfl fun S' hL hn' => ?_)
    refine ⟨fun _ => ⟨s2, fl' ++ [fltOf st.l[i] d], ow' ++ o, hL.tl 2, ?_, ?_⟩, fun h => by cases h⟩
    · rw [List.nodup_append]
      refine ⟨hnd, q3, fun a ha b hb e => ?_⟩
      subst e
      have h1 := q2 a hb
      have h2 := hL8.lt a (.inr ha)
      omega
    · intro c hc
      rcases List.mem_append.1 hc with hc | hc
      · exact hge c hc
      · have := q2 c hc; omega
  · rintro S' ⟨s', fl', ow', hL, hnd, hge⟩
    refine .inl ?_
    rw [hlen, List.take_length] at hL
    repeat (first | refine ptrW_of ?_ | refine hL.new fun bk S' hL hbk hnk => ?_ | (first | refine hL.ld 0 rfl (by kernel_rfl) _ rfl ?_ | refine hL.ld 1 rfl (by kernel_rfl) _ rfl ?_ | refine hL.ld 2 rfl (by kernel_rfl) _ rfl ?_ | refine hL.ld 3 rfl (by kernel_rfl) _ rfl ?_ | refine hL.ld 4 rfl (by kernel_rfl) _ rfl ?_ | refine hL.ld 5 rfl (by kernel_rfl) _ rfl ?_ | refine hL.ld 6 rfl (by kernel_rfl) _ rfl ?_ | refine hL.ld 7 rfl (by kernel_rfl) _ rfl ?_ | refine hL.lda 0 rfl (by kernel_rfl) _ rfl ?_ | refine hL.lda 1 rfl (by kernel_rfl) _ rfl ?_ | refine hL.lda 2 rfl (by kernel_rfl) _ rfl ?_ | refine hL.lda 3 rfl (by kernel_rfl) _ rfl ?_ | refine hL.lda 4 rfl (by kernel_rfl) _ rfl ?_ | refine hL.lda 5 rfl (by kernel_rfl) _ rfl ?_ | refine hL.lda 6 rfl (by kernel_rfl) _ rfl ?_ | refine hL.lda 7 rfl (by kernel_rfl) _ rfl ?_) | (first | refine hL.st 0 _ rfl (by kernel_rfl) rfl (Nat.le_of_ble_eq_true rfl) rfl rfl fun S' hL hn' => ?_ | refine hL.st 1 _ rfl (by kernel_rfl) rfl (Nat.le_of_ble_eq_true rfl) rfl rfl fun S' hL hn' => ?_ | refine hL.st 2 _ rfl (by kernel_rfl) rfl (Nat.le_of_ble_eq_true rfl) rfl rfl fun S' hL hn' => ?_ | refine hL.st 3 _ rfl (by kernel_rfl) rfl (Nat.le_of_ble_eq_true rfl) rfl rfl fun S' hL hn' => ?_ | refine hL.st 4 _ rfl (by kernel_rfl) rfl (Nat.le_of_ble_eq_true rfl) rfl rfl fun S' hL hn' => ?_ | refine hL.st 5 _ rfl (by kernel_rfl) rfl (Nat.le_of_ble_eq_true rfl) rfl rfl fun S' hL hn' => ?_ | refine hL.st 6 _ rfl (by kernel_rfl) rfl (Nat.le_of_ble_eq_true rfl) rfl rfl fun S' hL hn' => ?_ | refine hL.st 7 _ rfl (by kernel_rfl) rfl (Nat.le_of_ble_eq_true rfl) rfl rfl fun S' hL hn' => ?_) | (first | refine hL.has 0 rfl ?_ | refine hL.has 1 rfl ?_ | refine hL.has 2 rfl ?_ | refine hL.has 3 rfl ?_ | refine hL.has 4 rfl ?_ | refine hL.has 5 rfl ?_ | refine hL.has 6 rfl ?_ | refine hL.has 7 rfl ?_) | (first | refine hL.upd 0 rfl fun S' hL hn' => ?_ | refine hL.upd 1 rfl fun S' hL hn' => ?_ | refine hL.upd 2 rfl fun S' hL hn' => ?_ | refine hL.upd 3 rfl fun S' hL hn' => ?_ | refine hL.upd 4 rfl fun S' hL hn' => ?_ | refine hL.upd 5 rfl fun S' hL hn' => ?_ | refine hL.upd 6 rfl fun S' hL hn' => ?_ | refine hL.upd 7 rfl fun S' hL hn' => ?_))
    exact hk s' _ ⟨fl', ow', hL.p.1, hL.p.2, hnd, hge⟩ hL.mod
end
end Go.Proofs.Ytcookjolkhcjhaa
