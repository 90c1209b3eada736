/- Bags: a byte is spoilt. -/
import Derived.Test.YtcookjolkhcjhaaBag13
namespace Go.Proofs.Ytcookjolkhcjhaa
open Go Go.Proofs.Ytcookjolkhcjhaa.D
set_option linter.unusedVariables false
set_option linter.unusedSimpArgs false
noncomputable section

theorem flatB (l : List Int) : l.flatMap cellB = l.map (fun n => Value.int .u8 n) := by
  induction l with
  | nil => rfl
  | cons x r ih => rw [List.flatMap_cons, ih]; rfl
theorem setB {dl : List Int} {i : Nat} (hi : i < dl.length) (v : Int) : (dl.flatMap cellB).take (0 + i * 1) ++ ([Value.int .u8 v] ++ (dl.flatMap cellB).drop (0 + i * 1 + 1)) = (dl.set i v).flatMap cellB := by
  rw [flatB, flatB, List.set_eq_take_append_cons_drop, if_pos hi]
  simp
theorem getB {dl : List Int} {i : Nat} (hi : i < dl.length) : (dl.flatMap cellB)[0 + i * 1]? = some (Value.int .u8 (dl.getD i 0)) := by
  rw [flatB]
  simp [hi]
theorem cell_get {A v B : List Value} {n j : Nat} (hA : A.length = n) (hj : j < v.length) : (A ++ (v ++ B))[0 + n + j]? = v[j]? := by
  rw [List.getElem?_append_right (by omega), List.getElem?_append_left (by omega)]
  congr 1; omega
theorem cell_set {A v B : List Value} {n j : Nat} {w : Value} (hA : A.length = n) (hj : j < v.length) : (A ++ (v ++ B)).take (0 + n + j) ++ ([w] ++ (A ++ (v ++ B)).drop (0 + n + j + 1)) = A ++ (v.set j w ++ B) := by
  have e1 : (A ++ (v ++ B)).take (0 + n + j) = A ++ v.take j := by
    rw [List.take_append, List.take_of_length_le (by omega), List.take_append_of_le_length (by omega)]
    congr 2; omega
  have e2 : (A ++ (v ++ B)).drop (0 + n + j + 1) = v.drop (j + 1) ++ B := by
    rw [List.drop_append, List.drop_of_length_le (by omega), List.nil_append, List.drop_append_of_le_length (by omega)]
    congr 2; omega
  rw [e1, e2, List.set_eq_take_append_cons_drop, if_pos hj]
  simp
/-- A bag while a byte of one is spoilt. -/
def BagU (bb lb : Nat) (s : Sl) (last : Int) (c : Cnt) (n : Nat) (A B : List Value) (X : Flt) (fl1 fl2 : List Flt) (l1 l2 : List Pk) (ow1 ow2 : List Nat) (d : Sl) (dl : List Int) (o : List Nat) (S : St) : Prop :=
  At S bb (bagO s last c) ∧ At S lb (.cells (A ++ (cellsF X ++ B)) (some 5) false none) ∧ Pks S fl1 l1 ow1 ∧ DatB S d dl o ∧ Pks S fl2 l2 ow2
theorem BagU.frm {bb lb : Nat} {s : Sl} {last : Int} {c : Cnt} {n : Nat} {A B : List Value} {X : Flt} {fl1 fl2 : List Flt} {l1 l2 : List Pk} {ow1 ow2 : List Nat} {d : Sl} {dl : List Int} {o : List Nat} {O : Nat → Prop}
    (h1 : O bb) (h2 : O lb) (h4 : ∀ c ∈ ow1, O c) (h5 : ∀ c ∈ o, O c) (h6 : ∀ c ∈ ow2, O c) : Frm O (BagU bb lb s last c n A B X fl1 fl2 l1 l2 ow1 ow2 d dl o) :=
  Frm.conj (Frm.at h1) (Frm.conj (Frm.at h2) (Frm.conj (Frm.pks h4) (Frm.conj (Frm.dat h5) (Frm.pks h6))))
theorem b31 {S : St} {bb m : Nat} {st : BagS} {own : List Nat} {n a w : Int} {k : Value → St → Prop} (h : BagIs S bb st own) (ok : BagOk m st) (hm : m < 1000000)
    (hk : ∀ own' S', BagIs S' bb (spoilS st n a w).2 own' → (∀ c ∈ own', c ∈ own ∨ S.next ≤ c) → Mod (fun b => b ∈ own) S S' → k (.int .i64 (spoilS st n a w).1) S') :
    WC E0 31 [.pointer (some ⟨bb, 0, none⟩), .int .i64 n, .int .i64 a, .int .u8 w] S k := by
  have hB := h
  obtain ⟨s, fl, ow, h1, h2, h3, h4, rfl⟩ := h
  have hlen := h3.len
  have o1 := ok.len
  have o5 := ok.c5
  refine w31 _ n a w ?_
  unfold c31
  unfold spoilS at hk
  refine evC_of (s56 h1 (h2.of fun _ => rfl) (by omega) fun S1 e1 => ⟨placeF fl n, rfl, ?_⟩)
  rw [h3.place n]
  cases hi : idxS st.l n with
  | none =>
    rw [hi] at hk
    refine ifW_ndec (fun _ => ?_) fun h => by cases h
    exact hk _ S1 (hB.ext e1) (fun c hc => .inl hc) (e1.mono fun _ h _ => h.elim)
  | some i =>
    rw [hi] at hk
    obtain ⟨hil, _, _⟩ := idxS_lt hi
    refine ifW_ndec (fun h => (h rfl).elim) fun _ => ?_
    obtain ⟨fl1, p, d, fl2, l1, l2, ow1, o, ow2, q1, q2, q3, q4, q5, g1, g2, g3⟩ := h3.at i hil
    have ep : st.l[i]? = some p := by rw [q4]; simp [← q2]
    have es : ∀ x, st.l.set i x = l1 ++ x :: l2 := fun x => by rw [q4, List.set_append_right _ _ (by omega)]; simp [← q2]
    simp only [ep, es] at hk
    have hfull := hk
    rcases h2 with ⟨hnil, _⟩ | ⟨lb, rest, hlb, rfl, hat, hrest⟩
    · rw [hnil] at hlen; simp at hlen; omega
    have eA : (fl1.flatMap cellsF).length = i * 5 := by rw [flat_len (sz := 5) fun _ => rfl, q1]
    have ecs : fl.flatMap cellsF ++ rest = fl1.flatMap cellsF ++ (cellsF (fltOf p d) ++ (fl2.flatMap cellsF ++ rest)) := by rw [q3]; simp
    have hbl : blk ⟨some ⟨lb, 0, none⟩, fl.length, inex⟩ = [lb] := rfl
    rw [hbl] at hfull hk hB
    have hlt := fun c (hc : c ∈ bb :: ([lb] ++ ow)) => hB.lt hc
    have hat0 := hat
    rw [ecs] at hat
    have hL := Cx.start (S := S1) (O := fun c => c ∈ bb :: ([lb] ++ ow)) (P := BagU bb lb ⟨some ⟨lb, 0, none⟩, fl.length, inex⟩ st.last st.c i (fl1.flatMap cellsF) (fl2.flatMap cellsF ++ rest) (fltOf p d) fl1 fl2 l1 l2 ow1 ow2 d p.2.2.2.1 o) (fun c => c ∈ bb :: ([lb] ++ ow))
      ⟨e1.at h1, e1.at hat, g1.mod e1.kp fun _ _ h => h, mod_datB e1.kp g2 fun _ _ h => h, g3.mod e1.kp fun _ _ h => h⟩
      (BagU.frm (by simp) (by simp) (fun c hc => by simp [q5, hc]) (fun c hc => by simp [q5, hc]) (fun c hc => by simp [q5, hc])) (fun c hc => by have := hlt c hc; have := e1.next; omega)
    obtain ⟨p1, p2, p3, p4, p5⟩ := hL.p
    have hi0 : (0 : Int) ≤ (i : Int) := by omega
    have hi1 : (i : Int) < ((⟨some ⟨lb, 0, none⟩, fl.length, inex⟩ : Sl).len : Int) := by simp only; omega
    have hno : (p.2.2.2.2 = true ∨ a < 0 ∨ (p.2.2.2.1.length : Int) ≤ a ∨ w = 0) → k (.int .i64 80) S1 := fun hc => by
      rw [if_pos hc] at hk
      exact hk _ S1 (hB.ext e1) (fun c hc => .inl hc) (e1.mono fun _ h _ => h.elim)
    refine ptrW_of (ptrW_of ?_)
    refine evV_of ⟨some ⟨lb, 0, none⟩, fl.length, inex⟩ (load_one p1 (by kernel_rfl)) ?_
    refine ⟨lb, 0, rfl, hi0, hi1, ptrW_of ?_⟩
    refine evV_of p.2.2.2.2 ((load_one p2 (by kernel_rfl)).trans (cell_get (j := 4) eA (by simp))) ?_
    refine ifW_of (fun hs => hno (.inl hs)) fun hs => ?_
    refine ifW_dec (fun ha => hno (.inr (.inl ha))) fun ha => ?_
    refine ptrW_of (ptrW_of ?_)
    refine evV_of ⟨some ⟨lb, 0, none⟩, fl.length, inex⟩ (load_one p1 (by kernel_rfl)) ?_
    refine ⟨lb, 0, rfl, hi0, hi1, ptrW_of ?_⟩
    refine evV_of d ((load_one p2 (by kernel_rfl)).trans (cell_get (j := 3) eA (by simp))) ?_
    have hdl : d.len = p.2.2.2.1.length := p4.of.len
    rw [hdl]
    refine ifW_dec (fun hb => hno (.inr (.inr (.inl hb)))) fun hb => ?_
    refine ifW_dec (fun hw => hno (.inr (.inr (.inr hw)))) fun hw => ?_
    rw [if_neg (by rintro (h | h | h | h) <;> simp_all)] at hfull
    clear hk
    refine ptrW_of (ptrW_of ?_)
    refine evV_of ⟨some ⟨lb, 0, none⟩, fl.length, inex⟩ (load_one p1 (by kernel_rfl)) ?_
    refine ⟨lb, 0, rfl, hi0, hi1, ptrW_of ?_⟩
    refine evV_of d ((load_one p2 (by kernel_rfl)).trans (cell_get (j := 3) eA (by simp))) ?_
    obtain ⟨j, rfl⟩ : ∃ j : Nat, a = j := ⟨a.toNat, by omega⟩
    have hj : j < p.2.2.2.1.length := by omega
    rcases p4 with ⟨hnil, _⟩ | ⟨db, cap, more, rfl, hd, hdat, hmo⟩
    · rw [hnil] at hj; cases hj
    subst hd
    have hne : p.2.2.2.1 ≠ [] := by intro h; rw [h] at hj; cases hj
    obtain rfl : more = some 1 := hmo.resolve_right fun h => hne h.1
    refine ⟨db, 0, rfl, ha |> fun _ => by omega, by simp only; omega, ?_⟩
    refine evV_of (p.2.2.2.1.getD j 0) ((load_one hdat (by kernel_rfl)).trans (getB hj)) ?_
    refine ⟨db, 0, rfl, by omega, by simp only; omega, ?_⟩
    have hst : storeV E0 S1 5 (.pointer (some ⟨db, 0 + Int.toNat (j : Int) * 1, none⟩)) (.int .u8 (xorI .u8 (p.2.2.2.1.getD j 0) w)) = some (S1.upd db (.cells ((p.2.2.2.1.set j (byteX (p.2.2.2.1.getD j 0) w)).flatMap cellB) (some 1) false none)) :=
      (store_cells (n := 1) hdat (by kernel_rfl) rfl (by rw [flatB, List.length_map]; show 0 + j * 1 + 1 ≤ _; omega) rfl).trans (by rw [← setB hj]; rfl)
    refine ⟨_, hst, ?_⟩
    have m2 : Mod (fun c => c = db) S1 (S1.upd db (.cells ((p.2.2.2.1.set j (byteX (p.2.2.2.1.getD j 0) w)).flatMap cellB) (some 1) false none)) := upd_mod
    have a2 := upd_at (o' := .cells ((p.2.2.2.1.set j (byteX (p.2.2.2.1.getD j 0) w)).flatMap cellB) (some 1) false none) hdat
    generalize S1.upd db (.cells ((p.2.2.2.1.set j (byteX (p.2.2.2.1.getD j 0) w)).flatMap cellB) (some 1) false none) = S2 at m2 a2 ⊢
    have hnod := h4
    rw [q5, List.nodup_append] at hnod
    obtain ⟨n1, n2, n3⟩ := hnod
    rw [List.nodup_append] at n2
    have hd1 : ∀ b ∈ ow1, b ≠ db := fun b hb e => n3 b hb db (by simp) e
    have hd2 : ∀ b ∈ ow2, b ≠ db := fun b hb e => n2.2.2 db (by simp) b hb e.symm
    have hdb : bb ≠ db := at_ne p1 hdat (by simp)
    have hdl2 : lb ≠ db := at_ne p2 hdat (by simp)
    have hn2 := m2.next
    have hL := hL.op (O' := fun c => c ∈ bb :: ([lb] ++ ow)) (P' := BagU bb lb ⟨some ⟨lb, 0, none⟩, fl.length, inex⟩ st.last st.c i (fl1.flatMap cellsF) (fl2.flatMap cellsF ++ rest) (fltOf p ⟨some ⟨db, 0, none⟩, p.2.2.2.1.length, cap⟩) fl1 fl2 l1 l2 ow1 ow2 ⟨some ⟨db, 0, none⟩, p.2.2.2.1.length, cap⟩ (p.2.2.2.1.set j (byteX (p.2.2.2.1.getD j 0) w)) [db]) m2
      (fun c hc => by subst hc; simp [q5]) (fun c hc _ => by subst hc; simp [q5])
      ⟨m2.at p1 hdb, m2.at p2 hdl2, p3.mod m2.kp hd1, .inr ⟨db, cap, some 1, rfl, by simp, a2, .inl rfl⟩, p5.mod m2.kp hd2⟩
      (BagU.frm (by simp) (by simp) (fun c hc => by simp [q5, hc]) (fun c hc => by simp only [List.mem_cons, List.not_mem_nil, or_false] at hc; subst hc; simp [q5]) (fun c hc => by simp [q5, hc])) (fun c hc => .inl hc) (fun c hc => by have := hlt c hc; have := e1.next; omega)
    obtain ⟨p1, p2, p3, p4, p5⟩ := hL.p
    refine ptrW_of (ptrW_of ?_)
    refine evV_of ⟨some ⟨lb, 0, none⟩, fl.length, inex⟩ (load_one p1 (by kernel_rfl)) ?_
    refine ⟨lb, 0, rfl, hi0, hi1, ptrW_of ?_⟩
    have hst : storeV E0 S2 4 (.pointer (some ⟨lb, 0 + Int.toNat (i : Int) * 5 + 4, none⟩)) (.bool true) = some (S2.upd lb (.cells (fl1.flatMap cellsF ++ (cellsF (p.1, p.2.1, p.2.2.1, ⟨some ⟨db, 0, none⟩, p.2.2.2.1.length, cap⟩, true) ++ (fl2.flatMap cellsF ++ rest))) (some 5) false none)) :=
      (store_cells (n := 1) p2 (by kernel_rfl) rfl (by simp only [List.length_append, eA]; show 0 + i * 5 + 4 + 1 ≤ i * 5 + (5 + _); omega) rfl).trans (by
        have := cell_set (A := fl1.flatMap cellsF) (v := cellsF (fltOf p ⟨some ⟨db, 0, none⟩, p.2.2.2.1.length, cap⟩)) (B := fl2.flatMap cellsF ++ rest) (j := 4) (w := .bool true) eA (by simp)
        exact congrArg (fun x => some (S2.upd lb (.cells x (some 5) false none))) this)
    refine ⟨_, hst, ?_⟩
    have m3 : Mod (fun c => c = lb) S2 (S2.upd lb (.cells (fl1.flatMap cellsF ++ (cellsF (p.1, p.2.1, p.2.2.1, ⟨some ⟨db, 0, none⟩, p.2.2.2.1.length, cap⟩, true) ++ (fl2.flatMap cellsF ++ rest))) (some 5) false none)) := upd_mod
    have a3 := upd_at (o' := .cells (fl1.flatMap cellsF ++ (cellsF (p.1, p.2.1, p.2.2.1, ⟨some ⟨db, 0, none⟩, p.2.2.2.1.length, cap⟩, true) ++ (fl2.flatMap cellsF ++ rest))) (some 5) false none) p2
    generalize S2.upd lb (.cells (fl1.flatMap cellsF ++ (cellsF (p.1, p.2.1, p.2.2.1, ⟨some ⟨db, 0, none⟩, p.2.2.2.1.length, cap⟩, true) ++ (fl2.flatMap cellsF ++ rest))) (some 5) false none) = S3 at m3 a3 ⊢
    have hl1 : ∀ b ∈ ow1, b ≠ lb := fun b hb e => by
      obtain ⟨x, h, hx⟩ := p3.blk hb
      rw [at_inj h (e ▸ p2)] at hx; cases hx
    have hl2 : ∀ b ∈ ow2, b ≠ lb := fun b hb e => by
      obtain ⟨x, h, hx⟩ := p5.blk hb
      rw [at_inj h (e ▸ p2)] at hx; cases hx
    have hl3 : ∀ b ∈ [db], b ≠ lb := fun b hb => by simp only [List.mem_cons, List.not_mem_nil, or_false] at hb; subst hb; exact hdl2.symm
    have hn3 := m3.next
    have hL := hL.op (O' := fun c => c ∈ bb :: ([lb] ++ ow)) (P' := BagU bb lb ⟨some ⟨lb, 0, none⟩, fl.length, inex⟩ st.last st.c i (fl1.flatMap cellsF) (fl2.flatMap cellsF ++ rest) (p.1, p.2.1, p.2.2.1, ⟨some ⟨db, 0, none⟩, p.2.2.2.1.length, cap⟩, true) fl1 fl2 l1 l2 ow1 ow2 ⟨some ⟨db, 0, none⟩, p.2.2.2.1.length, cap⟩ (p.2.2.2.1.set j (byteX (p.2.2.2.1.getD j 0) w)) [db]) m3
      (fun c hc => by subst hc; simp) (fun c hc _ => by subst hc; simp)
      ⟨m3.at p1 (fun h => by omega), a3, p3.mod m3.kp hl1, mod_datB m3.kp p4 hl3, p5.mod m3.kp hl2⟩
      (BagU.frm (by simp) (by simp) (fun c hc => by simp [q5, hc]) (fun c hc => by simp only [List.mem_cons, List.not_mem_nil, or_false] at hc; subst hc; simp [q5]) (fun c hc => by simp [q5, hc])) (fun c hc => .inl hc) (fun c hc => by have := hlt c hc; have := e1.next; omega)
    obtain ⟨p1, p2, p3, p4, p5⟩ := hL.p
    refine ptrW_of (ptrW_of (ptrW_of ?_))
    refine evV_of st.c.2.2.2.2.1 (load_one p1 (by kernel_rfl)) ?_
    refine ptrW_of (ptrW_of (ptrW_of ?_))
    rw [wrap_i64 (by omega) (by omega)]
    refine ⟨_, store_cells p1 (n := 1) (by kernel_rfl) rfl (Nat.le_of_ble_eq_true rfl) rfl, ?_⟩
    have m4 : Mod (fun c => c = bb) S3 (S3.upd bb (bagO ⟨some ⟨lb, 0, none⟩, fl.length, inex⟩ st.last (st.c.1, st.c.2.1, st.c.2.2.1, st.c.2.2.2.1, st.c.2.2.2.2.1 + 1, st.c.2.2.2.2.2))) := upd_mod
    have a4 := upd_at (o' := bagO ⟨some ⟨lb, 0, none⟩, fl.length, inex⟩ st.last (st.c.1, st.c.2.1, st.c.2.2.1, st.c.2.2.2.1, st.c.2.2.2.2.1 + 1, st.c.2.2.2.2.2)) p1
    show k _ (S3.upd bb (bagO ⟨some ⟨lb, 0, none⟩, fl.length, inex⟩ st.last (st.c.1, st.c.2.1, st.c.2.2.1, st.c.2.2.2.1, st.c.2.2.2.2.1 + 1, st.c.2.2.2.2.2)))
    generalize S3.upd bb (bagO ⟨some ⟨lb, 0, none⟩, fl.length, inex⟩ st.last (st.c.1, st.c.2.1, st.c.2.2.1, st.c.2.2.2.1, st.c.2.2.2.2.1 + 1, st.c.2.2.2.2.2)) = S4 at m4 a4 ⊢
    have hb1 : ∀ b ∈ ow1, b ≠ bb := fun b hb e => by
      obtain ⟨x, h, hx⟩ := p3.blk hb
      rw [at_inj h (e ▸ p1)] at hx; cases hx
    have hb2 : ∀ b ∈ ow2, b ≠ bb := fun b hb e => by
      obtain ⟨x, h, hx⟩ := p5.blk hb
      rw [at_inj h (e ▸ p1)] at hx; cases hx
    have hb3 : ∀ b ∈ [db], b ≠ bb := fun b hb => by simp only [List.mem_cons, List.not_mem_nil, or_false] at hb; subst hb; exact hdb.symm
    have hm4 : Mod (fun b => b ∈ bb :: ([lb] ++ ow)) S1 S4 := hL.mod.trans (m4.mono fun c hc _ => by subst hc; simp) fun b h _ => h
    refine hfull (bb :: ([lb] ++ (ow1 ++ ([db] ++ ow2)))) S4 ⟨⟨some ⟨lb, 0, none⟩, fl.length, inex⟩, fl1 ++ (fltOf (p.1, p.2.1, p.2.2.1, p.2.2.2.1.set j (byteX (p.2.2.2.1.getD j 0) w), true) ⟨some ⟨db, 0, none⟩, p.2.2.2.1.length, cap⟩) :: fl2, ow1 ++ ([db] ++ ow2), a4, ?_, ?_, ?_, rfl⟩ (fun c hc => .inl ?_) ?_
    · refine .inr ⟨lb, rest, hlb, ?_, ?_, ?_⟩
      · rw [q3]; simp
      · have := m4.at p2 (fun h => by omega)
        simpa using this
      · have : fl.length = fl1.length + (fl2.length + 1) := by rw [q3]; simp
        simp only [List.length_append, List.length_cons]; omega
    · exact (p3.mod m4.kp hb1).app (.cons (mod_datB m4.kp p4 hb3) (p5.mod m4.kp hb2))
    · rw [← q5]; exact h4
    · rw [q5]; exact hc
    · refine Mod.trans (F := fun b => b ∈ bb :: ([lb] ++ ow)) (e1.mono fun _ h _ => h.elim) hm4 fun b h _ => h
end
end Go.Proofs.Ytcookjolkhcjhaa
