/- Parts of the proof, put together. -/
import Derived.Test.YtfopfocedlbihaaGreatDoorDI
import Derived.Lib.IndexMore
/- Pages: what is read of a line (plain laws). -/
namespace Go.Proofs.YtfopfocedlbihaaGreatDoor
open Go Go.Proofs.YtfopfocedlbihaaGreatDoor.D
set_option linter.unusedVariables false
set_option linter.unusedSimpArgs false
noncomputable section

/-! ### Parted by a byte -/
def wdc (b : UInt8) : List UInt8 → List (List UInt8)
  | [] => [[]]
  | c :: r => if c = b then [] :: wdc b r else headC c (wdc b r)
theorem wdc_32 : ∀ s, wdc 32 s = wd s
  | [] => rfl
  | c :: r => by
    show (if c = 32 then _ else _) = (if c = 32 then _ else _)
    rw [wdc_32 r]
theorem wdc_ne (b : UInt8) (s : List UInt8) : wdc b s ≠ [] := by
  cases s with
  | nil => simp [wdc]
  | cons c r =>
    unfold wdc
    split
    · simp
    · cases wdc b r <;> simp [headC]
theorem wdc_snoc_sp (b : UInt8) : ∀ (l : List UInt8), wdc b (l ++ [b]) = wdc b l ++ [[]]
  | [] => by show (if b = b then _ else _) = _; rw [if_pos rfl]; rfl
  | c :: r => by
    have ih := wdc_snoc_sp b r
    rw [List.cons_append]
    show (if c = b then _ else _) = (if c = b then _ else _) ++ _
    rw [ih]
    split
    · rfl
    · cases h : wdc b r with
      | nil => exact (wdc_ne b r h).elim
      | cons w t => rfl
theorem wdc_snoc {b c : UInt8} (hc : c ≠ b) : ∀ (l : List UInt8), wdc b (l ++ [c]) = lastC c (wdc b l)
  | [] => by show (if c = b then _ else _) = _; rw [if_neg hc]; rfl
  | d :: r => by
    have ih := wdc_snoc hc r
    rw [List.cons_append]
    show (if d = b then _ else _) = lastC c (if d = b then _ else _)
    rw [ih]
    split
    · rw [lastC_cons (wdc_ne b r)]
    · rw [headC_last (wdc_ne b r)]
theorem wdc_one {b : UInt8} : ∀ {w : List UInt8}, b ∉ w → wdc b w = [w]
  | [], _ => rfl
  | c :: r, h => by
    have hc : c ≠ b := fun e => h (by simp [e])
    show (if c = b then _ else _) = _
    rw [if_neg hc, wdc_one (fun e => h (by simp [e]))]
    rfl
theorem wdc_app {b : UInt8} : ∀ {w : List UInt8} (r : List UInt8), b ∉ w → wdc b (w ++ b :: r) = w :: wdc b r
  | [], r, _ => by show (if b = b then _ else _) = _; rw [if_pos rfl]
  | c :: w, r, h => by
    have hc : c ≠ b := fun e => h (by simp [e])
    rw [List.cons_append]
    show (if c = b then _ else _) = _
    rw [if_neg hc, wdc_app r (fun e => h (by simp [e]))]
    rfl
/-! ### Numbers, kinds -/
def numA (w : List UInt8) : Int := match Lib.atoiAll w with | .ok v => v | _ => -1
def valGo : Nat → List UInt8 → Int
  | n, [] => (n : Int)
  | n, c :: r => if c.toNat < 48 ∨ 57 < c.toNat ∨ 1000000 < n then -1 else valGo (10 * n + (c.toNat - 48)) r
def valG (w : List UInt8) : Int := if w = [] then -1 else valGo 0 w
def kindS (w : List UInt8) : Int := if w = nmS 3 then 3 else if w = nmS 2 then 2 else if w = nmS 1 then 1 else 0
theorem nums : ((List.range 1024).all fun n => decide (valG (dec n) = (n : Int)) && decide (numA (dec n) = (n : Int))) = true := by kernel_rfl
theorem val_itoa {n : Int} (h0 : 0 ≤ n) (h1 : n ≤ 1023) : valG (Lib.itoa n) = n ∧ numA (Lib.itoa n) = n := by
  rw [itoa_nn h0]
  have := List.all_eq_true.1 nums n.toNat (List.mem_range.2 (by omega))
  simp only [Bool.and_eq_true, decide_eq_true_eq] at this
  rw [this.1, this.2]
  omega
theorem kind_nm {k : Int} (h : 1 ≤ k ∧ k ≤ 3) : kindS (nmS k) = k := by
  have : k = 1 ∨ k = 2 ∨ k = 3 := by omega
  rcases this with rfl | rfl | rfl <;> decide
def stepA (w : List UInt8) : Stp := (kindS (Lib.cut w [58]).1, numA (Lib.cut (Lib.cut w [58]).2.1 [58]).1, numA (Lib.cut (Lib.cut w [58]).2.1 [58]).2.1)
def stepB (w : List UInt8) : Stp := (kindS ((wdc 58 w).getD 0 []), valG ((wdc 58 w).getD 1 []), valG ((wdc 58 w).getD 2 []))
theorem idx_byte {c : UInt8} : ∀ {a : List UInt8} (b : List UInt8), c ∉ a → Lib.indexByte (a ++ c :: b) c = (a.length : Int)
  | [], b, _ => by show (if c == c then (0 : Int) else _) = _; simp
  | d :: a, b, h => by
    have hd : ¬ d = c := fun e => h (by simp [e])
    have ih := idx_byte (c := c) (a := a) b (fun e => h (List.mem_cons_of_mem _ e))
    rw [List.cons_append]
    show (if d == c then (0 : Int) else if Lib.indexByte (a ++ c :: b) c == -1 then -1 else Lib.indexByte (a ++ c :: b) c + 1) = _
    rw [ih, if_neg (by simpa using hd), if_neg (by simp <;> omega)]
    simp
theorem cut_58 {a b : List UInt8} (h : (58 : UInt8) ∉ a) : Lib.cut (a ++ 58 :: b) [58] = (a, b, true) := by
  unfold Lib.cut
  rw [Lib.index_one, idx_byte b h, if_pos (by omega)]
  simp
theorem idx_eq : ∀ {a : List UInt8} (b : List UInt8), (61 : UInt8) ∉ a → Lib.index (a ++ 32 :: 61 :: 32 :: b) [32, 61, 32] = (a.length : Int)
  | [], b, _ => by
    show (if List.isPrefixOf [32, 61, 32] (32 :: 61 :: 32 :: b) then (0 : Int) else _) = _
    rw [if_pos (by simp [List.isPrefixOf])]
    rfl
  | d :: a, b, h => by
    have ih := idx_eq (a := a) b (fun e => h (List.mem_cons_of_mem _ e))
    rw [List.cons_append]
    show (if List.isPrefixOf [32, 61, 32] (d :: (a ++ 32 :: 61 :: 32 :: b)) then (0 : Int) else if Lib.index (a ++ 32 :: 61 :: 32 :: b) [32, 61, 32] == -1 then -1 else Lib.index (a ++ 32 :: 61 :: 32 :: b) [32, 61, 32] + 1) = _
    have hp : ¬ List.isPrefixOf [32, 61, 32] (d :: (a ++ 32 :: 61 :: 32 :: b)) = true := by
      cases a with
      | nil => simp [List.isPrefixOf]
      | cons e a =>
        have he : ¬ (61 : UInt8) = e := fun hh => h (by simp [hh])
        simp [List.isPrefixOf, he]
    rw [ih, if_neg hp, if_neg (by simp <;> omega)]
    simp
theorem cut_eq {a b : List UInt8} (h : (61 : UInt8) ∉ a) : Lib.cut (a ++ 32 :: 61 :: 32 :: b) [32, 61, 32] = (a, b, true) := by
  unfold Lib.cut
  rw [idx_eq b h, if_pos (by omega)]
  simp
/-! ### Bytes that don't stand in words -/
theorem itoa_no {c : UInt8} (hc : ¬ digB c) (h45 : c ≠ 45) (n : Int) : c ∉ Lib.itoa n := by
  unfold Lib.itoa
  split
  · intro h
    rcases List.mem_cons.1 h with h | h
    · exact h45 h
    · exact hc (dec_dig _ _ h)
  · intro h; exact hc (dec_dig _ _ h)
theorem nmS_no {c : UInt8} (hc : ∀ n : Nat, n < 4 → c ∉ tabD.getD n []) (k : Int) : c ∉ nmS k := by
  unfold nmS
  split
  · rename_i h
    exact hc k.toNat (by omega)
  · simp
theorem stepL_32 (y : Stp) : (32 : UInt8) ∉ stepL y := by
  unfold stepL
  simp only [List.mem_append, List.mem_cons, List.not_mem_nil, or_false, not_or]
  exact ⟨⟨⟨⟨nmS_no (by decide) _, by decide⟩, itoa_no (by unfold digB; decide) (by decide) _⟩, by decide⟩, itoa_no (by unfold digB; decide) (by decide) _⟩
theorem nm_61 (k : Int) : (61 : UInt8) ∉ nmL k := by
  unfold nmL
  split
  · rename_i h
    have : ∀ n : Nat, n ≤ 9 → (61 : UInt8) ∉ tabW.getD n [] := by decide
    exact this k.toNat (by omega)
  · simp
theorem words_61 (x : Ord) : ∀ w ∈ wordsO x, (61 : UInt8) ∉ w := by
  intro w hw
  unfold wordsO at hw
  rcases List.mem_cons.1 hw with rfl | hw
  · exact nm_61 _
  · obtain ⟨c, _, rfl⟩ := List.mem_map.1 hw
    unfold wordO
    repeat' split
    all_goals first | exact itoa_no (by unfold digB; decide) (by decide) _ | exact fun h => absurd (dec_dig _ _ h) (by unfold digB; decide) | decide
theorem jn_no {c : UInt8} (hc : c ≠ 32) : ∀ (l : List (List UInt8)), (∀ w ∈ l, c ∉ w) → c ∉ jn l
  | [], _ => by simp [jn, Lib.join_nil]
  | [w], h => by rw [jn_one]; exact h w (by simp)
  | w :: v :: r, h => by
    have ih := jn_no hc (v :: r) fun x hx => h x (by simp [hx])
    have h0 := h w (by simp)
    rw [jn_cons]
    intro hm
    rcases List.mem_append.1 hm with hm | hm
    · exact h0 hm
    · rcases List.mem_cons.1 hm with hm | hm
      · exact hc hm
      · exact ih hm
theorem line_61 (x : Ord) : (61 : UInt8) ∉ lineL x := jn_no (by decide) _ (words_61 x)
theorem stepA_line {y : Stp} (h : mayS y) : stepA (stepL y) = y := by
  obtain ⟨k, r, c⟩ := y
  unfold mayS at h
  dsimp only at h
  have e : stepL (k, r, c) = nmS k ++ 58 :: (Lib.itoa r ++ 58 :: Lib.itoa c) := by unfold stepL; simp
  unfold stepA
  rw [e, cut_58 (nmS_no (by decide) _)]
  dsimp only
  rw [cut_58 (itoa_no (by unfold digB; decide) (by decide) _)]
  dsimp only
  rw [kind_nm h.1, (val_itoa (by omega) (by omega)).2, (val_itoa (by omega) (by omega)).2]
theorem stepB_line {y : Stp} (h : mayS y) : stepB (stepL y) = y := by
  obtain ⟨k, r, c⟩ := y
  unfold mayS at h
  dsimp only at h
  have e : stepL (k, r, c) = nmS k ++ 58 :: (Lib.itoa r ++ 58 :: Lib.itoa c) := by unfold stepL; simp
  have e2 : wdc 58 (stepL (k, r, c)) = [nmS k, Lib.itoa r, Lib.itoa c] := by
    rw [e, wdc_app _ (nmS_no (by decide) _), wdc_app _ (itoa_no (by unfold digB; decide) (by decide) _), wdc_one (itoa_no (by unfold digB; decide) (by decide) _)]
  unfold stepB
  rw [e2]
  show (kindS (nmS k), valG (Lib.itoa r), valG (Lib.itoa c)) = _
  rw [kind_nm h.1, (val_itoa (by omega) (by omega)).1, (val_itoa (by omega) (by omega)).1]
end
end Go.Proofs.YtfopfocedlbihaaGreatDoor

/- Pages: both read the same. -/
namespace Go.Proofs.YtfopfocedlbihaaGreatDoor
open Go Go.Proofs.YtfopfocedlbihaaGreatDoor.D
set_option linter.unusedVariables false
set_option linter.unusedSimpArgs false
noncomputable section

abbrev Pgd := Ord × Int × List Stp
def zeroG : Pgd := (zeroO, 0, [])
/-- What a candidate comes to. -/
def outG (c : Pgd) (s : List UInt8) : Pgd × Int := if mayG c.1 c.2.1 c.2.2 ∧ lineG c.1 c.2.1 c.2.2 = s then (c, 0) else (zeroG, 280)
def candGA (s : List UInt8) : Pgd := ((rdL (Lib.cut s [32, 61, 32]).1).1, numA ((wd (Lib.cut s [32, 61, 32]).2.1).getD 0 []), (wd (Lib.cut s [32, 61, 32]).2.1).tail.map stepA)
def rdA (s : List UInt8) : Pgd × Int := if (Lib.cut s [32, 61, 32]).2.2 = true ∧ (rdL (Lib.cut s [32, 61, 32]).1).2 = 0 then outG (candGA s) s else (zeroG, 280)
def atB : List (List UInt8) → Nat
  | [] => 0
  | w :: r => if w = [61] then 0 else atB r + 1
def headB (s : List UInt8) : List UInt8 := jn ((wd s).take (atB (wd s)))
def candGB (s : List UInt8) : Pgd := ((rdL (headB s)).1, valG ((wd s).getD (atB (wd s) + 1) []), ((wd s).drop (atB (wd s) + 2)).map stepB)
def rdB (s : List UInt8) : Pgd × Int := if 1 ≤ atB (wd s) ∧ atB (wd s) + 1 < (wd s).length ∧ (rdL (headB s)).2 = 0 then outG (candGB s) s else (zeroG, 280)
theorem lineG_cut (o : Ord) (e : Int) (l : List Stp) : lineG o e l = lineL o ++ 32 :: 61 :: 32 :: jn (Lib.itoa e :: l.map stepL) := by
  rw [jn_flat]
  unfold lineG
  simp [List.flatMap_map]
theorem lineG_words (o : Ord) (e : Int) (l : List Stp) : lineG o e l = jn (wordsO o ++ [61] :: Lib.itoa e :: l.map stepL) := by
  rw [lineG_jn, jn_flat]
  unfold lineL wordsO
  rw [List.cons_append, jn_flat, jn_flat, List.flatMap_append]
  simp
theorem words_32 (x : Ord) : ∀ w ∈ wordsO x, (32 : UInt8) ∉ w := by
  intro w hw
  unfold wordsO at hw
  rcases List.mem_cons.1 hw with rfl | hw
  · unfold nmL
    split
    · rename_i h
      have : ∀ n : Nat, n ≤ 9 → (32 : UInt8) ∉ tabW.getD n [] := by decide
      exact this x.1.toNat (by omega)
    · simp
  · obtain ⟨c, _, rfl⟩ := List.mem_map.1 hw
    unfold wordO
    repeat' split
    all_goals first | exact itoa_no (by unfold digB; decide) (by decide) _ | exact fun h => absurd (dec_dig _ _ h) (by unfold digB; decide) | decide
theorem steps_map {l : List Stp} {f : List UInt8 → Stp} (h : ∀ y ∈ l, f (stepL y) = y) : (l.map stepL).map f = l := by
  rw [List.map_map]
  conv => rhs; rw [← List.map_id l]
  exact List.map_congr_left fun y hy => h y hy
theorem outG_line {o : Ord} {e : Int} {l : List Stp} (hm : mayG o e l) : outG (o, e, l) (lineG o e l) = ((o, e, l), 0) := if_pos ⟨hm, rfl⟩
theorem rdA_line {o : Ord} {e : Int} {l : List Stp} (hm : mayG o e l) (hw : OrdW o) : rdA (lineG o e l) = ((o, e, l), 0) := by
  have h1 : Lib.cut (lineG o e l) [32, 61, 32] = (lineL o, jn (Lib.itoa e :: l.map stepL), true) := by rw [lineG_cut, cut_eq (line_61 o)]
  have h2 : wd (jn (Lib.itoa e :: l.map stepL)) = Lib.itoa e :: l.map stepL := wd_jn (by simp) fun w hw => by
    rcases List.mem_cons.1 hw with rfl | hw
    · exact itoa_no (by unfold digB; decide) (by decide) _
    · obtain ⟨y, _, rfl⟩ := List.mem_map.1 hw
      exact stepL_32 y
  have h3 := rd_line hm.1 hw
  have hc : candGA (lineG o e l) = (o, e, l) := by
    unfold candGA
    rw [h1]
    dsimp only
    rw [h2, h3]
    show (o, numA (Lib.itoa e), (l.map stepL).map stepA) = _
    rw [(val_itoa hm.2.1.1 (by have := hm.2.1.2; omega)).2, steps_map fun y hy => stepA_line (hm.2.2.2.2 y hy)]
  unfold rdA
  rw [h1, if_pos ⟨rfl, by rw [h3]⟩, hc, outG_line hm]
theorem atB_app {ws : List (List UInt8)} {r : List (List UInt8)} (h : ∀ w ∈ ws, w ≠ [61]) : atB (ws ++ [61] :: r) = ws.length := by
  induction ws with
  | nil => show (if ([61] : List UInt8) = [61] then 0 else _) = _; rw [if_pos rfl]; rfl
  | cons w ws ih =>
    rw [List.cons_append]
    show (if w = [61] then 0 else atB (ws ++ [61] :: r) + 1) = _
    rw [if_neg (h w List.mem_cons_self), ih fun x hx => h x (List.mem_cons_of_mem _ hx)]
    rfl
theorem rdB_line {o : Ord} {e : Int} {l : List Stp} (hm : mayG o e l) (hw : OrdW o) : rdB (lineG o e l) = ((o, e, l), 0) := by
  have h2 : wd (lineG o e l) = wordsO o ++ [61] :: Lib.itoa e :: l.map stepL := by
    rw [lineG_words]
    refine wd_jn (by simp) fun w hw => ?_
    rcases List.mem_append.1 hw with hw | hw
    · exact words_32 o w hw
    rcases List.mem_cons.1 hw with rfl | hw
    · decide
    rcases List.mem_cons.1 hw with rfl | hw
    · exact itoa_no (by unfold digB; decide) (by decide) _
    · obtain ⟨y, _, rfl⟩ := List.mem_map.1 hw
      exact stepL_32 y
  have h4 : atB (wd (lineG o e l)) = (wordsO o).length := by
    rw [h2]
    exact atB_app fun w hw e => words_61 o w hw (by rw [e]; simp)
  have h5 : headB (lineG o e l) = lineL o := by
    unfold headB
    rw [h4, h2, List.take_left]
    rfl
  have h3 := rd_line hm.1 hw
  have hpos : 1 ≤ (wordsO o).length := by unfold wordsO; simp
  have g1 : (wordsO o ++ [61] :: Lib.itoa e :: l.map stepL).getD ((wordsO o).length + 1) [] = Lib.itoa e := by
    rw [List.getD_eq_getElem?_getD, List.getElem?_append_right (by omega), show (wordsO o).length + 1 - (wordsO o).length = 1 by omega]
    rfl
  have g2 : (wordsO o ++ [61] :: Lib.itoa e :: l.map stepL).drop ((wordsO o).length + 2) = l.map stepL := by
    rw [List.drop_append, List.drop_eq_nil_of_le (by omega), show (wordsO o).length + 2 - (wordsO o).length = 2 by omega]
    rfl
  have hc : candGB (lineG o e l) = (o, e, l) := by
    unfold candGB
    rw [h5, h4, h2, g1, g2, h3, (val_itoa hm.2.1.1 (by have := hm.2.1.2; omega)).1, steps_map fun y hy => stepB_line (hm.2.2.2.2 y hy)]
  unfold rdB
  rw [h4, h5, h3, if_pos ⟨hpos, by rw [h2]; simp, rfl⟩, hc, outG_line hm]
/-- Both read the same. -/
theorem rd_same (s : List UInt8) : rdA s = rdB s := by
  by_cases h : ∃ o e l, mayG o e l ∧ OrdW o ∧ lineG o e l = s
  · obtain ⟨o, e, l, h1, h2, rfl⟩ := h
    rw [rdA_line h1 h2, rdB_line h1 h2]
  · have hno : ∀ c : Pgd, OrdW c.1 → outG c s = (zeroG, 280) := by
      intro c hc
      unfold outG
      rw [if_neg fun h' => h ⟨_, _, _, h'.1, hc, h'.2⟩]
    have hA : rdA s = (zeroG, 280) := by
      unfold rdA
      split
      · exact hno _ rdL_w
      · rfl
    have hB : rdB s = (zeroG, 280) := by
      unfold rdB
      split
      · exact hno _ rdL_w
      · rfl
    rw [hA, hB]
end
end Go.Proofs.YtfopfocedlbihaaGreatDoor

/- Pages: words, numbers, steps. -/
namespace Go.Proofs.YtfopfocedlbihaaGreatDoor
open Go Go.Proofs.YtfopfocedlbihaaGreatDoor.D
set_option linter.unusedVariables false
set_option linter.unusedSimpArgs false
noncomputable section

theorem s49 {S : St} {b0 : UInt8} {l : List UInt8} {k : Value → St → Prop} (hlen : l.length ≤ 10000000) (hk : ∀ s S', Ow strC 1 S' s (wdc b0 l) → (∀ c, slO s c → S.next ≤ c) → Ext S S' → k (.slice s.a s.len s.cap) S') : WC E0 49 [strV l, .int .u8 (b0.toNat : Int)] S k := by
  refine w49 _ _ ?_
  unfold c49
  refine newW_of fun b1 S1 hb1 ha1 e1 hn1 => ?_
  have h0 : Ow strC 1 S1 ⟨some ⟨b1, 0, none⟩, 1, 1⟩ (wdc b0 (l.take 0)) := ⟨b1, [], 1, none, rfl, ha1, .inr ⟨rfl, rfl, by decide⟩⟩
  have hL := Cx.start (S := S1) noB h0 Ow.frm (fun c hc => h0.lt hc)
  have wlen : ∀ (s : List UInt8), (wdc b0 s).length ≤ s.length + 1 := by
    intro s
    induction s with
    | nil => simp [wdc]
    | cons c r ih =>
      unfold wdc
      split
      · simp; omega
      · cases h : wdc b0 r <;> rw [h] at ih <;> simp [headC] at ih ⊢ <;> omega
  refine loopW_ind (fun q (x : Sl × Int) S' => ∃ i : Nat, x.2 = i ∧ i ≤ l.length ∧ q = l.length - i ∧ Ext S S' ∧ Ow strC 1 S' x.1 (wdc b0 (l.take i)) ∧ ∀ c, slO x.1 c → S.next ≤ c) (m := l.length) ⟨0, rfl, by omega, rfl, e1, h0, fun c hc => by
    obtain ⟨o, e⟩ := hc
    cases e
    omega⟩ ?_
  rintro P q ⟨s, z⟩ S2 ⟨i, hz, hi, rfl, e2, hO, hs⟩ hP
  dsimp only at hz hO hs ⊢
  subst hz
  have hwl := wlen (l.take i)
  rw [List.length_take] at hwl
  refine ifW_dec (fun h => ?_) fun h => ?_
  · have hi3 : i < l.length := by omega
    have htk : l.take (i + 1) = l.take i ++ [l[i]] := by rw [List.take_add_one, List.getElem?_eq_getElem hi3]; rfl
    refine evV_of (ty := tU8) _ (indexD_str und9 hi3) ?_
    have hc := l[i].toNat_lt
    have n2 := e2.next
    rw [wrap_succ (by omega)]
    refine ifW_dec (fun h32 => ?_) fun h32 => ?_
    · have h32 : l[i] = b0 := UInt8.toNat_inj.1 (by omega)
      refine newW_of fun b2 S3 hb2 ha2 e3 hn3 => ?_
      refine app_str (hO.ext e3) ha2 (by omega) fun s' S4 g m hs' => ?_
      refine hP _ _ _ (by omega) ⟨i + 1, rfl, by omega, rfl, (e2.tr e3).ext m fun c hc => by have := hs c hc; omega, ?_, fun c hc => ?_⟩
      · rw [htk, h32, wdc_snoc_sp]; exact g
      · rcases hs' c hc with h | h
        · exact hs c h
        · omega
    · have h32 : l[i] ≠ b0 := fun e => h32 (by rw [e])
      have hne := wdc_ne b0 (l.take i)
      have hpos : 0 < (wdc b0 (l.take i)).length := List.length_pos_iff.2 hne
      have hlast : wrapI .i64 ((s.len : Int) - 1) = (((wdc b0 (l.take i)).length - 1 : Nat) : Int) := by
        rw [hO.len, wrap_i64 (by omega) (by omega)]; omega
      rw [hlast]
      refine SlOf.str (hO.of fun _ => rfl) (by omega) ?_
      have hsl : sliceD E0 S2 9 (.string ⟨l.toArray⟩) (some (.int .i64 (i : Int))) (some (.int .i64 ((i + 1 : Nat) : Int))) none = some (strV [l[i]]) := by
        have e1 : (l.drop i).take (i + 1 - i) = [l[i]] := by
          rw [List.drop_eq_getElem_cons hi3, show i + 1 - i = 1 by omega]; rfl
        simp only [sliceD, und9, optNat, natOf_int, Option.bind_some, List.toList_toArray]
        rw [e1, Nat.ble_eq_true_of_le (show i + 1 ≤ l.length by omega), Nat.ble_eq_true_of_le (Nat.le_succ i)]
        rfl
      refine evV_of (ty := tT) [l[i]] hsl ?_
      have hwlen : ∀ w ∈ wdc b0 (l.take i), w.length ≤ l.length := by
        have : ∀ (s : List UInt8), ∀ w ∈ wdc b0 s, w.length ≤ s.length := by
          intro s
          induction s with
          | nil => simp [wdc]
          | cons c r ih =>
            unfold wdc
            split
            · intro w hw
              rcases List.mem_cons.1 hw with rfl | hw
              · simp
              · have := ih w hw; simp; omega
            · cases h : wdc b0 r with
              | nil => exact (wdc_ne b0 r h).elim
              | cons x t =>
                rw [h] at ih
                intro w hw
                rcases List.mem_cons.1 hw with rfl | hw
                · have := ih x (by simp); simp; omega
                · have := ih w (by simp [hw]); simp; omega
        intro w hw
        have := this _ w hw
        rw [List.length_take] at this
        omega
      have hwl2 := hwlen _ (List.getElem_mem (show (wdc b0 (l.take i)).length - 1 < (wdc b0 (l.take i)).length by omega))
      refine evV_of (ty := tT) _ (cat_eq (by simp; omega)) ?_
      refine Ow.setStr hO (by omega) _ fun S3 g m hn3 => ?_
      refine hP _ _ _ (by omega) ⟨i + 1, rfl, by omega, rfl, e2.ext m fun c hc => by have := hs c hc; omega, ?_, hs⟩
      rw [htk, wdc_snoc h32, lastC_set hne, List.getD_eq_getElem?_getD, List.getElem?_eq_getElem (by omega)]
      exact g
  · have hi' : l.take i = l := List.take_of_length_le (by omega)
    rw [hi'] at hO
    exact hk s S2 hO hs e2

theorem valGo_cons (n : Nat) (c : UInt8) (r : List UInt8) : valGo n (c :: r) = if c.toNat < 48 ∨ 57 < c.toNat ∨ 1000000 < n then -1 else valGo (10 * n + (c.toNat - 48)) r := rfl
theorem s51 {S : St} {w : List UInt8} {k : Value → St → Prop} (hlen : w.length ≤ 100000000) (hk : k (.int .i64 (valG w)) S) : WC E0 51 [strV w] S k := by
  refine w51 w ?_
  unfold c51
  unfold valG at hk
  refine ifW_dec (fun h => ?_) fun h => ?_
  · have hw : w = [] := List.length_eq_zero_iff.1 (by omega)
    rw [if_pos hw] at hk
    exact hk
  have hw : w ≠ [] := fun e => h (by rw [e]; rfl)
  rw [if_neg hw] at hk
  refine loopW_ind (fun q (x : Int × Int) S' => ∃ n i : Nat, x = ((n : Int), (i : Int)) ∧ n ≤ 20000000 ∧ i ≤ w.length ∧ q = w.length - i ∧ S' = S ∧ valGo n (w.drop i) = valGo 0 w) (m := w.length) ⟨0, 0, rfl, by omega, by omega, rfl, rfl, rfl⟩ ?_
  rintro P q x S1 ⟨n, i, rfl, hn, hi, rfl, rfl, hv⟩ hP
  refine ifW_dec (fun hlt => ?_) fun hlt => ?_
  · have hi' : i < w.length := by
      have hlt : (i : Int) < (w.length : Int) := hlt
      omega
    have hc := w[i].toNat_lt
    rw [List.drop_eq_getElem_cons hi', valGo_cons] at hv
    rw [← hv] at hk
    refine evV_of (ty := tU8) _ (indexD_str und9 hi') ?_
    refine ifW_dec (fun h1 => ?_) fun h1 => ?_
    · rw [if_pos (.inl (by omega))] at hk
      exact hk
    refine evV_of (ty := tU8) _ (indexD_str und9 hi') ?_
    refine ifW_dec (fun h2 => ?_) fun h2 => ?_
    · rw [if_pos (.inr (.inl (by omega)))] at hk
      exact hk
    refine ifW_dec (fun h3 => ?_) fun h3 => ?_
    · have h3 : (1000000 : Int) < (n : Int) := h3
      rw [if_pos (.inr (.inr (by omega)))] at hk
      exact hk
    have h3 : ¬ (1000000 : Int) < (n : Int) := h3
    refine evV_of (ty := tU8) _ (indexD_str und9 hi') ?_
    rw [if_neg (by omega)] at hv
    have w1 : wrapI .u8 ((w[i].toNat : Int) - 48) = ((w[i].toNat - 48 : Nat) : Int) := by rw [wrap_u8 (by omega) (by omega)]; omega
    have w2 : wrapI .i64 ((w[i].toNat - 48 : Nat) : Int) = ((w[i].toNat - 48 : Nat) : Int) := wrap_i64 (by omega) (by omega)
    have w3 : wrapI .i64 (10 * (n : Int)) = ((10 * n : Nat) : Int) := by rw [wrap_i64 (by omega) (by omega)]; omega
    have w4 : wrapI .i64 (((10 * n : Nat) : Int) + ((w[i].toNat - 48 : Nat) : Int)) = ((10 * n + (w[i].toNat - 48) : Nat) : Int) := by rw [wrap_i64 (by omega) (by omega)]; omega
    have w5 : wrapI .i64 ((i : Int) + 1) = ((i + 1 : Nat) : Int) := wrap_succ (by omega)
    refine hP _ _ _ (by omega) ⟨10 * n + (w[i].toNat - 48), i + 1, ?_, by omega, by omega, rfl, rfl, hv⟩
    show (wrapI .i64 (wrapI .i64 (10 * (n : Int)) + wrapI .i64 (wrapI .u8 ((w[i].toNat : Int) - 48))), wrapI .i64 ((i : Int) + 1)) = _
    rw [w1, w2, w3, w4, w5]
  · have hi' : i = w.length := by
      have hlt : ¬ (i : Int) < (w.length : Int) := hlt
      omega
    rw [hi', List.drop_length] at hv
    rw [← hv] at hk
    exact hk
theorem s42 {S : St} {l sep : List UInt8} {k : Value → St → Prop} (g : Gl S) (hlen : l.length ≤ 100000000) (hk : k (.tuple #[strV (Lib.cut l sep).1, strV (Lib.cut l sep).2.1, .bool (Lib.cut l sep).2.2]) S) : WC E0 42 [strV l, strV sep] S k := by
  obtain ⟨cs, more, ro, fz, i, hat, hi⟩ := g.maxL
  have h1 : Nat.blt (bar l).size 4294967281 = true := Nat.blt_eq.mpr (by simp [bar, ByteArray.size]; omega)
  have h3 : S.load1 2 0 = some (.int .i64 i) := by rw [load1_at hat]; exact hi
  refine WC_prim (E := E0) (f := 42) rfl (show withS (cutP 2) [strV l, strV sep] S = some (_, S) from ?_) hk
  simp only [withS, cutP, h3]
  rw [show (⟨l.toArray⟩ : ByteArray) = bar l from rfl, h1]
  rfl
theorem s44 {S : St} {w : List UInt8} {k : Value → St → Prop} (g : Gl S) (hlen : w.length ≤ 100000000) (hk : k (.int .i64 (numA w)) S) : WC E0 44 [strV w] S k := by
  refine w44 w ?_
  unfold c44
  unfold numA at hk
  refine evC_of (s47e g hlen ?_)
  cases h : Lib.atoiAll w with
  | ok v =>
    rw [h] at hk
    refine ⟨(v, .nilIface), rfl, ?_⟩
    refine ⟨true, by kernel_rfl, ?_⟩
    exact hk
  | range =>
    rw [h] at hk
    refine ⟨(Lib.atoiSat w, .iface 133 noV), rfl, ?_⟩
    refine ⟨false, by kernel_rfl, ?_⟩
    exact hk
  | _ =>
    rw [h] at hk
    refine ⟨(0, .iface 133 noV), rfl, ?_⟩
    refine ⟨false, by kernel_rfl, ?_⟩
    exact hk
end
end Go.Proofs.YtfopfocedlbihaaGreatDoor
