/- Parts of the proof, put together. -/
import Derived.Test.YtabbbfdlgmoniaaDoorOB
/- Orders: a line's order, the program's. -/
namespace Go.Proofs.YtabbbfdlgmoniaaDoor
open Go Go.Proofs.YtabbbfdlgmoniaaDoor.D
set_option linter.unusedVariables false
set_option linter.unusedSimpArgs false
noncomputable section

theorem Frm.at {O : Nat → Prop} {b : Nat} {o : DObj} (h : O b) : Frm O (fun S => At S b o) := fun F S S' m hF ha => m.at ha (hF b h)
theorem wd_word : ∀ (s : List UInt8), ∀ w ∈ wd s, w.length ≤ s.length := by
  intro s
  induction s with
  | nil => simp [wd]
  | cons c r ih =>
    unfold wd
    split
    · intro w hw
      rcases List.mem_cons.1 hw with rfl | hw
      · simp
      · have := ih w hw; simp; omega
    · cases h : wd r with
      | nil => exact (wd_ne r h).elim
      | cons x t =>
        rw [h] at ih
        intro w hw
        rcases List.mem_cons.1 hw with rfl | hw
        · have := ih x (by simp); simp; omega
        · have := ih w (by simp [hw]); simp; omega
theorem wd_count (s : List UInt8) : (wd s).length ≤ s.length + 1 := by
  induction s with
  | nil => simp [wd]
  | cons c r ih =>
    unfold wd
    split
    · simp; omega
    · cases h : wd r <;> rw [h] at ih <;> simp [headC] at ih ⊢ <;> omega
theorem wd_getD (s : List UInt8) (i : Nat) : ((wd s).getD i []).length ≤ s.length := by
  rw [List.getD_eq_getElem?_getD]
  by_cases h : i < (wd s).length
  · rw [List.getElem?_eq_getElem h]
    exact wd_word s _ (List.getElem_mem h)
  · rw [List.getElem?_eq_none (by omega)]
    simp
theorem setsO_snoc : ∀ (p : List UInt8) (x : Ord) (c : UInt8) (l : List (List UInt8)), setsO x (p ++ [c]) l = setO (setsO x p l) (c.toNat : Int) (l.getD p.length [])
  | [], x, c, l => by cases l <;> rfl
  | d :: p, x, c, l => by
    show setsO (setO x _ _) (p ++ [c]) l.tail = _
    rw [setsO_snoc p]
    cases l <;> simp [setsO]
theorem setsO_succ {x : Ord} {p : List UInt8} {l : List (List UInt8)} {i : Nat} (hi : i < p.length) : setsO x (p.take (i + 1)) l = setO (setsO x (p.take i) l) (p[i].toNat : Int) (l.getD i []) := by
  rw [List.take_succ_eq_append_getElem hi, setsO_snoc, List.length_take, Nat.min_eq_left (by omega)]
theorem tail_getD {α : Type} (l : List α) (i : Nat) (d : α) : l.tail.getD i d = l.getD (i + 1) d := by cases l <;> simp
abbrev zO : DObj := .cells [.int .i64 0, .int .i64 0, .int .i64 0, .int .i64 0, .int .i64 0, .int .u64 0] none false none
abbrev boxesR (b14 b13 cK b10 b3 b2 b1 : Nat) (st : DObj) (kd : Int) (y : Ord) (s : Sl) : List (Nat × DObj) :=
  [(b14, st), (b13, .deferred), (cK, .cells [.int .i64 kd] none false none), (b10, .cells [.func (.func 46) #[] #[.pointer (some ⟨b2, 0, none⟩)]] none false none), (b3, .cells (cellsO y) none false none), (b2, .cells [.slice s.a s.len s.cap] none false none), (b1, zO)]
theorem s13 {S : St} {l : List UInt8} {k : Value → St → Prop} (g : Gl S) (hlen : l.length ≤ 100000) (hk : ∀ S', Ext S S' → k (.tuple #[sv G23 (readP (candA l) l).1, .int .i64 (readP (candA l) l).2]) S') : WC E0 13 [strV l] S k := by
  refine w13 _ ?_
  unfold c13
  have hL := Cx.start (S := S) (P := fun _ => True) noB trivial Frm.true (fun _ h => h.elim)
  refine hL.new fun b1 S1 hL _ _ => ?_
  refine evC_of (s45 (g.ext hL.mod) (by omega) fun b S2 hat hbS e2 => ⟨⟨some ⟨b, 0, none⟩, (wd l).length, (wd l).length⟩, rfl, ?_⟩)
  have hnn := e2.next
  have hL : Cx noB S S2 [(b1, zO)] (fun c => c = b) (fun S => At S b (.cells ((wd l).map strV) none false none)) :=
    hL.op e2 (fun _ h => h.elim) (fun _ h => h.elim) hat (Frm.at rfl) (fun c hc => .inr (by omega)) (fun c hc => by rw [hc]; exact hat.lt)
  have hwc := wd_count l
  have hne := wd_ne l
  have hpos : 0 < (wd l).length := List.length_pos_iff.2 hne
  have hinex := lt_inex
  have hg0 : ((wd l).map strV)[0 + Int.toNat 0 * 1]? = some (strV ((wd l).headD [])) := by
    show ((wd l).map strV)[0]? = _
    cases h : wd l with
    | nil => exact (hne h).elim
    | cons w t => rfl
  generalize hws : wd l = ws at hL hwc hne hpos hg0 ⊢
  refine hL.new fun b2 S3 hL _ _ => ?_
  (first | refine hL.st 0 _ rfl (by kernel_rfl) rfl (Nat.le_of_ble_eq_true rfl) rfl rfl fun S4 hL hn4 => ?_ | refine hL.st 1 _ rfl (by kernel_rfl) rfl (Nat.le_of_ble_eq_true rfl) rfl rfl fun S4 hL hn4 => ?_ | refine hL.st 2 _ rfl (by kernel_rfl) rfl (Nat.le_of_ble_eq_true rfl) rfl rfl fun S4 hL hn4 => ?_ | refine hL.st 3 _ rfl (by kernel_rfl) rfl (Nat.le_of_ble_eq_true rfl) rfl rfl fun S4 hL hn4 => ?_ | refine hL.st 4 _ rfl (by kernel_rfl) rfl (Nat.le_of_ble_eq_true rfl) rfl rfl fun S4 hL hn4 => ?_ | refine hL.st 5 _ rfl (by kernel_rfl) rfl (Nat.le_of_ble_eq_true rfl) rfl rfl fun S4 hL hn4 => ?_ | refine hL.st 6 _ rfl (by kernel_rfl) rfl (Nat.le_of_ble_eq_true rfl) rfl rfl fun S4 hL hn4 => ?_ | refine hL.st 7 _ rfl (by kernel_rfl) rfl (Nat.le_of_ble_eq_true rfl) rfl rfl fun S4 hL hn4 => ?_)
  refine hL.new fun b3 S5 hL _ _ => ?_
  (first | refine hL.st 0 _ rfl (by kernel_rfl) rfl (Nat.le_of_ble_eq_true rfl) rfl rfl fun S6 hL hn6 => ?_ | refine hL.st 1 _ rfl (by kernel_rfl) rfl (Nat.le_of_ble_eq_true rfl) rfl rfl fun S6 hL hn6 => ?_ | refine hL.st 2 _ rfl (by kernel_rfl) rfl (Nat.le_of_ble_eq_true rfl) rfl rfl fun S6 hL hn6 => ?_ | refine hL.st 3 _ rfl (by kernel_rfl) rfl (Nat.le_of_ble_eq_true rfl) rfl rfl fun S6 hL hn6 => ?_ | refine hL.st 4 _ rfl (by kernel_rfl) rfl (Nat.le_of_ble_eq_true rfl) rfl rfl fun S6 hL hn6 => ?_ | refine hL.st 5 _ rfl (by kernel_rfl) rfl (Nat.le_of_ble_eq_true rfl) rfl rfl fun S6 hL hn6 => ?_ | refine hL.st 6 _ rfl (by kernel_rfl) rfl (Nat.le_of_ble_eq_true rfl) rfl rfl fun S6 hL hn6 => ?_ | refine hL.st 7 _ rfl (by kernel_rfl) rfl (Nat.le_of_ble_eq_true rfl) rfl rfl fun S6 hL hn6 => ?_)
  refine loopW_ind (fun q (j : Int) S' => ∃ n : Nat, j = n ∧ n ≤ 10 ∧ q = 10 - n ∧ Cx noB S S' [(b3, .cells (cellsO (kindF (ws.headD []) n, 0, 0, 0, 0, 0)) none false none), (b2, .cells [.slice (some ⟨b, 0, none⟩) ws.length ws.length] none false none), (b1, zO)] (fun c => c = b) (fun S => At S b (.cells (ws.map strV) none false none))) (m := 10)
    ⟨0, rfl, by omega, rfl, hL⟩ ?_
  rintro P q j S7 ⟨n, rfl, hn, rfl, hL⟩ hP
  have go : ∀ {S' : St} {kd : Int}, kindF (ws.headD []) (n + 1) = kd → n < 10 → Cx noB S S' [(b3, .cells (cellsO (kd, 0, 0, 0, 0, 0)) none false none), (b2, .cells [.slice (some ⟨b, 0, none⟩) ws.length ws.length] none false none), (b1, zO)] (fun c => c = b) (fun S => At S b (.cells (ws.map strV) none false none)) → P (wrapI .i64 ((n : Int) + 1)) S' := by
    intro S' kd hkd hlt hL
    subst hkd
    rw [wrap_succ (by omega)]
    exact hP _ _ _ (by omega) ⟨n + 1, rfl, by omega, rfl, hL⟩
  refine ifW_dec (fun hlt => ?_) fun hlt => ?_
  · refine ifW_dec (fun h0 => ?_) fun h0 => ?_
    · have hkf : kindF (ws.headD []) (n + 1) = if 0 < n ∧ tabW.getD n [] = (ws.headD []) then (n : Int) else kindF (ws.headD []) n := rfl
      obtain ⟨more, ro, fz, hatw⟩ := (g.ext hL.mod).words
      refine ⟨0, 0, rfl, by omega, by omega, ?_⟩
      refine evV_of (ty := tT) (nmL n) ((load_one hatw (by kernel_rfl)).trans (tab_get (by omega) (by omega))) ?_
      refine evV_of (ty := tS) ⟨some ⟨b, 0, none⟩, ws.length, ws.length⟩ (load_one (hL.at 1 rfl) (by kernel_rfl)) ?_
      refine ⟨b, 0, rfl, by omega, by show (0 : Int) < (ws.length : Int); omega, ?_⟩
      refine evV_of (ty := tT) (ws.headD []) ((load_one hL.p (by kernel_rfl)).trans hg0) ?_
      have hnm : nmL (n : Int) = tabW.getD n [] := by unfold nmL; rw [if_pos (by omega)]; rfl
      rw [hnm]
      refine ifW_of (fun h => ?_) fun h => ?_
      · have h : tabW.getD n [] = (ws.headD []) := by simpa using h
        repeat (first | refine ptrW_of ?_ | refine sameV_of ?_ | (first | refine hL.ld 0 rfl (by kernel_rfl) _ rfl ?_ | refine hL.ld 1 rfl (by kernel_rfl) _ rfl ?_ | refine hL.ld 2 rfl (by kernel_rfl) _ rfl ?_ | refine hL.ld 3 rfl (by kernel_rfl) _ rfl ?_ | refine hL.ld 4 rfl (by kernel_rfl) _ rfl ?_ | refine hL.ld 5 rfl (by kernel_rfl) _ rfl ?_ | refine hL.ld 6 rfl (by kernel_rfl) _ rfl ?_ | refine hL.ld 7 rfl (by kernel_rfl) _ rfl ?_ | refine hL.lda 0 rfl (by kernel_rfl) _ rfl ?_ | refine hL.lda 1 rfl (by kernel_rfl) _ rfl ?_ | refine hL.lda 2 rfl (by kernel_rfl) _ rfl ?_ | refine hL.lda 3 rfl (by kernel_rfl) _ rfl ?_ | refine hL.lda 4 rfl (by kernel_rfl) _ rfl ?_ | refine hL.lda 5 rfl (by kernel_rfl) _ rfl ?_ | refine hL.lda 6 rfl (by kernel_rfl) _ rfl ?_ | refine hL.lda 7 rfl (by kernel_rfl) _ rfl ?_) | (first | refine hLo.ld 0 rfl (by kernel_rfl) _ rfl ?_ | refine hLo.ld 1 rfl (by kernel_rfl) _ rfl ?_ | refine hLo.ld 2 rfl (by kernel_rfl) _ rfl ?_ | refine hLo.ld 3 rfl (by kernel_rfl) _ rfl ?_ | refine hLo.ld 4 rfl (by kernel_rfl) _ rfl ?_ | refine hLo.ld 5 rfl (by kernel_rfl) _ rfl ?_ | refine hLo.ld 6 rfl (by kernel_rfl) _ rfl ?_ | refine hLo.ld 7 rfl (by kernel_rfl) _ rfl ?_ | refine hLo.lda 0 rfl (by kernel_rfl) _ rfl ?_ | refine hLo.lda 1 rfl (by kernel_rfl) _ rfl ?_ | refine hLo.lda 2 rfl (by kernel_rfl) _ rfl ?_ | refine hLo.lda 3 rfl (by kernel_rfl) _ rfl ?_ | refine hLo.lda 4 rfl (by kernel_rfl) _ rfl ?_ | refine hLo.lda 5 rfl (by kernel_rfl) _ rfl ?_ | refine hLo.lda 6 rfl (by kernel_rfl) _ rfl ?_ | refine hLo.lda 7 rfl (by kernel_rfl) _ rfl ?_))
        (first | refine hL.st 0 _ rfl (by kernel_rfl) rfl (Nat.le_of_ble_eq_true rfl) rfl rfl fun S8 hL hn8 => ?_ | refine hL.st 1 _ rfl (by kernel_rfl) rfl (Nat.le_of_ble_eq_true rfl) rfl rfl fun S8 hL hn8 => ?_ | refine hL.st 2 _ rfl (by kernel_rfl) rfl (Nat.le_of_ble_eq_true rfl) rfl rfl fun S8 hL hn8 => ?_ | refine hL.st 3 _ rfl (by kernel_rfl) rfl (Nat.le_of_ble_eq_true rfl) rfl rfl fun S8 hL hn8 => ?_ | refine hL.st 4 _ rfl (by kernel_rfl) rfl (Nat.le_of_ble_eq_true rfl) rfl rfl fun S8 hL hn8 => ?_ | refine hL.st 5 _ rfl (by kernel_rfl) rfl (Nat.le_of_ble_eq_true rfl) rfl rfl fun S8 hL hn8 => ?_ | refine hL.st 6 _ rfl (by kernel_rfl) rfl (Nat.le_of_ble_eq_true rfl) rfl rfl fun S8 hL hn8 => ?_ | refine hL.st 7 _ rfl (by kernel_rfl) rfl (Nat.le_of_ble_eq_true rfl) rfl rfl fun S8 hL hn8 => ?_)
        exact go (by rw [hkf, if_pos ⟨by omega, h⟩]) (by omega) hL
      · have h : ¬ tabW.getD n [] = (ws.headD []) := by simpa using h
        exact go (by rw [hkf, if_neg (fun h' => h h'.2)]) (by omega) hL
    · have hkf : kindF (ws.headD []) (n + 1) = kindF (ws.headD []) n := by
        show (if 0 < n ∧ _ then _ else _) = _
        rw [if_neg (by omega)]
      exact go hkf (by omega) hL
  have hn10 : n = 10 := by omega
  subst hn10
  generalize hkd : kindF (ws.headD []) 10 = kd at hL
  have hcand : candA l = setsO (kd, 0, 0, 0, 0, 0) (partsB kd) ws.tail := by
    unfold candA
    rw [hws]
    dsimp only
    rw [hkd]
  refine evV_of (ty := tS) ⟨some ⟨b, 0, none⟩, ws.length, ws.length⟩ (load_one (hL.at 1 rfl) (by kernel_rfl)) ?_
  refine evV_of (ty := tS) ⟨some ⟨b, cond (Nat.beq ws.length 1) 0 (0 + 1 * 1), none⟩, ws.length - 1, ws.length - 1⟩ (sliceD_some (lo := 1) (hi := ws.length) (mx := ws.length) und80 size9 rfl (show ws.length < inex by omega) (natOf_int (k := .i64) (n := 1)) rfl rfl (by omega) (Nat.le_refl _) (Nat.le_refl _)) ?_
  have ho1 : 0 + 1 < ws.length → cond (Nat.beq ws.length 1) 0 (0 + 1 * 1) = 0 + 1 := fun h => by rw [PM.beq_f (by omega)]; rfl
  generalize cond (Nat.beq ws.length 1) 0 (0 + 1 * 1) = o1 at ho1 ⊢
  (first | refine hL.st 0 _ rfl (by kernel_rfl) rfl (Nat.le_of_ble_eq_true rfl) rfl rfl fun S8 hL hn8 => ?_ | refine hL.st 1 _ rfl (by kernel_rfl) rfl (Nat.le_of_ble_eq_true rfl) rfl rfl fun S8 hL hn8 => ?_ | refine hL.st 2 _ rfl (by kernel_rfl) rfl (Nat.le_of_ble_eq_true rfl) rfl rfl fun S8 hL hn8 => ?_ | refine hL.st 3 _ rfl (by kernel_rfl) rfl (Nat.le_of_ble_eq_true rfl) rfl rfl fun S8 hL hn8 => ?_ | refine hL.st 4 _ rfl (by kernel_rfl) rfl (Nat.le_of_ble_eq_true rfl) rfl rfl fun S8 hL hn8 => ?_ | refine hL.st 5 _ rfl (by kernel_rfl) rfl (Nat.le_of_ble_eq_true rfl) rfl rfl fun S8 hL hn8 => ?_ | refine hL.st 6 _ rfl (by kernel_rfl) rfl (Nat.le_of_ble_eq_true rfl) rfl rfl fun S8 hL hn8 => ?_ | refine hL.st 7 _ rfl (by kernel_rfl) rfl (Nat.le_of_ble_eq_true rfl) rfl rfl fun S8 hL hn8 => ?_)
  refine hL.new fun b10 S9 hL _ _ => ?_
  (first | refine hL.st 0 _ rfl (by kernel_rfl) rfl (Nat.le_of_ble_eq_true rfl) rfl rfl fun S10 hL hn10 => ?_ | refine hL.st 1 _ rfl (by kernel_rfl) rfl (Nat.le_of_ble_eq_true rfl) rfl rfl fun S10 hL hn10 => ?_ | refine hL.st 2 _ rfl (by kernel_rfl) rfl (Nat.le_of_ble_eq_true rfl) rfl rfl fun S10 hL hn10 => ?_ | refine hL.st 3 _ rfl (by kernel_rfl) rfl (Nat.le_of_ble_eq_true rfl) rfl rfl fun S10 hL hn10 => ?_ | refine hL.st 4 _ rfl (by kernel_rfl) rfl (Nat.le_of_ble_eq_true rfl) rfl rfl fun S10 hL hn10 => ?_ | refine hL.st 5 _ rfl (by kernel_rfl) rfl (Nat.le_of_ble_eq_true rfl) rfl rfl fun S10 hL hn10 => ?_ | refine hL.st 6 _ rfl (by kernel_rfl) rfl (Nat.le_of_ble_eq_true rfl) rfl rfl fun S10 hL hn10 => ?_ | refine hL.st 7 _ rfl (by kernel_rfl) rfl (Nat.le_of_ble_eq_true rfl) rfl rfl fun S10 hL hn10 => ?_)
  repeat (first | refine ptrW_of ?_ | refine sameV_of ?_ | (first | refine hL.ld 0 rfl (by kernel_rfl) _ rfl ?_ | refine hL.ld 1 rfl (by kernel_rfl) _ rfl ?_ | refine hL.ld 2 rfl (by kernel_rfl) _ rfl ?_ | refine hL.ld 3 rfl (by kernel_rfl) _ rfl ?_ | refine hL.ld 4 rfl (by kernel_rfl) _ rfl ?_ | refine hL.ld 5 rfl (by kernel_rfl) _ rfl ?_ | refine hL.ld 6 rfl (by kernel_rfl) _ rfl ?_ | refine hL.ld 7 rfl (by kernel_rfl) _ rfl ?_ | refine hL.lda 0 rfl (by kernel_rfl) _ rfl ?_ | refine hL.lda 1 rfl (by kernel_rfl) _ rfl ?_ | refine hL.lda 2 rfl (by kernel_rfl) _ rfl ?_ | refine hL.lda 3 rfl (by kernel_rfl) _ rfl ?_ | refine hL.lda 4 rfl (by kernel_rfl) _ rfl ?_ | refine hL.lda 5 rfl (by kernel_rfl) _ rfl ?_ | refine hL.lda 6 rfl (by kernel_rfl) _ rfl ?_ | refine hL.lda 7 rfl (by kernel_rfl) _ rfl ?_) | (first | refine hLo.ld 0 rfl (by kernel_rfl) _ rfl ?_ | refine hLo.ld 1 rfl (by kernel_rfl) _ rfl ?_ | refine hLo.ld 2 rfl (by kernel_rfl) _ rfl ?_ | refine hLo.ld 3 rfl (by kernel_rfl) _ rfl ?_ | refine hLo.ld 4 rfl (by kernel_rfl) _ rfl ?_ | refine hLo.ld 5 rfl (by kernel_rfl) _ rfl ?_ | refine hLo.ld 6 rfl (by kernel_rfl) _ rfl ?_ | refine hLo.ld 7 rfl (by kernel_rfl) _ rfl ?_ | refine hLo.lda 0 rfl (by kernel_rfl) _ rfl ?_ | refine hLo.lda 1 rfl (by kernel_rfl) _ rfl ?_ | refine hLo.lda 2 rfl (by kernel_rfl) _ rfl ?_ | refine hLo.lda 3 rfl (by kernel_rfl) _ rfl ?_ | refine hLo.lda 4 rfl (by kernel_rfl) _ rfl ?_ | refine hLo.lda 5 rfl (by kernel_rfl) _ rfl ?_ | refine hLo.lda 6 rfl (by kernel_rfl) _ rfl ?_ | refine hLo.lda 7 rfl (by kernel_rfl) _ rfl ?_))
  refine evC_of (w39 _ ?_)
  unfold c39
  refine hL.new fun cK S11 hL _ _ => ?_
  refine ⟨_, rfl, ?_⟩
  refine hL.new fun b13 S12 hL _ _ => ?_
  rintro b14 S13 L rfl rfl hLL hR
  have hL := hL.record (o := L .ready none)
  generalize (S12.alloc (L .ready none)).2 = S13 at hL ⊢
  generalize hb14 : S12.next = b14 at hL hR ⊢
  have hpl := parts_len kd
  refine WG_of rfl (s83 (kind := kd) (fun i S' => ∃ o, Cx noB S S' (boxesR b14 b13 cK b10 b3 b2 b1 (L .ready none) kd (setsO (kd, 0, 0, 0, 0, 0) ((partsB kd).take i) ws.tail) ⟨some ⟨b, o, none⟩, ws.length - (i + 1), ws.length - (i + 1)⟩) (fun c => c = b) (fun S => At S b (.cells (ws.map strV) none false none)) ∧ (i + 1 < ws.length → o = i + 1)) (hL.at 2 rfl) ⟨o1, hL, ho1⟩ ?_ ?_)
  · rintro i hi S' ⟨o, hL, ho⟩
    refine hR _ S' _ ?_
    have hsucc := setsO_succ (x := (kd, 0, 0, 0, 0, 0)) (l := ws.tail) hi
    rw [tail_getD] at hsucc
    generalize setsO (kd, 0, 0, 0, 0, 0) ((partsB kd).take i) ws.tail = y at hL hsucc
    generalize hc : (((partsB kd)[i].toNat : Nat) : Int) = c at hsucc ⊢
    have hwl : (ws.getD (i + 1) []).length ≤ l.length := by rw [← hws]; exact wd_getD l (i + 1)
    (first | refine hL.has 0 rfl ?_ | refine hL.has 1 rfl ?_ | refine hL.has 2 rfl ?_ | refine hL.has 3 rfl ?_ | refine hL.has 4 rfl ?_ | refine hL.has 5 rfl ?_ | refine hL.has 6 rfl ?_ | refine hL.has 7 rfl ?_)
    (first | refine hL.has 0 rfl ?_ | refine hL.has 1 rfl ?_ | refine hL.has 2 rfl ?_ | refine hL.has 3 rfl ?_ | refine hL.has 4 rfl ?_ | refine hL.has 5 rfl ?_ | refine hL.has 6 rfl ?_ | refine hL.has 7 rfl ?_)
    (first | refine hL.upd 0 rfl fun S' hL hn' => ?_ | refine hL.upd 1 rfl fun S' hL hn' => ?_ | refine hL.upd 2 rfl fun S' hL hn' => ?_ | refine hL.upd 3 rfl fun S' hL hn' => ?_ | refine hL.upd 4 rfl fun S' hL hn' => ?_ | refine hL.upd 5 rfl fun S' hL hn' => ?_ | refine hL.upd 6 rfl fun S' hL hn' => ?_ | refine hL.upd 7 rfl fun S' hL hn' => ?_)
    (first | refine hL.ld 0 rfl (by kernel_rfl) _ rfl ?_ | refine hL.ld 1 rfl (by kernel_rfl) _ rfl ?_ | refine hL.ld 2 rfl (by kernel_rfl) _ rfl ?_ | refine hL.ld 3 rfl (by kernel_rfl) _ rfl ?_ | refine hL.ld 4 rfl (by kernel_rfl) _ rfl ?_ | refine hL.ld 5 rfl (by kernel_rfl) _ rfl ?_ | refine hL.ld 6 rfl (by kernel_rfl) _ rfl ?_ | refine hL.ld 7 rfl (by kernel_rfl) _ rfl ?_ | refine hL.lda 0 rfl (by kernel_rfl) _ rfl ?_ | refine hL.lda 1 rfl (by kernel_rfl) _ rfl ?_ | refine hL.lda 2 rfl (by kernel_rfl) _ rfl ?_ | refine hL.lda 3 rfl (by kernel_rfl) _ rfl ?_ | refine hL.lda 4 rfl (by kernel_rfl) _ rfl ?_ | refine hL.lda 5 rfl (by kernel_rfl) _ rfl ?_ | refine hL.lda 6 rfl (by kernel_rfl) _ rfl ?_ | refine hL.lda 7 rfl (by kernel_rfl) _ rfl ?_)
    refine evY_func ?_
    refine evC_of (s46 (j := i + 1) (hL.at 5 rfl) hL.p rfl (by omega) ho fun S16 o' ho' m h' hn16 => ⟨_, rfl, ?_⟩)
    have hL := hL.set 5 rfl m h'
    generalize ws.getD (i + 1) [] = w at hsucc hwl ⊢
    refine evC_of (s47 (g.ext hL.mod) (by omega) fun e => ⟨(atoiN w, e), rfl, ?_⟩)
    have fin : ∀ {S' : St} {y' : Ord} {Q : St → Prop}, setO y c w = y' → Cx noB S S' (boxesR b14 b13 cK b10 b3 b2 b1 (L .busy none) kd y' ⟨some ⟨b, o', none⟩, ws.length - (i + 1 + 1), ws.length - (i + 1 + 1)⟩) (fun c => c = b) (fun S => At S b (.cells (ws.map strV) none false none)) →
        hasW S' b14 (L .busy none) (updW S' b14 (L .ready none) fun S'' => (true = true → ∃ o, Cx noB S S'' (boxesR b14 b13 cK b10 b3 b2 b1 (L .ready none) kd (setsO (kd, 0, 0, 0, 0, 0) ((partsB kd).take (i + 1)) ws.tail) ⟨some ⟨b, o, none⟩, ws.length - (i + 1 + 1), ws.length - (i + 1 + 1)⟩) (fun c => c = b) (fun S => At S b (.cells (ws.map strV) none false none)) ∧ (i + 1 + 1 < ws.length → o = i + 1 + 1)) ∧
          (true = false → Q S'')) := by
      intro S' y' Q hy hL
      subst hy
      (first | refine hL.has 0 rfl ?_ | refine hL.has 1 rfl ?_ | refine hL.has 2 rfl ?_ | refine hL.has 3 rfl ?_ | refine hL.has 4 rfl ?_ | refine hL.has 5 rfl ?_ | refine hL.has 6 rfl ?_ | refine hL.has 7 rfl ?_)
      refine hL.upd 0 rfl fun S17 hL hn' => ?_
      exact ⟨fun _ => ⟨o', by rw [hsucc]; exact hL, ho'⟩, fun h => by cases h⟩
    refine ifW_dec (fun h1 => ?_) fun h1 => ?_
    · refine ptrW_of ?_
      (first | refine hL.st 0 _ rfl (by kernel_rfl) rfl (Nat.le_of_ble_eq_true rfl) rfl rfl fun S18 hL hn18 => ?_ | refine hL.st 1 _ rfl (by kernel_rfl) rfl (Nat.le_of_ble_eq_true rfl) rfl rfl fun S18 hL hn18 => ?_ | refine hL.st 2 _ rfl (by kernel_rfl) rfl (Nat.le_of_ble_eq_true rfl) rfl rfl fun S18 hL hn18 => ?_ | refine hL.st 3 _ rfl (by kernel_rfl) rfl (Nat.le_of_ble_eq_true rfl) rfl rfl fun S18 hL hn18 => ?_ | refine hL.st 4 _ rfl (by kernel_rfl) rfl (Nat.le_of_ble_eq_true rfl) rfl rfl fun S18 hL hn18 => ?_ | refine hL.st 5 _ rfl (by kernel_rfl) rfl (Nat.le_of_ble_eq_true rfl) rfl rfl fun S18 hL hn18 => ?_ | refine hL.st 6 _ rfl (by kernel_rfl) rfl (Nat.le_of_ble_eq_true rfl) rfl rfl fun S18 hL hn18 => ?_ | refine hL.st 7 _ rfl (by kernel_rfl) rfl (Nat.le_of_ble_eq_true rfl) rfl rfl fun S18 hL hn18 => ?_)
      exact fin (y' := (y.1, atoiN w, y.2.2)) (by unfold setO; rw [if_pos h1]) hL
    refine ifW_dec (fun h2 => ?_) fun h2 => ?_
    · refine evC_of (s48 (g.ext hL.mod) (by omega) fun e => ⟨(puN w, e), rfl, ?_⟩)
      refine ptrW_of ?_
      (first | refine hL.st 0 _ rfl (by kernel_rfl) rfl (Nat.le_of_ble_eq_true rfl) rfl rfl fun S18 hL hn18 => ?_ | refine hL.st 1 _ rfl (by kernel_rfl) rfl (Nat.le_of_ble_eq_true rfl) rfl rfl fun S18 hL hn18 => ?_ | refine hL.st 2 _ rfl (by kernel_rfl) rfl (Nat.le_of_ble_eq_true rfl) rfl rfl fun S18 hL hn18 => ?_ | refine hL.st 3 _ rfl (by kernel_rfl) rfl (Nat.le_of_ble_eq_true rfl) rfl rfl fun S18 hL hn18 => ?_ | refine hL.st 4 _ rfl (by kernel_rfl) rfl (Nat.le_of_ble_eq_true rfl) rfl rfl fun S18 hL hn18 => ?_ | refine hL.st 5 _ rfl (by kernel_rfl) rfl (Nat.le_of_ble_eq_true rfl) rfl rfl fun S18 hL hn18 => ?_ | refine hL.st 6 _ rfl (by kernel_rfl) rfl (Nat.le_of_ble_eq_true rfl) rfl rfl fun S18 hL hn18 => ?_ | refine hL.st 7 _ rfl (by kernel_rfl) rfl (Nat.le_of_ble_eq_true rfl) rfl rfl fun S18 hL hn18 => ?_)
      exact fin (y' := (y.1, y.2.1, y.2.2.1, y.2.2.2.1, y.2.2.2.2.1, puN w)) (by unfold setO; rw [if_neg h1, if_pos h2]) hL
    refine ifW_dec (fun h3 => ?_) fun h3 => ?_
    · refine ptrW_of ?_
      (first | refine hL.st 0 _ rfl (by kernel_rfl) rfl (Nat.le_of_ble_eq_true rfl) rfl rfl fun S18 hL hn18 => ?_ | refine hL.st 1 _ rfl (by kernel_rfl) rfl (Nat.le_of_ble_eq_true rfl) rfl rfl fun S18 hL hn18 => ?_ | refine hL.st 2 _ rfl (by kernel_rfl) rfl (Nat.le_of_ble_eq_true rfl) rfl rfl fun S18 hL hn18 => ?_ | refine hL.st 3 _ rfl (by kernel_rfl) rfl (Nat.le_of_ble_eq_true rfl) rfl rfl fun S18 hL hn18 => ?_ | refine hL.st 4 _ rfl (by kernel_rfl) rfl (Nat.le_of_ble_eq_true rfl) rfl rfl fun S18 hL hn18 => ?_ | refine hL.st 5 _ rfl (by kernel_rfl) rfl (Nat.le_of_ble_eq_true rfl) rfl rfl fun S18 hL hn18 => ?_ | refine hL.st 6 _ rfl (by kernel_rfl) rfl (Nat.le_of_ble_eq_true rfl) rfl rfl fun S18 hL hn18 => ?_ | refine hL.st 7 _ rfl (by kernel_rfl) rfl (Nat.le_of_ble_eq_true rfl) rfl rfl fun S18 hL hn18 => ?_)
      exact fin (y' := (y.1, y.2.1, y.2.2.1, atoiN w, y.2.2.2.2)) (by unfold setO; rw [if_neg h1, if_neg h2, if_pos h3]) hL
    refine ifW_dec (fun h4 => ?_) fun h4 => ?_
    · refine ptrW_of ?_
      (first | refine hL.st 0 _ rfl (by kernel_rfl) rfl (Nat.le_of_ble_eq_true rfl) rfl rfl fun S18 hL hn18 => ?_ | refine hL.st 1 _ rfl (by kernel_rfl) rfl (Nat.le_of_ble_eq_true rfl) rfl rfl fun S18 hL hn18 => ?_ | refine hL.st 2 _ rfl (by kernel_rfl) rfl (Nat.le_of_ble_eq_true rfl) rfl rfl fun S18 hL hn18 => ?_ | refine hL.st 3 _ rfl (by kernel_rfl) rfl (Nat.le_of_ble_eq_true rfl) rfl rfl fun S18 hL hn18 => ?_ | refine hL.st 4 _ rfl (by kernel_rfl) rfl (Nat.le_of_ble_eq_true rfl) rfl rfl fun S18 hL hn18 => ?_ | refine hL.st 5 _ rfl (by kernel_rfl) rfl (Nat.le_of_ble_eq_true rfl) rfl rfl fun S18 hL hn18 => ?_ | refine hL.st 6 _ rfl (by kernel_rfl) rfl (Nat.le_of_ble_eq_true rfl) rfl rfl fun S18 hL hn18 => ?_ | refine hL.st 7 _ rfl (by kernel_rfl) rfl (Nat.le_of_ble_eq_true rfl) rfl rfl fun S18 hL hn18 => ?_)
      exact fin (y' := (y.1, y.2.1, y.2.2.1, y.2.2.2.1, atoiN w, y.2.2.2.2.2)) (by unfold setO; rw [if_neg h1, if_neg h2, if_neg h3, if_pos h4]) hL
    refine ptrW_of ?_
    (first | refine hL.st 0 _ rfl (by kernel_rfl) rfl (Nat.le_of_ble_eq_true rfl) rfl rfl fun S18 hL hn18 => ?_ | refine hL.st 1 _ rfl (by kernel_rfl) rfl (Nat.le_of_ble_eq_true rfl) rfl rfl fun S18 hL hn18 => ?_ | refine hL.st 2 _ rfl (by kernel_rfl) rfl (Nat.le_of_ble_eq_true rfl) rfl rfl fun S18 hL hn18 => ?_ | refine hL.st 3 _ rfl (by kernel_rfl) rfl (Nat.le_of_ble_eq_true rfl) rfl rfl fun S18 hL hn18 => ?_ | refine hL.st 4 _ rfl (by kernel_rfl) rfl (Nat.le_of_ble_eq_true rfl) rfl rfl fun S18 hL hn18 => ?_ | refine hL.st 5 _ rfl (by kernel_rfl) rfl (Nat.le_of_ble_eq_true rfl) rfl rfl fun S18 hL hn18 => ?_ | refine hL.st 6 _ rfl (by kernel_rfl) rfl (Nat.le_of_ble_eq_true rfl) rfl rfl fun S18 hL hn18 => ?_ | refine hL.st 7 _ rfl (by kernel_rfl) rfl (Nat.le_of_ble_eq_true rfl) rfl rfl fun S18 hL hn18 => ?_)
    refine ifW_dec (fun h5 => ?_) fun h5 => ?_
    · refine ifW_of (fun h6 => ?_) fun h6 => ?_
      · have h6 : w = allT := by simpa using h6
        refine ptrW_of ?_
        (first | refine hL.st 0 _ rfl (by kernel_rfl) rfl (Nat.le_of_ble_eq_true rfl) rfl rfl fun S19 hL hn19 => ?_ | refine hL.st 1 _ rfl (by kernel_rfl) rfl (Nat.le_of_ble_eq_true rfl) rfl rfl fun S19 hL hn19 => ?_ | refine hL.st 2 _ rfl (by kernel_rfl) rfl (Nat.le_of_ble_eq_true rfl) rfl rfl fun S19 hL hn19 => ?_ | refine hL.st 3 _ rfl (by kernel_rfl) rfl (Nat.le_of_ble_eq_true rfl) rfl rfl fun S19 hL hn19 => ?_ | refine hL.st 4 _ rfl (by kernel_rfl) rfl (Nat.le_of_ble_eq_true rfl) rfl rfl fun S19 hL hn19 => ?_ | refine hL.st 5 _ rfl (by kernel_rfl) rfl (Nat.le_of_ble_eq_true rfl) rfl rfl fun S19 hL hn19 => ?_ | refine hL.st 6 _ rfl (by kernel_rfl) rfl (Nat.le_of_ble_eq_true rfl) rfl rfl fun S19 hL hn19 => ?_ | refine hL.st 7 _ rfl (by kernel_rfl) rfl (Nat.le_of_ble_eq_true rfl) rfl rfl fun S19 hL hn19 => ?_)
        exact fin (y' := (y.1, y.2.1, -1, y.2.2.2)) (by unfold setO; rw [if_neg h1, if_neg h2, if_neg h3, if_neg h4, if_pos ⟨h5, h6⟩]) hL
      · have h6 : ¬ w = allT := by simpa using h6
        exact fin (y' := (y.1, y.2.1, atoiN w, y.2.2.2)) (by unfold setO; rw [if_neg h1, if_neg h2, if_neg h3, if_neg h4, if_neg (fun h => h6 h.2)]) hL
    · exact fin (y' := (y.1, y.2.1, atoiN w, y.2.2.2)) (by unfold setO; rw [if_neg h1, if_neg h2, if_neg h3, if_neg h4, if_neg (fun h => h5 h.1)]) hL
  · rintro S' ⟨o, hL, _⟩
    refine .inl ?_
    rw [List.take_length, ← hcand] at hL
    have hcw := candA_w l
    generalize candA l = cA at hL hk hcw
    (first | refine hL.has 0 rfl ?_ | refine hL.has 1 rfl ?_ | refine hL.has 2 rfl ?_ | refine hL.has 3 rfl ?_ | refine hL.has 4 rfl ?_ | refine hL.has 5 rfl ?_ | refine hL.has 6 rfl ?_ | refine hL.has 7 rfl ?_)
    (first | refine hL.upd 0 rfl fun S' hL hn' => ?_ | refine hL.upd 1 rfl fun S' hL hn' => ?_ | refine hL.upd 2 rfl fun S' hL hn' => ?_ | refine hL.upd 3 rfl fun S' hL hn' => ?_ | refine hL.upd 4 rfl fun S' hL hn' => ?_ | refine hL.upd 5 rfl fun S' hL hn' => ?_ | refine hL.upd 6 rfl fun S' hL hn' => ?_ | refine hL.upd 7 rfl fun S' hL hn' => ?_)
    (first | refine hL.ld 0 rfl (by kernel_rfl) _ rfl ?_ | refine hL.ld 1 rfl (by kernel_rfl) _ rfl ?_ | refine hL.ld 2 rfl (by kernel_rfl) _ rfl ?_ | refine hL.ld 3 rfl (by kernel_rfl) _ rfl ?_ | refine hL.ld 4 rfl (by kernel_rfl) _ rfl ?_ | refine hL.ld 5 rfl (by kernel_rfl) _ rfl ?_ | refine hL.ld 6 rfl (by kernel_rfl) _ rfl ?_ | refine hL.ld 7 rfl (by kernel_rfl) _ rfl ?_ | refine hL.lda 0 rfl (by kernel_rfl) _ rfl ?_ | refine hL.lda 1 rfl (by kernel_rfl) _ rfl ?_ | refine hL.lda 2 rfl (by kernel_rfl) _ rfl ?_ | refine hL.lda 3 rfl (by kernel_rfl) _ rfl ?_ | refine hL.lda 4 rfl (by kernel_rfl) _ rfl ?_ | refine hL.lda 5 rfl (by kernel_rfl) _ rfl ?_ | refine hL.lda 6 rfl (by kernel_rfl) _ rfl ?_ | refine hL.lda 7 rfl (by kernel_rfl) _ rfl ?_)
    refine evC_of (s11 (g.ext hL.mod) hcw fun S35 e35 => ⟨((lineP cA).1, (lineP cA).2), rfl, ?_⟩)
    have hL := hL.ext e35
    unfold readP at hk
    by_cases hm : mayP cA
    · have hlp : lineP cA = (lineL cA, 0) := if_pos hm
      rw [hlp]
      refine ifW_ndec (fun h => (h rfl).elim) fun _ => ?_
      refine ifW_of (fun h => ?_) fun h => ?_
      · have h : ¬ lineL cA = l := by simpa using h
        rw [if_neg (fun h' => h h'.2)] at hk
        (first | refine hL.st 0 _ rfl (by kernel_rfl) rfl (Nat.le_of_ble_eq_true rfl) rfl rfl fun S36 hL hn36 => ?_ | refine hL.st 1 _ rfl (by kernel_rfl) rfl (Nat.le_of_ble_eq_true rfl) rfl rfl fun S36 hL hn36 => ?_ | refine hL.st 2 _ rfl (by kernel_rfl) rfl (Nat.le_of_ble_eq_true rfl) rfl rfl fun S36 hL hn36 => ?_ | refine hL.st 3 _ rfl (by kernel_rfl) rfl (Nat.le_of_ble_eq_true rfl) rfl rfl fun S36 hL hn36 => ?_ | refine hL.st 4 _ rfl (by kernel_rfl) rfl (Nat.le_of_ble_eq_true rfl) rfl rfl fun S36 hL hn36 => ?_ | refine hL.st 5 _ rfl (by kernel_rfl) rfl (Nat.le_of_ble_eq_true rfl) rfl rfl fun S36 hL hn36 => ?_ | refine hL.st 6 _ rfl (by kernel_rfl) rfl (Nat.le_of_ble_eq_true rfl) rfl rfl fun S36 hL hn36 => ?_ | refine hL.st 7 _ rfl (by kernel_rfl) rfl (Nat.le_of_ble_eq_true rfl) rfl rfl fun S36 hL hn36 => ?_)
        (first | refine hL.has 0 rfl ?_ | refine hL.has 1 rfl ?_ | refine hL.has 2 rfl ?_ | refine hL.has 3 rfl ?_ | refine hL.has 4 rfl ?_ | refine hL.has 5 rfl ?_ | refine hL.has 6 rfl ?_ | refine hL.has 7 rfl ?_)
        refine hL.upd 1 rfl fun S37 hL hn' => ?_
        (first | refine hL.ld 0 rfl (by kernel_rfl) _ rfl ?_ | refine hL.ld 1 rfl (by kernel_rfl) _ rfl ?_ | refine hL.ld 2 rfl (by kernel_rfl) _ rfl ?_ | refine hL.ld 3 rfl (by kernel_rfl) _ rfl ?_ | refine hL.ld 4 rfl (by kernel_rfl) _ rfl ?_ | refine hL.ld 5 rfl (by kernel_rfl) _ rfl ?_ | refine hL.ld 6 rfl (by kernel_rfl) _ rfl ?_ | refine hL.ld 7 rfl (by kernel_rfl) _ rfl ?_ | refine hL.lda 0 rfl (by kernel_rfl) _ rfl ?_ | refine hL.lda 1 rfl (by kernel_rfl) _ rfl ?_ | refine hL.lda 2 rfl (by kernel_rfl) _ rfl ?_ | refine hL.lda 3 rfl (by kernel_rfl) _ rfl ?_ | refine hL.lda 4 rfl (by kernel_rfl) _ rfl ?_ | refine hL.lda 5 rfl (by kernel_rfl) _ rfl ?_ | refine hL.lda 6 rfl (by kernel_rfl) _ rfl ?_ | refine hL.lda 7 rfl (by kernel_rfl) _ rfl ?_)
        exact hk S37 hL.mod
      · have h : lineL cA = l := by simpa using h
        rw [if_pos ⟨hm, h⟩] at hk
        (first | refine hL.ld 0 rfl (by kernel_rfl) _ rfl ?_ | refine hL.ld 1 rfl (by kernel_rfl) _ rfl ?_ | refine hL.ld 2 rfl (by kernel_rfl) _ rfl ?_ | refine hL.ld 3 rfl (by kernel_rfl) _ rfl ?_ | refine hL.ld 4 rfl (by kernel_rfl) _ rfl ?_ | refine hL.ld 5 rfl (by kernel_rfl) _ rfl ?_ | refine hL.ld 6 rfl (by kernel_rfl) _ rfl ?_ | refine hL.ld 7 rfl (by kernel_rfl) _ rfl ?_ | refine hL.lda 0 rfl (by kernel_rfl) _ rfl ?_ | refine hL.lda 1 rfl (by kernel_rfl) _ rfl ?_ | refine hL.lda 2 rfl (by kernel_rfl) _ rfl ?_ | refine hL.lda 3 rfl (by kernel_rfl) _ rfl ?_ | refine hL.lda 4 rfl (by kernel_rfl) _ rfl ?_ | refine hL.lda 5 rfl (by kernel_rfl) _ rfl ?_ | refine hL.lda 6 rfl (by kernel_rfl) _ rfl ?_ | refine hL.lda 7 rfl (by kernel_rfl) _ rfl ?_)
        (first | refine hL.st 0 _ rfl (by kernel_rfl) rfl (Nat.le_of_ble_eq_true rfl) rfl rfl fun S36 hL hn36 => ?_ | refine hL.st 1 _ rfl (by kernel_rfl) rfl (Nat.le_of_ble_eq_true rfl) rfl rfl fun S36 hL hn36 => ?_ | refine hL.st 2 _ rfl (by kernel_rfl) rfl (Nat.le_of_ble_eq_true rfl) rfl rfl fun S36 hL hn36 => ?_ | refine hL.st 3 _ rfl (by kernel_rfl) rfl (Nat.le_of_ble_eq_true rfl) rfl rfl fun S36 hL hn36 => ?_ | refine hL.st 4 _ rfl (by kernel_rfl) rfl (Nat.le_of_ble_eq_true rfl) rfl rfl fun S36 hL hn36 => ?_ | refine hL.st 5 _ rfl (by kernel_rfl) rfl (Nat.le_of_ble_eq_true rfl) rfl rfl fun S36 hL hn36 => ?_ | refine hL.st 6 _ rfl (by kernel_rfl) rfl (Nat.le_of_ble_eq_true rfl) rfl rfl fun S36 hL hn36 => ?_ | refine hL.st 7 _ rfl (by kernel_rfl) rfl (Nat.le_of_ble_eq_true rfl) rfl rfl fun S36 hL hn36 => ?_)
        (first | refine hL.has 0 rfl ?_ | refine hL.has 1 rfl ?_ | refine hL.has 2 rfl ?_ | refine hL.has 3 rfl ?_ | refine hL.has 4 rfl ?_ | refine hL.has 5 rfl ?_ | refine hL.has 6 rfl ?_ | refine hL.has 7 rfl ?_)
        refine hL.upd 1 rfl fun S37 hL hn' => ?_
        refine hL.lda 6 rfl (by kernel_rfl) cA rfl ?_
        exact hk S37 hL.mod
    · have hlp : lineP cA = ([], 230) := if_neg hm
      rw [hlp]
      rw [if_neg (fun h' => hm h'.1)] at hk
      refine ifW_ndec (fun _ => ?_) fun h => by cases h
      (first | refine hL.st 0 _ rfl (by kernel_rfl) rfl (Nat.le_of_ble_eq_true rfl) rfl rfl fun S36 hL hn36 => ?_ | refine hL.st 1 _ rfl (by kernel_rfl) rfl (Nat.le_of_ble_eq_true rfl) rfl rfl fun S36 hL hn36 => ?_ | refine hL.st 2 _ rfl (by kernel_rfl) rfl (Nat.le_of_ble_eq_true rfl) rfl rfl fun S36 hL hn36 => ?_ | refine hL.st 3 _ rfl (by kernel_rfl) rfl (Nat.le_of_ble_eq_true rfl) rfl rfl fun S36 hL hn36 => ?_ | refine hL.st 4 _ rfl (by kernel_rfl) rfl (Nat.le_of_ble_eq_true rfl) rfl rfl fun S36 hL hn36 => ?_ | refine hL.st 5 _ rfl (by kernel_rfl) rfl (Nat.le_of_ble_eq_true rfl) rfl rfl fun S36 hL hn36 => ?_ | refine hL.st 6 _ rfl (by kernel_rfl) rfl (Nat.le_of_ble_eq_true rfl) rfl rfl fun S36 hL hn36 => ?_ | refine hL.st 7 _ rfl (by kernel_rfl) rfl (Nat.le_of_ble_eq_true rfl) rfl rfl fun S36 hL hn36 => ?_)
      (first | refine hL.has 0 rfl ?_ | refine hL.has 1 rfl ?_ | refine hL.has 2 rfl ?_ | refine hL.has 3 rfl ?_ | refine hL.has 4 rfl ?_ | refine hL.has 5 rfl ?_ | refine hL.has 6 rfl ?_ | refine hL.has 7 rfl ?_)
      refine hL.upd 1 rfl fun S37 hL hn' => ?_
      (first | refine hL.ld 0 rfl (by kernel_rfl) _ rfl ?_ | refine hL.ld 1 rfl (by kernel_rfl) _ rfl ?_ | refine hL.ld 2 rfl (by kernel_rfl) _ rfl ?_ | refine hL.ld 3 rfl (by kernel_rfl) _ rfl ?_ | refine hL.ld 4 rfl (by kernel_rfl) _ rfl ?_ | refine hL.ld 5 rfl (by kernel_rfl) _ rfl ?_ | refine hL.ld 6 rfl (by kernel_rfl) _ rfl ?_ | refine hL.ld 7 rfl (by kernel_rfl) _ rfl ?_ | refine hL.lda 0 rfl (by kernel_rfl) _ rfl ?_ | refine hL.lda 1 rfl (by kernel_rfl) _ rfl ?_ | refine hL.lda 2 rfl (by kernel_rfl) _ rfl ?_ | refine hL.lda 3 rfl (by kernel_rfl) _ rfl ?_ | refine hL.lda 4 rfl (by kernel_rfl) _ rfl ?_ | refine hL.lda 5 rfl (by kernel_rfl) _ rfl ?_ | refine hL.lda 6 rfl (by kernel_rfl) _ rfl ?_ | refine hL.lda 7 rfl (by kernel_rfl) _ rfl ?_)
      exact hk S37 hL.mod
end
end Go.Proofs.YtabbbfdlgmoniaaDoor

/- Orders: a line's order, the document's; the law. -/
namespace Go.Proofs.YtabbbfdlgmoniaaDoor
open Go Go.Proofs.YtabbbfdlgmoniaaDoor.D
set_option linter.unusedVariables false
set_option linter.unusedSimpArgs false
noncomputable section

theorem SlOf.strI {S : St} {s : Sl} {l : List (List UInt8)} (h : SlOf strC 1 S s l) {i : Int} {j : Nat} (hi : i = (j : Int)) (hj : j < l.length) {k : List UInt8 → Prop} (hk : k (l.getD j [])) : idxW s.a s.len i fun b1 b2 => evV tT (loadV E0 S 9 (.pointer (some ⟨b1, b2 + Int.toNat i * 1, none⟩))) k := by
  subst hi
  rw [List.getD_eq_getElem?_getD, List.getElem?_eq_getElem hj] at hk
  exact SlOf.str h hj hk
abbrev boxesQ (b2 b1 : Nat) (y : Ord) : List (Nat × DObj) := [(b2, .cells (cellsO y) none false none), (b1, zO)]
theorem getD_pad (l : List (List UInt8)) (j i : Nat) : (l ++ List.replicate j []).getD i [] = l.getD i [] := by
  rw [List.getD_eq_getElem?_getD, List.getD_eq_getElem?_getD, List.getElem?_append]
  split
  · rfl
  · rename_i h
    have h1 : l[i]? = none := List.getElem?_eq_none (by omega)
    rw [h1, List.getElem?_replicate]
    split <;> rfl
theorem s14 {S : St} {l : List UInt8} {k : Value → St → Prop} (hlen : l.length ≤ 100000) (hk : ∀ S', Ext S S' → k (.tuple #[sv G23 (readP (candB l) l).1, .int .i64 (readP (candB l) l).2]) S') : WC E0 14 [strV l] S k := by
  refine w14 _ ?_
  unfold c14
  have hL := Cx.start (S := S) (P := fun _ => True) noB trivial Frm.true (fun _ h => h.elim)
  refine hL.new fun b1 S1 hL _ _ => ?_
  refine evC_of (s49 hlen fun s S2 hO hs e2 => ⟨s, rfl, ?_⟩)
  have hnn := e2.next
  have hn1 := hL.mod.next
  have hL : Cx noB S S2 [(b1, zO)] (slO s) (fun S => Ow strC 1 S s (wd l)) :=
    hL.op e2 (fun _ h => h.elim) (fun _ h => h.elim) hO Ow.frm (fun c hc => .inr (hs c hc)) (fun c hc => hO.lt hc)
  have hs : ∀ c, slO s c → S.next ≤ c := fun c hc => by have := hs c hc; omega
  have hwc := wd_count l
  have hne := wd_ne l
  have hpos : 0 < (wd l).length := List.length_pos_iff.2 hne
  have hword := fun i => wd_getD l i
  have hhead : (wd l).headD [] = (wd l).getD 0 [] := by cases wd l <;> rfl
  unfold candB at hk
  dsimp only at hk
  generalize wd l = ws at hL hwc hne hpos hhead hk hword
  rw [hhead] at hk
  refine hL.new fun b2 S3 hL _ _ => ?_
  (first | refine hL.st 0 _ rfl (by kernel_rfl) rfl (Nat.le_of_ble_eq_true rfl) rfl rfl fun S4 hL hn4 => ?_ | refine hL.st 1 _ rfl (by kernel_rfl) rfl (Nat.le_of_ble_eq_true rfl) rfl rfl fun S4 hL hn4 => ?_ | refine hL.st 2 _ rfl (by kernel_rfl) rfl (Nat.le_of_ble_eq_true rfl) rfl rfl fun S4 hL hn4 => ?_ | refine hL.st 3 _ rfl (by kernel_rfl) rfl (Nat.le_of_ble_eq_true rfl) rfl rfl fun S4 hL hn4 => ?_ | refine hL.st 4 _ rfl (by kernel_rfl) rfl (Nat.le_of_ble_eq_true rfl) rfl rfl fun S4 hL hn4 => ?_ | refine hL.st 5 _ rfl (by kernel_rfl) rfl (Nat.le_of_ble_eq_true rfl) rfl rfl fun S4 hL hn4 => ?_ | refine hL.st 6 _ rfl (by kernel_rfl) rfl (Nat.le_of_ble_eq_true rfl) rfl rfl fun S4 hL hn4 => ?_ | refine hL.st 7 _ rfl (by kernel_rfl) rfl (Nat.le_of_ble_eq_true rfl) rfl rfl fun S4 hL hn4 => ?_)
  refine loopW_ind (fun q (j : Int) S' => ∃ n : Nat, j = ((n + 1 : Nat) : Int) ∧ n ≤ 9 ∧ q = 9 - n ∧ Cx noB S S' (boxesQ b2 b1 (kindF (ws.getD 0 []) (n + 1), 0, 0, 0, 0, 0)) (slO s) (fun S => Ow strC 1 S s ws)) (m := 9) ⟨0, rfl, by omega, rfl, hL⟩ ?_
  rintro P q j S5 ⟨n, rfl, hn, rfl, hL⟩ hP
  refine ifW_dec (fun hlt => ?_) fun hlt => ?_
  · have hkf : kindF (ws.getD 0 []) (n + 1 + 1) = if 0 < n + 1 ∧ tabW.getD (n + 1) [] = ws.getD 0 [] then ((n + 1 : Nat) : Int) else kindF (ws.getD 0 []) (n + 1) := rfl
    have hnm : nmL ((n + 1 : Nat) : Int) = tabW.getD (n + 1) [] := by unfold nmL; rw [if_pos (by omega)]; rfl
    refine evC_of (s17 fun S6 e6 => ⟨_, rfl, ?_⟩)
    have hL := hL.ext e6
    refine SlOf.strI (hL.p.of fun _ => rfl) (j := 0) rfl hpos ?_
    rw [hnm, wrap_succ (by omega)]
    refine ifW_of (fun h => ?_) fun h => ?_
    · have h : tabW.getD (n + 1) [] = ws.getD 0 [] := by simpa using h
      rw [if_pos ⟨by omega, h⟩] at hkf
      refine ptrW_of ?_
      (first | refine hL.st 0 _ rfl (by kernel_rfl) rfl (Nat.le_of_ble_eq_true rfl) rfl rfl fun S7 hL hn7 => ?_ | refine hL.st 1 _ rfl (by kernel_rfl) rfl (Nat.le_of_ble_eq_true rfl) rfl rfl fun S7 hL hn7 => ?_ | refine hL.st 2 _ rfl (by kernel_rfl) rfl (Nat.le_of_ble_eq_true rfl) rfl rfl fun S7 hL hn7 => ?_ | refine hL.st 3 _ rfl (by kernel_rfl) rfl (Nat.le_of_ble_eq_true rfl) rfl rfl fun S7 hL hn7 => ?_ | refine hL.st 4 _ rfl (by kernel_rfl) rfl (Nat.le_of_ble_eq_true rfl) rfl rfl fun S7 hL hn7 => ?_ | refine hL.st 5 _ rfl (by kernel_rfl) rfl (Nat.le_of_ble_eq_true rfl) rfl rfl fun S7 hL hn7 => ?_ | refine hL.st 6 _ rfl (by kernel_rfl) rfl (Nat.le_of_ble_eq_true rfl) rfl rfl fun S7 hL hn7 => ?_ | refine hL.st 7 _ rfl (by kernel_rfl) rfl (Nat.le_of_ble_eq_true rfl) rfl rfl fun S7 hL hn7 => ?_)
      exact hP _ _ _ (by omega) ⟨n + 1, rfl, by omega, rfl, by rw [hkf]; exact hL⟩
    · have h : ¬ tabW.getD (n + 1) [] = ws.getD 0 [] := by simpa using h
      rw [if_neg (fun h' => h h'.2)] at hkf
      exact hP _ _ _ (by omega) ⟨n + 1, rfl, by omega, rfl, by rw [hkf]; exact hL⟩
  have hn9 : n = 9 := by omega
  subst hn9
  have hkd9 := kindF_le (ws.getD 0 []) 10 (by omega)
  generalize hkd : kindF (ws.getD 0 []) 10 = kd at hL hk hkd9
  refine loopW_ind (fun q (s : Sl) S' => ∃ j : Nat, j ≤ 4 ∧ q = 4 - j ∧ (j ≤ 4 - ws.length) ∧ Cx noB S S' (boxesQ b2 b1 (kd, 0, 0, 0, 0, 0)) (slO s) (fun S => Ow strC 1 S s (ws ++ List.replicate j [])) ∧ ∀ c, slO s c → S.next ≤ c) (m := 4) ⟨0, by omega, rfl, by omega, by simpa using hL, hs⟩ ?_
  rintro P2 q2 s2 S8 ⟨j, hj, rfl, hj2, hL, hs⟩ hP2
  have hsl : s2.len = ws.length + j := by rw [hL.p.len]; simp
  refine ifW_dec (fun hlt => ?_) fun hlt => ?_
  · refine newW_of fun b7 S9 hb7 ha7 e9 hn9 => ?_
    have hL := hL.ext e9
    have hn8 := hL.mod.next
    refine app_str hL.p ha7 (by simp; omega) fun s' S10 g' m hs' => ?_
    refine hP2 _ _ _ (by omega) ⟨j + 1, by omega, rfl, by omega, ?_, fun c hc => (hs' c hc).elim (hs c) fun h => by omega⟩
    refine hL.op m (fun _ h => h) (fun c hc hlt => by have := hs c hc; omega) ?_ Ow.frm hs' (fun c hc => g'.lt hc)
    rw [List.replicate_succ', ← List.append_assoc]
    exact g'
  have h4 : 4 ≤ (ws ++ List.replicate j []).length := by simp; omega
  have hget : ∀ i, (ws ++ List.replicate j []).getD i [] = ws.getD i [] := fun i => getD_pad ws j i
  generalize ws ++ List.replicate j [] = w4 at hL h4 hget
  have hwl : ∀ i, (w4.getD i []).length ≤ 1000000 := fun i => by rw [hget]; have := hword i; omega
  simp only [← hget] at hk
  intro k3 hk3
  -- the end
  have fin : ∀ {S' : St} {c : Ord}, (∀ S', Ext S S' → k (.tuple #[sv G23 (readP c l).1, .int .i64 (readP c l).2]) S') → OrdW c → Cx noB S S' (boxesQ b2 b1 c) (slO s2) (fun S => Ow strC 1 S s2 w4) → k3 PUnit.unit S' := by
    intro S' c hk hcw hL
    refine hk3 _ _ ?_
    refine hL.lda 0 rfl (by kernel_rfl) c rfl ?_
    refine evC_of (s12 hcw fun S12 e12 => ⟨((lineP c).1, (lineP c).2), rfl, ?_⟩)
    have hL := hL.ext e12
    unfold readP at hk
    by_cases hm : mayP c
    · have hlp : lineP c = (lineL c, 0) := if_pos hm
      rw [hlp]
      refine ifW_ndec (fun h => (h rfl).elim) fun _ => ?_
      refine ifW_of (fun h => ?_) fun h => ?_
      · have h : ¬ lineL c = l := by simpa using h
        rw [if_neg (fun h' => h h'.2)] at hk
        (first | refine hL.st 0 _ rfl (by kernel_rfl) rfl (Nat.le_of_ble_eq_true rfl) rfl rfl fun S13 hL hn13 => ?_ | refine hL.st 1 _ rfl (by kernel_rfl) rfl (Nat.le_of_ble_eq_true rfl) rfl rfl fun S13 hL hn13 => ?_ | refine hL.st 2 _ rfl (by kernel_rfl) rfl (Nat.le_of_ble_eq_true rfl) rfl rfl fun S13 hL hn13 => ?_ | refine hL.st 3 _ rfl (by kernel_rfl) rfl (Nat.le_of_ble_eq_true rfl) rfl rfl fun S13 hL hn13 => ?_ | refine hL.st 4 _ rfl (by kernel_rfl) rfl (Nat.le_of_ble_eq_true rfl) rfl rfl fun S13 hL hn13 => ?_ | refine hL.st 5 _ rfl (by kernel_rfl) rfl (Nat.le_of_ble_eq_true rfl) rfl rfl fun S13 hL hn13 => ?_ | refine hL.st 6 _ rfl (by kernel_rfl) rfl (Nat.le_of_ble_eq_true rfl) rfl rfl fun S13 hL hn13 => ?_ | refine hL.st 7 _ rfl (by kernel_rfl) rfl (Nat.le_of_ble_eq_true rfl) rfl rfl fun S13 hL hn13 => ?_)
        (first | refine hL.ld 0 rfl (by kernel_rfl) _ rfl ?_ | refine hL.ld 1 rfl (by kernel_rfl) _ rfl ?_ | refine hL.ld 2 rfl (by kernel_rfl) _ rfl ?_ | refine hL.ld 3 rfl (by kernel_rfl) _ rfl ?_ | refine hL.ld 4 rfl (by kernel_rfl) _ rfl ?_ | refine hL.ld 5 rfl (by kernel_rfl) _ rfl ?_ | refine hL.ld 6 rfl (by kernel_rfl) _ rfl ?_ | refine hL.ld 7 rfl (by kernel_rfl) _ rfl ?_ | refine hL.lda 0 rfl (by kernel_rfl) _ rfl ?_ | refine hL.lda 1 rfl (by kernel_rfl) _ rfl ?_ | refine hL.lda 2 rfl (by kernel_rfl) _ rfl ?_ | refine hL.lda 3 rfl (by kernel_rfl) _ rfl ?_ | refine hL.lda 4 rfl (by kernel_rfl) _ rfl ?_ | refine hL.lda 5 rfl (by kernel_rfl) _ rfl ?_ | refine hL.lda 6 rfl (by kernel_rfl) _ rfl ?_ | refine hL.lda 7 rfl (by kernel_rfl) _ rfl ?_)
        exact hk S13 hL.mod
      · have h : lineL c = l := by simpa using h
        rw [if_pos ⟨hm, h⟩] at hk
        refine hL.lda 0 rfl (by kernel_rfl) c rfl ?_
        (first | refine hL.st 0 _ rfl (by kernel_rfl) rfl (Nat.le_of_ble_eq_true rfl) rfl rfl fun S13 hL hn13 => ?_ | refine hL.st 1 _ rfl (by kernel_rfl) rfl (Nat.le_of_ble_eq_true rfl) rfl rfl fun S13 hL hn13 => ?_ | refine hL.st 2 _ rfl (by kernel_rfl) rfl (Nat.le_of_ble_eq_true rfl) rfl rfl fun S13 hL hn13 => ?_ | refine hL.st 3 _ rfl (by kernel_rfl) rfl (Nat.le_of_ble_eq_true rfl) rfl rfl fun S13 hL hn13 => ?_ | refine hL.st 4 _ rfl (by kernel_rfl) rfl (Nat.le_of_ble_eq_true rfl) rfl rfl fun S13 hL hn13 => ?_ | refine hL.st 5 _ rfl (by kernel_rfl) rfl (Nat.le_of_ble_eq_true rfl) rfl rfl fun S13 hL hn13 => ?_ | refine hL.st 6 _ rfl (by kernel_rfl) rfl (Nat.le_of_ble_eq_true rfl) rfl rfl fun S13 hL hn13 => ?_ | refine hL.st 7 _ rfl (by kernel_rfl) rfl (Nat.le_of_ble_eq_true rfl) rfl rfl fun S13 hL hn13 => ?_)
        refine hL.lda 1 rfl (by kernel_rfl) c rfl ?_
        exact hk S13 hL.mod
    · have hlp : lineP c = ([], 230) := if_neg hm
      rw [hlp]
      rw [if_neg (fun h' => hm h'.1)] at hk
      refine ifW_ndec (fun _ => ?_) fun h => by cases h
      (first | refine hL.st 0 _ rfl (by kernel_rfl) rfl (Nat.le_of_ble_eq_true rfl) rfl rfl fun S13 hL hn13 => ?_ | refine hL.st 1 _ rfl (by kernel_rfl) rfl (Nat.le_of_ble_eq_true rfl) rfl rfl fun S13 hL hn13 => ?_ | refine hL.st 2 _ rfl (by kernel_rfl) rfl (Nat.le_of_ble_eq_true rfl) rfl rfl fun S13 hL hn13 => ?_ | refine hL.st 3 _ rfl (by kernel_rfl) rfl (Nat.le_of_ble_eq_true rfl) rfl rfl fun S13 hL hn13 => ?_ | refine hL.st 4 _ rfl (by kernel_rfl) rfl (Nat.le_of_ble_eq_true rfl) rfl rfl fun S13 hL hn13 => ?_ | refine hL.st 5 _ rfl (by kernel_rfl) rfl (Nat.le_of_ble_eq_true rfl) rfl rfl fun S13 hL hn13 => ?_ | refine hL.st 6 _ rfl (by kernel_rfl) rfl (Nat.le_of_ble_eq_true rfl) rfl rfl fun S13 hL hn13 => ?_ | refine hL.st 7 _ rfl (by kernel_rfl) rfl (Nat.le_of_ble_eq_true rfl) rfl rfl fun S13 hL hn13 => ?_)
      (first | refine hL.ld 0 rfl (by kernel_rfl) _ rfl ?_ | refine hL.ld 1 rfl (by kernel_rfl) _ rfl ?_ | refine hL.ld 2 rfl (by kernel_rfl) _ rfl ?_ | refine hL.ld 3 rfl (by kernel_rfl) _ rfl ?_ | refine hL.ld 4 rfl (by kernel_rfl) _ rfl ?_ | refine hL.ld 5 rfl (by kernel_rfl) _ rfl ?_ | refine hL.ld 6 rfl (by kernel_rfl) _ rfl ?_ | refine hL.ld 7 rfl (by kernel_rfl) _ rfl ?_ | refine hL.lda 0 rfl (by kernel_rfl) _ rfl ?_ | refine hL.lda 1 rfl (by kernel_rfl) _ rfl ?_ | refine hL.lda 2 rfl (by kernel_rfl) _ rfl ?_ | refine hL.lda 3 rfl (by kernel_rfl) _ rfl ?_ | refine hL.lda 4 rfl (by kernel_rfl) _ rfl ?_ | refine hL.lda 5 rfl (by kernel_rfl) _ rfl ?_ | refine hL.lda 6 rfl (by kernel_rfl) _ rfl ?_ | refine hL.lda 7 rfl (by kernel_rfl) _ rfl ?_)
      exact hk S13 hL.mod
  have i0 : i64 0 := by simp [i64]
  have ikd : i64 kd := by unfold i64; omega
  have i1 := smallL_i64 (w4.getD 1 [])
  have i2 := smallL_i64 (w4.getD 2 [])
  have i3 := smallL_i64 (w4.getD 3 [])
  have iv := valL_lt (w4.getD 2 []) 0 (by omega)
  repeat (first | refine ptrW_of ?_ | refine sameV_of ?_ | (first | refine hL.ld 0 rfl (by kernel_rfl) _ rfl ?_ | refine hL.ld 1 rfl (by kernel_rfl) _ rfl ?_ | refine hL.ld 2 rfl (by kernel_rfl) _ rfl ?_ | refine hL.ld 3 rfl (by kernel_rfl) _ rfl ?_ | refine hL.ld 4 rfl (by kernel_rfl) _ rfl ?_ | refine hL.ld 5 rfl (by kernel_rfl) _ rfl ?_ | refine hL.ld 6 rfl (by kernel_rfl) _ rfl ?_ | refine hL.ld 7 rfl (by kernel_rfl) _ rfl ?_ | refine hL.lda 0 rfl (by kernel_rfl) _ rfl ?_ | refine hL.lda 1 rfl (by kernel_rfl) _ rfl ?_ | refine hL.lda 2 rfl (by kernel_rfl) _ rfl ?_ | refine hL.lda 3 rfl (by kernel_rfl) _ rfl ?_ | refine hL.lda 4 rfl (by kernel_rfl) _ rfl ?_ | refine hL.lda 5 rfl (by kernel_rfl) _ rfl ?_ | refine hL.lda 6 rfl (by kernel_rfl) _ rfl ?_ | refine hL.lda 7 rfl (by kernel_rfl) _ rfl ?_) | (first | refine hLo.ld 0 rfl (by kernel_rfl) _ rfl ?_ | refine hLo.ld 1 rfl (by kernel_rfl) _ rfl ?_ | refine hLo.ld 2 rfl (by kernel_rfl) _ rfl ?_ | refine hLo.ld 3 rfl (by kernel_rfl) _ rfl ?_ | refine hLo.ld 4 rfl (by kernel_rfl) _ rfl ?_ | refine hLo.ld 5 rfl (by kernel_rfl) _ rfl ?_ | refine hLo.ld 6 rfl (by kernel_rfl) _ rfl ?_ | refine hLo.ld 7 rfl (by kernel_rfl) _ rfl ?_ | refine hLo.lda 0 rfl (by kernel_rfl) _ rfl ?_ | refine hLo.lda 1 rfl (by kernel_rfl) _ rfl ?_ | refine hLo.lda 2 rfl (by kernel_rfl) _ rfl ?_ | refine hLo.lda 3 rfl (by kernel_rfl) _ rfl ?_ | refine hLo.lda 4 rfl (by kernel_rfl) _ rfl ?_ | refine hLo.lda 5 rfl (by kernel_rfl) _ rfl ?_ | refine hLo.lda 6 rfl (by kernel_rfl) _ rfl ?_ | refine hLo.lda 7 rfl (by kernel_rfl) _ rfl ?_))
  refine ifW_dec (fun h1 => ?_) fun h1 => ?_
  · rw [if_pos h1] at hk
    refine SlOf.strI (hL.p.of fun _ => rfl) (j := 1) rfl (by omega) ?_
    refine evC_of (s50 (hwl 1) ⟨_, rfl, ?_⟩)
    refine ptrW_of ?_
    (first | refine hL.st 0 _ rfl (by kernel_rfl) rfl (Nat.le_of_ble_eq_true rfl) rfl rfl fun S9 hL hn9 => ?_ | refine hL.st 1 _ rfl (by kernel_rfl) rfl (Nat.le_of_ble_eq_true rfl) rfl rfl fun S9 hL hn9 => ?_ | refine hL.st 2 _ rfl (by kernel_rfl) rfl (Nat.le_of_ble_eq_true rfl) rfl rfl fun S9 hL hn9 => ?_ | refine hL.st 3 _ rfl (by kernel_rfl) rfl (Nat.le_of_ble_eq_true rfl) rfl rfl fun S9 hL hn9 => ?_ | refine hL.st 4 _ rfl (by kernel_rfl) rfl (Nat.le_of_ble_eq_true rfl) rfl rfl fun S9 hL hn9 => ?_ | refine hL.st 5 _ rfl (by kernel_rfl) rfl (Nat.le_of_ble_eq_true rfl) rfl rfl fun S9 hL hn9 => ?_ | refine hL.st 6 _ rfl (by kernel_rfl) rfl (Nat.le_of_ble_eq_true rfl) rfl rfl fun S9 hL hn9 => ?_ | refine hL.st 7 _ rfl (by kernel_rfl) rfl (Nat.le_of_ble_eq_true rfl) rfl rfl fun S9 hL hn9 => ?_)
    refine SlOf.strI (hL.p.of fun _ => rfl) (j := 2) rfl (by omega) ?_
    refine evC_of (s51 (hwl 2) ⟨_, rfl, ?_⟩)
    refine ptrW_of ?_
    (first | refine hL.st 0 _ rfl (by kernel_rfl) rfl (Nat.le_of_ble_eq_true rfl) rfl rfl fun S10 hL hn10 => ?_ | refine hL.st 1 _ rfl (by kernel_rfl) rfl (Nat.le_of_ble_eq_true rfl) rfl rfl fun S10 hL hn10 => ?_ | refine hL.st 2 _ rfl (by kernel_rfl) rfl (Nat.le_of_ble_eq_true rfl) rfl rfl fun S10 hL hn10 => ?_ | refine hL.st 3 _ rfl (by kernel_rfl) rfl (Nat.le_of_ble_eq_true rfl) rfl rfl fun S10 hL hn10 => ?_ | refine hL.st 4 _ rfl (by kernel_rfl) rfl (Nat.le_of_ble_eq_true rfl) rfl rfl fun S10 hL hn10 => ?_ | refine hL.st 5 _ rfl (by kernel_rfl) rfl (Nat.le_of_ble_eq_true rfl) rfl rfl fun S10 hL hn10 => ?_ | refine hL.st 6 _ rfl (by kernel_rfl) rfl (Nat.le_of_ble_eq_true rfl) rfl rfl fun S10 hL hn10 => ?_ | refine hL.st 7 _ rfl (by kernel_rfl) rfl (Nat.le_of_ble_eq_true rfl) rfl rfl fun S10 hL hn10 => ?_)
    exact fin hk ⟨ikd, i1, i0, i0, i0, by dsimp only; omega⟩ hL
  rw [if_neg h1] at hk
  intro k5 hk5
  have key5 : ∀ t : Bool, (t = true ↔ 2 ≤ kd ∧ kd ≤ 4) → k5 t S8 := by
    intro t ht
    refine hk5 _ _ ?_
    refine ifW_of (fun h => ?_) fun h => ?_
    · rw [if_pos (ht.1 h)] at hk
      refine SlOf.strI (hL.p.of fun _ => rfl) (j := 1) rfl (by omega) ?_
      refine evC_of (s50 (hwl 1) ⟨_, rfl, ?_⟩)
      refine ptrW_of ?_
      (first | refine hL.st 0 _ rfl (by kernel_rfl) rfl (Nat.le_of_ble_eq_true rfl) rfl rfl fun S9 hL hn9 => ?_ | refine hL.st 1 _ rfl (by kernel_rfl) rfl (Nat.le_of_ble_eq_true rfl) rfl rfl fun S9 hL hn9 => ?_ | refine hL.st 2 _ rfl (by kernel_rfl) rfl (Nat.le_of_ble_eq_true rfl) rfl rfl fun S9 hL hn9 => ?_ | refine hL.st 3 _ rfl (by kernel_rfl) rfl (Nat.le_of_ble_eq_true rfl) rfl rfl fun S9 hL hn9 => ?_ | refine hL.st 4 _ rfl (by kernel_rfl) rfl (Nat.le_of_ble_eq_true rfl) rfl rfl fun S9 hL hn9 => ?_ | refine hL.st 5 _ rfl (by kernel_rfl) rfl (Nat.le_of_ble_eq_true rfl) rfl rfl fun S9 hL hn9 => ?_ | refine hL.st 6 _ rfl (by kernel_rfl) rfl (Nat.le_of_ble_eq_true rfl) rfl rfl fun S9 hL hn9 => ?_ | refine hL.st 7 _ rfl (by kernel_rfl) rfl (Nat.le_of_ble_eq_true rfl) rfl rfl fun S9 hL hn9 => ?_)
      exact fin hk ⟨ikd, i0, i1, i0, i0, by simp⟩ hL
    rw [if_neg (not_of ht h)] at hk
    repeat (first | refine ptrW_of ?_ | refine sameV_of ?_ | (first | refine hL.ld 0 rfl (by kernel_rfl) _ rfl ?_ | refine hL.ld 1 rfl (by kernel_rfl) _ rfl ?_ | refine hL.ld 2 rfl (by kernel_rfl) _ rfl ?_ | refine hL.ld 3 rfl (by kernel_rfl) _ rfl ?_ | refine hL.ld 4 rfl (by kernel_rfl) _ rfl ?_ | refine hL.ld 5 rfl (by kernel_rfl) _ rfl ?_ | refine hL.ld 6 rfl (by kernel_rfl) _ rfl ?_ | refine hL.ld 7 rfl (by kernel_rfl) _ rfl ?_ | refine hL.lda 0 rfl (by kernel_rfl) _ rfl ?_ | refine hL.lda 1 rfl (by kernel_rfl) _ rfl ?_ | refine hL.lda 2 rfl (by kernel_rfl) _ rfl ?_ | refine hL.lda 3 rfl (by kernel_rfl) _ rfl ?_ | refine hL.lda 4 rfl (by kernel_rfl) _ rfl ?_ | refine hL.lda 5 rfl (by kernel_rfl) _ rfl ?_ | refine hL.lda 6 rfl (by kernel_rfl) _ rfl ?_ | refine hL.lda 7 rfl (by kernel_rfl) _ rfl ?_) | (first | refine hLo.ld 0 rfl (by kernel_rfl) _ rfl ?_ | refine hLo.ld 1 rfl (by kernel_rfl) _ rfl ?_ | refine hLo.ld 2 rfl (by kernel_rfl) _ rfl ?_ | refine hLo.ld 3 rfl (by kernel_rfl) _ rfl ?_ | refine hLo.ld 4 rfl (by kernel_rfl) _ rfl ?_ | refine hLo.ld 5 rfl (by kernel_rfl) _ rfl ?_ | refine hLo.ld 6 rfl (by kernel_rfl) _ rfl ?_ | refine hLo.ld 7 rfl (by kernel_rfl) _ rfl ?_ | refine hLo.lda 0 rfl (by kernel_rfl) _ rfl ?_ | refine hLo.lda 1 rfl (by kernel_rfl) _ rfl ?_ | refine hLo.lda 2 rfl (by kernel_rfl) _ rfl ?_ | refine hLo.lda 3 rfl (by kernel_rfl) _ rfl ?_ | refine hLo.lda 4 rfl (by kernel_rfl) _ rfl ?_ | refine hLo.lda 5 rfl (by kernel_rfl) _ rfl ?_ | refine hLo.lda 6 rfl (by kernel_rfl) _ rfl ?_ | refine hLo.lda 7 rfl (by kernel_rfl) _ rfl ?_))
    refine ifW_dec (fun h5 => ?_) fun h5 => ?_
    · rw [if_pos h5] at hk
      refine SlOf.strI (hL.p.of fun _ => rfl) (j := 1) rfl (by omega) ?_
      refine evC_of (s50 (hwl 1) ⟨_, rfl, ?_⟩)
      refine ptrW_of ?_
      (first | refine hL.st 0 _ rfl (by kernel_rfl) rfl (Nat.le_of_ble_eq_true rfl) rfl rfl fun S9 hL hn9 => ?_ | refine hL.st 1 _ rfl (by kernel_rfl) rfl (Nat.le_of_ble_eq_true rfl) rfl rfl fun S9 hL hn9 => ?_ | refine hL.st 2 _ rfl (by kernel_rfl) rfl (Nat.le_of_ble_eq_true rfl) rfl rfl fun S9 hL hn9 => ?_ | refine hL.st 3 _ rfl (by kernel_rfl) rfl (Nat.le_of_ble_eq_true rfl) rfl rfl fun S9 hL hn9 => ?_ | refine hL.st 4 _ rfl (by kernel_rfl) rfl (Nat.le_of_ble_eq_true rfl) rfl rfl fun S9 hL hn9 => ?_ | refine hL.st 5 _ rfl (by kernel_rfl) rfl (Nat.le_of_ble_eq_true rfl) rfl rfl fun S9 hL hn9 => ?_ | refine hL.st 6 _ rfl (by kernel_rfl) rfl (Nat.le_of_ble_eq_true rfl) rfl rfl fun S9 hL hn9 => ?_ | refine hL.st 7 _ rfl (by kernel_rfl) rfl (Nat.le_of_ble_eq_true rfl) rfl rfl fun S9 hL hn9 => ?_)
      refine SlOf.strI (hL.p.of fun _ => rfl) (j := 2) rfl (by omega) ?_
      refine evC_of (s50 (hwl 2) ⟨_, rfl, ?_⟩)
      refine ptrW_of ?_
      (first | refine hL.st 0 _ rfl (by kernel_rfl) rfl (Nat.le_of_ble_eq_true rfl) rfl rfl fun S10 hL hn10 => ?_ | refine hL.st 1 _ rfl (by kernel_rfl) rfl (Nat.le_of_ble_eq_true rfl) rfl rfl fun S10 hL hn10 => ?_ | refine hL.st 2 _ rfl (by kernel_rfl) rfl (Nat.le_of_ble_eq_true rfl) rfl rfl fun S10 hL hn10 => ?_ | refine hL.st 3 _ rfl (by kernel_rfl) rfl (Nat.le_of_ble_eq_true rfl) rfl rfl fun S10 hL hn10 => ?_ | refine hL.st 4 _ rfl (by kernel_rfl) rfl (Nat.le_of_ble_eq_true rfl) rfl rfl fun S10 hL hn10 => ?_ | refine hL.st 5 _ rfl (by kernel_rfl) rfl (Nat.le_of_ble_eq_true rfl) rfl rfl fun S10 hL hn10 => ?_ | refine hL.st 6 _ rfl (by kernel_rfl) rfl (Nat.le_of_ble_eq_true rfl) rfl rfl fun S10 hL hn10 => ?_ | refine hL.st 7 _ rfl (by kernel_rfl) rfl (Nat.le_of_ble_eq_true rfl) rfl rfl fun S10 hL hn10 => ?_)
      refine SlOf.strI (hL.p.of fun _ => rfl) (j := 3) rfl (by omega) ?_
      refine evC_of (s50 (hwl 3) ⟨_, rfl, ?_⟩)
      refine ptrW_of ?_
      (first | refine hL.st 0 _ rfl (by kernel_rfl) rfl (Nat.le_of_ble_eq_true rfl) rfl rfl fun S11 hL hn11 => ?_ | refine hL.st 1 _ rfl (by kernel_rfl) rfl (Nat.le_of_ble_eq_true rfl) rfl rfl fun S11 hL hn11 => ?_ | refine hL.st 2 _ rfl (by kernel_rfl) rfl (Nat.le_of_ble_eq_true rfl) rfl rfl fun S11 hL hn11 => ?_ | refine hL.st 3 _ rfl (by kernel_rfl) rfl (Nat.le_of_ble_eq_true rfl) rfl rfl fun S11 hL hn11 => ?_ | refine hL.st 4 _ rfl (by kernel_rfl) rfl (Nat.le_of_ble_eq_true rfl) rfl rfl fun S11 hL hn11 => ?_ | refine hL.st 5 _ rfl (by kernel_rfl) rfl (Nat.le_of_ble_eq_true rfl) rfl rfl fun S11 hL hn11 => ?_ | refine hL.st 6 _ rfl (by kernel_rfl) rfl (Nat.le_of_ble_eq_true rfl) rfl rfl fun S11 hL hn11 => ?_ | refine hL.st 7 _ rfl (by kernel_rfl) rfl (Nat.le_of_ble_eq_true rfl) rfl rfl fun S11 hL hn11 => ?_)
      exact fin hk ⟨ikd, i0, i1, i2, i3, by simp⟩ hL
    rw [if_neg h5] at hk
    repeat (first | refine ptrW_of ?_ | refine sameV_of ?_ | (first | refine hL.ld 0 rfl (by kernel_rfl) _ rfl ?_ | refine hL.ld 1 rfl (by kernel_rfl) _ rfl ?_ | refine hL.ld 2 rfl (by kernel_rfl) _ rfl ?_ | refine hL.ld 3 rfl (by kernel_rfl) _ rfl ?_ | refine hL.ld 4 rfl (by kernel_rfl) _ rfl ?_ | refine hL.ld 5 rfl (by kernel_rfl) _ rfl ?_ | refine hL.ld 6 rfl (by kernel_rfl) _ rfl ?_ | refine hL.ld 7 rfl (by kernel_rfl) _ rfl ?_ | refine hL.lda 0 rfl (by kernel_rfl) _ rfl ?_ | refine hL.lda 1 rfl (by kernel_rfl) _ rfl ?_ | refine hL.lda 2 rfl (by kernel_rfl) _ rfl ?_ | refine hL.lda 3 rfl (by kernel_rfl) _ rfl ?_ | refine hL.lda 4 rfl (by kernel_rfl) _ rfl ?_ | refine hL.lda 5 rfl (by kernel_rfl) _ rfl ?_ | refine hL.lda 6 rfl (by kernel_rfl) _ rfl ?_ | refine hL.lda 7 rfl (by kernel_rfl) _ rfl ?_) | (first | refine hLo.ld 0 rfl (by kernel_rfl) _ rfl ?_ | refine hLo.ld 1 rfl (by kernel_rfl) _ rfl ?_ | refine hLo.ld 2 rfl (by kernel_rfl) _ rfl ?_ | refine hLo.ld 3 rfl (by kernel_rfl) _ rfl ?_ | refine hLo.ld 4 rfl (by kernel_rfl) _ rfl ?_ | refine hLo.ld 5 rfl (by kernel_rfl) _ rfl ?_ | refine hLo.ld 6 rfl (by kernel_rfl) _ rfl ?_ | refine hLo.ld 7 rfl (by kernel_rfl) _ rfl ?_ | refine hLo.lda 0 rfl (by kernel_rfl) _ rfl ?_ | refine hLo.lda 1 rfl (by kernel_rfl) _ rfl ?_ | refine hLo.lda 2 rfl (by kernel_rfl) _ rfl ?_ | refine hLo.lda 3 rfl (by kernel_rfl) _ rfl ?_ | refine hLo.lda 4 rfl (by kernel_rfl) _ rfl ?_ | refine hLo.lda 5 rfl (by kernel_rfl) _ rfl ?_ | refine hLo.lda 6 rfl (by kernel_rfl) _ rfl ?_ | refine hLo.lda 7 rfl (by kernel_rfl) _ rfl ?_))
    refine ifW_dec (fun h6 => ?_) fun h6 => ?_
    · rw [if_pos h6] at hk
      refine SlOf.strI (hL.p.of fun _ => rfl) (j := 1) rfl (by omega) ?_
      refine evC_of (s50 (hwl 1) ⟨_, rfl, ?_⟩)
      refine ptrW_of ?_
      (first | refine hL.st 0 _ rfl (by kernel_rfl) rfl (Nat.le_of_ble_eq_true rfl) rfl rfl fun S9 hL hn9 => ?_ | refine hL.st 1 _ rfl (by kernel_rfl) rfl (Nat.le_of_ble_eq_true rfl) rfl rfl fun S9 hL hn9 => ?_ | refine hL.st 2 _ rfl (by kernel_rfl) rfl (Nat.le_of_ble_eq_true rfl) rfl rfl fun S9 hL hn9 => ?_ | refine hL.st 3 _ rfl (by kernel_rfl) rfl (Nat.le_of_ble_eq_true rfl) rfl rfl fun S9 hL hn9 => ?_ | refine hL.st 4 _ rfl (by kernel_rfl) rfl (Nat.le_of_ble_eq_true rfl) rfl rfl fun S9 hL hn9 => ?_ | refine hL.st 5 _ rfl (by kernel_rfl) rfl (Nat.le_of_ble_eq_true rfl) rfl rfl fun S9 hL hn9 => ?_ | refine hL.st 6 _ rfl (by kernel_rfl) rfl (Nat.le_of_ble_eq_true rfl) rfl rfl fun S9 hL hn9 => ?_ | refine hL.st 7 _ rfl (by kernel_rfl) rfl (Nat.le_of_ble_eq_true rfl) rfl rfl fun S9 hL hn9 => ?_)
      intro k4 hk4
      have key4 : ∀ {S' : St} {n : Int}, i64 n → (∀ S', Ext S S' → k (.tuple #[sv G23 (readP (kd, smallL (w4.getD 1 []), if kd = 9 ∧ w4.getD 2 [] = allT then -1 else n, 0, 0, 0) l).1, .int .i64 (readP (kd, smallL (w4.getD 1 []), if kd = 9 ∧ w4.getD 2 [] = allT then -1 else n, 0, 0, 0) l).2]) S') → Cx noB S S' (boxesQ b2 b1 (kd, smallL (w4.getD 1 []), n, 0, 0, 0)) (slO s2) (fun S => Ow strC 1 S s2 w4) → k4 PUnit.unit S' := by
        intro S' n hn hk hL
        refine hk4 _ _ ?_
        repeat (first | refine ptrW_of ?_ | refine sameV_of ?_ | (first | refine hL.ld 0 rfl (by kernel_rfl) _ rfl ?_ | refine hL.ld 1 rfl (by kernel_rfl) _ rfl ?_ | refine hL.ld 2 rfl (by kernel_rfl) _ rfl ?_ | refine hL.ld 3 rfl (by kernel_rfl) _ rfl ?_ | refine hL.ld 4 rfl (by kernel_rfl) _ rfl ?_ | refine hL.ld 5 rfl (by kernel_rfl) _ rfl ?_ | refine hL.ld 6 rfl (by kernel_rfl) _ rfl ?_ | refine hL.ld 7 rfl (by kernel_rfl) _ rfl ?_ | refine hL.lda 0 rfl (by kernel_rfl) _ rfl ?_ | refine hL.lda 1 rfl (by kernel_rfl) _ rfl ?_ | refine hL.lda 2 rfl (by kernel_rfl) _ rfl ?_ | refine hL.lda 3 rfl (by kernel_rfl) _ rfl ?_ | refine hL.lda 4 rfl (by kernel_rfl) _ rfl ?_ | refine hL.lda 5 rfl (by kernel_rfl) _ rfl ?_ | refine hL.lda 6 rfl (by kernel_rfl) _ rfl ?_ | refine hL.lda 7 rfl (by kernel_rfl) _ rfl ?_) | (first | refine hLo.ld 0 rfl (by kernel_rfl) _ rfl ?_ | refine hLo.ld 1 rfl (by kernel_rfl) _ rfl ?_ | refine hLo.ld 2 rfl (by kernel_rfl) _ rfl ?_ | refine hLo.ld 3 rfl (by kernel_rfl) _ rfl ?_ | refine hLo.ld 4 rfl (by kernel_rfl) _ rfl ?_ | refine hLo.ld 5 rfl (by kernel_rfl) _ rfl ?_ | refine hLo.ld 6 rfl (by kernel_rfl) _ rfl ?_ | refine hLo.ld 7 rfl (by kernel_rfl) _ rfl ?_ | refine hLo.lda 0 rfl (by kernel_rfl) _ rfl ?_ | refine hLo.lda 1 rfl (by kernel_rfl) _ rfl ?_ | refine hLo.lda 2 rfl (by kernel_rfl) _ rfl ?_ | refine hLo.lda 3 rfl (by kernel_rfl) _ rfl ?_ | refine hLo.lda 4 rfl (by kernel_rfl) _ rfl ?_ | refine hLo.lda 5 rfl (by kernel_rfl) _ rfl ?_ | refine hLo.lda 6 rfl (by kernel_rfl) _ rfl ?_ | refine hLo.lda 7 rfl (by kernel_rfl) _ rfl ?_))
        refine ifW_dec (fun h9 => ?_) fun h9 => ?_
        · refine SlOf.strI (hL.p.of fun _ => rfl) (j := 2) rfl (by omega) ?_
          refine ifW_of (fun h => ?_) fun h => ?_
          · have h : w4.getD 2 [] = allT := by simpa using h
            rw [if_pos ⟨h9, h⟩] at hk
            refine ptrW_of ?_
            (first | refine hL.st 0 _ rfl (by kernel_rfl) rfl (Nat.le_of_ble_eq_true rfl) rfl rfl fun S10 hL hn10 => ?_ | refine hL.st 1 _ rfl (by kernel_rfl) rfl (Nat.le_of_ble_eq_true rfl) rfl rfl fun S10 hL hn10 => ?_ | refine hL.st 2 _ rfl (by kernel_rfl) rfl (Nat.le_of_ble_eq_true rfl) rfl rfl fun S10 hL hn10 => ?_ | refine hL.st 3 _ rfl (by kernel_rfl) rfl (Nat.le_of_ble_eq_true rfl) rfl rfl fun S10 hL hn10 => ?_ | refine hL.st 4 _ rfl (by kernel_rfl) rfl (Nat.le_of_ble_eq_true rfl) rfl rfl fun S10 hL hn10 => ?_ | refine hL.st 5 _ rfl (by kernel_rfl) rfl (Nat.le_of_ble_eq_true rfl) rfl rfl fun S10 hL hn10 => ?_ | refine hL.st 6 _ rfl (by kernel_rfl) rfl (Nat.le_of_ble_eq_true rfl) rfl rfl fun S10 hL hn10 => ?_ | refine hL.st 7 _ rfl (by kernel_rfl) rfl (Nat.le_of_ble_eq_true rfl) rfl rfl fun S10 hL hn10 => ?_)
            exact fin hk ⟨ikd, i1, by simp [i64], i0, i0, by simp⟩ hL
          · have h : ¬ w4.getD 2 [] = allT := by simpa using h
            rw [if_neg (fun h' => h h'.2)] at hk
            exact fin hk ⟨ikd, i1, hn, i0, i0, by simp⟩ hL
        · rw [if_neg (fun h' => h9 h'.1)] at hk
          exact fin hk ⟨ikd, i1, hn, i0, i0, by simp⟩ hL
      repeat (first | refine ptrW_of ?_ | refine sameV_of ?_ | (first | refine hL.ld 0 rfl (by kernel_rfl) _ rfl ?_ | refine hL.ld 1 rfl (by kernel_rfl) _ rfl ?_ | refine hL.ld 2 rfl (by kernel_rfl) _ rfl ?_ | refine hL.ld 3 rfl (by kernel_rfl) _ rfl ?_ | refine hL.ld 4 rfl (by kernel_rfl) _ rfl ?_ | refine hL.ld 5 rfl (by kernel_rfl) _ rfl ?_ | refine hL.ld 6 rfl (by kernel_rfl) _ rfl ?_ | refine hL.ld 7 rfl (by kernel_rfl) _ rfl ?_ | refine hL.lda 0 rfl (by kernel_rfl) _ rfl ?_ | refine hL.lda 1 rfl (by kernel_rfl) _ rfl ?_ | refine hL.lda 2 rfl (by kernel_rfl) _ rfl ?_ | refine hL.lda 3 rfl (by kernel_rfl) _ rfl ?_ | refine hL.lda 4 rfl (by kernel_rfl) _ rfl ?_ | refine hL.lda 5 rfl (by kernel_rfl) _ rfl ?_ | refine hL.lda 6 rfl (by kernel_rfl) _ rfl ?_ | refine hL.lda 7 rfl (by kernel_rfl) _ rfl ?_) | (first | refine hLo.ld 0 rfl (by kernel_rfl) _ rfl ?_ | refine hLo.ld 1 rfl (by kernel_rfl) _ rfl ?_ | refine hLo.ld 2 rfl (by kernel_rfl) _ rfl ?_ | refine hLo.ld 3 rfl (by kernel_rfl) _ rfl ?_ | refine hLo.ld 4 rfl (by kernel_rfl) _ rfl ?_ | refine hLo.ld 5 rfl (by kernel_rfl) _ rfl ?_ | refine hLo.ld 6 rfl (by kernel_rfl) _ rfl ?_ | refine hLo.ld 7 rfl (by kernel_rfl) _ rfl ?_ | refine hLo.lda 0 rfl (by kernel_rfl) _ rfl ?_ | refine hLo.lda 1 rfl (by kernel_rfl) _ rfl ?_ | refine hLo.lda 2 rfl (by kernel_rfl) _ rfl ?_ | refine hLo.lda 3 rfl (by kernel_rfl) _ rfl ?_ | refine hLo.lda 4 rfl (by kernel_rfl) _ rfl ?_ | refine hLo.lda 5 rfl (by kernel_rfl) _ rfl ?_ | refine hLo.lda 6 rfl (by kernel_rfl) _ rfl ?_ | refine hLo.lda 7 rfl (by kernel_rfl) _ rfl ?_))
      refine ifW_dec (fun h7 => ?_) fun h7 => ?_
      · rw [if_pos h7] at hk
        refine SlOf.strI (hL.p.of fun _ => rfl) (j := 2) rfl (by omega) ?_
        refine evC_of (s50 (hwl 2) ⟨_, rfl, ?_⟩)
        refine ptrW_of ?_
        (first | refine hL.st 0 _ rfl (by kernel_rfl) rfl (Nat.le_of_ble_eq_true rfl) rfl rfl fun S10 hL hn10 => ?_ | refine hL.st 1 _ rfl (by kernel_rfl) rfl (Nat.le_of_ble_eq_true rfl) rfl rfl fun S10 hL hn10 => ?_ | refine hL.st 2 _ rfl (by kernel_rfl) rfl (Nat.le_of_ble_eq_true rfl) rfl rfl fun S10 hL hn10 => ?_ | refine hL.st 3 _ rfl (by kernel_rfl) rfl (Nat.le_of_ble_eq_true rfl) rfl rfl fun S10 hL hn10 => ?_ | refine hL.st 4 _ rfl (by kernel_rfl) rfl (Nat.le_of_ble_eq_true rfl) rfl rfl fun S10 hL hn10 => ?_ | refine hL.st 5 _ rfl (by kernel_rfl) rfl (Nat.le_of_ble_eq_true rfl) rfl rfl fun S10 hL hn10 => ?_ | refine hL.st 6 _ rfl (by kernel_rfl) rfl (Nat.le_of_ble_eq_true rfl) rfl rfl fun S10 hL hn10 => ?_ | refine hL.st 7 _ rfl (by kernel_rfl) rfl (Nat.le_of_ble_eq_true rfl) rfl rfl fun S10 hL hn10 => ?_)
        exact key4 i2 hk hL
      · rw [if_neg h7] at hk
        exact key4 i0 hk hL
    · rw [if_neg h6] at hk
      exact fin hk ⟨ikd, i0, i0, i0, i0, by simp⟩ hL
  repeat (first | refine ptrW_of ?_ | refine sameV_of ?_ | (first | refine hL.ld 0 rfl (by kernel_rfl) _ rfl ?_ | refine hL.ld 1 rfl (by kernel_rfl) _ rfl ?_ | refine hL.ld 2 rfl (by kernel_rfl) _ rfl ?_ | refine hL.ld 3 rfl (by kernel_rfl) _ rfl ?_ | refine hL.ld 4 rfl (by kernel_rfl) _ rfl ?_ | refine hL.ld 5 rfl (by kernel_rfl) _ rfl ?_ | refine hL.ld 6 rfl (by kernel_rfl) _ rfl ?_ | refine hL.ld 7 rfl (by kernel_rfl) _ rfl ?_ | refine hL.lda 0 rfl (by kernel_rfl) _ rfl ?_ | refine hL.lda 1 rfl (by kernel_rfl) _ rfl ?_ | refine hL.lda 2 rfl (by kernel_rfl) _ rfl ?_ | refine hL.lda 3 rfl (by kernel_rfl) _ rfl ?_ | refine hL.lda 4 rfl (by kernel_rfl) _ rfl ?_ | refine hL.lda 5 rfl (by kernel_rfl) _ rfl ?_ | refine hL.lda 6 rfl (by kernel_rfl) _ rfl ?_ | refine hL.lda 7 rfl (by kernel_rfl) _ rfl ?_) | (first | refine hLo.ld 0 rfl (by kernel_rfl) _ rfl ?_ | refine hLo.ld 1 rfl (by kernel_rfl) _ rfl ?_ | refine hLo.ld 2 rfl (by kernel_rfl) _ rfl ?_ | refine hLo.ld 3 rfl (by kernel_rfl) _ rfl ?_ | refine hLo.ld 4 rfl (by kernel_rfl) _ rfl ?_ | refine hLo.ld 5 rfl (by kernel_rfl) _ rfl ?_ | refine hLo.ld 6 rfl (by kernel_rfl) _ rfl ?_ | refine hLo.ld 7 rfl (by kernel_rfl) _ rfl ?_ | refine hLo.lda 0 rfl (by kernel_rfl) _ rfl ?_ | refine hLo.lda 1 rfl (by kernel_rfl) _ rfl ?_ | refine hLo.lda 2 rfl (by kernel_rfl) _ rfl ?_ | refine hLo.lda 3 rfl (by kernel_rfl) _ rfl ?_ | refine hLo.lda 4 rfl (by kernel_rfl) _ rfl ?_ | refine hLo.lda 5 rfl (by kernel_rfl) _ rfl ?_ | refine hLo.lda 6 rfl (by kernel_rfl) _ rfl ?_ | refine hLo.lda 7 rfl (by kernel_rfl) _ rfl ?_))
  refine ifW_dec (fun h2 => ?_) fun h2 => key5 _ ⟨fun h => (by cases h), fun h => (h2 h.1).elim⟩
  repeat (first | refine ptrW_of ?_ | refine sameV_of ?_ | (first | refine hL.ld 0 rfl (by kernel_rfl) _ rfl ?_ | refine hL.ld 1 rfl (by kernel_rfl) _ rfl ?_ | refine hL.ld 2 rfl (by kernel_rfl) _ rfl ?_ | refine hL.ld 3 rfl (by kernel_rfl) _ rfl ?_ | refine hL.ld 4 rfl (by kernel_rfl) _ rfl ?_ | refine hL.ld 5 rfl (by kernel_rfl) _ rfl ?_ | refine hL.ld 6 rfl (by kernel_rfl) _ rfl ?_ | refine hL.ld 7 rfl (by kernel_rfl) _ rfl ?_ | refine hL.lda 0 rfl (by kernel_rfl) _ rfl ?_ | refine hL.lda 1 rfl (by kernel_rfl) _ rfl ?_ | refine hL.lda 2 rfl (by kernel_rfl) _ rfl ?_ | refine hL.lda 3 rfl (by kernel_rfl) _ rfl ?_ | refine hL.lda 4 rfl (by kernel_rfl) _ rfl ?_ | refine hL.lda 5 rfl (by kernel_rfl) _ rfl ?_ | refine hL.lda 6 rfl (by kernel_rfl) _ rfl ?_ | refine hL.lda 7 rfl (by kernel_rfl) _ rfl ?_) | (first | refine hLo.ld 0 rfl (by kernel_rfl) _ rfl ?_ | refine hLo.ld 1 rfl (by kernel_rfl) _ rfl ?_ | refine hLo.ld 2 rfl (by kernel_rfl) _ rfl ?_ | refine hLo.ld 3 rfl (by kernel_rfl) _ rfl ?_ | refine hLo.ld 4 rfl (by kernel_rfl) _ rfl ?_ | refine hLo.ld 5 rfl (by kernel_rfl) _ rfl ?_ | refine hLo.ld 6 rfl (by kernel_rfl) _ rfl ?_ | refine hLo.ld 7 rfl (by kernel_rfl) _ rfl ?_ | refine hLo.lda 0 rfl (by kernel_rfl) _ rfl ?_ | refine hLo.lda 1 rfl (by kernel_rfl) _ rfl ?_ | refine hLo.lda 2 rfl (by kernel_rfl) _ rfl ?_ | refine hLo.lda 3 rfl (by kernel_rfl) _ rfl ?_ | refine hLo.lda 4 rfl (by kernel_rfl) _ rfl ?_ | refine hLo.lda 5 rfl (by kernel_rfl) _ rfl ?_ | refine hLo.lda 6 rfl (by kernel_rfl) _ rfl ?_ | refine hLo.lda 7 rfl (by kernel_rfl) _ rfl ?_))
  exact key5 _ (by rw [leI_eq, decide_eq_true_iff]; omega)
/-- The law: lines. -/
theorem s3 {S : St} {x : Ord} {l : List UInt8} {kd : Int} (g : Gl S) (hw : OrdW x) : WC E0 3 [sv G23 x, strV l, .int .i64 kd] S fun v _ => v = .bool true := by
  refine w3 x l kd ?_
  unfold c3
  have hL := Hld.start noB S
  refine hL.new fun b1 S1 hL _ _ => ?_
  refine ifW_dec (fun h => rfl) fun h => ?_
  (first | refine hL.ld 0 rfl (by kernel_rfl) _ rfl ?_ | refine hL.ld 1 rfl (by kernel_rfl) _ rfl ?_ | refine hL.ld 2 rfl (by kernel_rfl) _ rfl ?_ | refine hL.ld 3 rfl (by kernel_rfl) _ rfl ?_ | refine hL.ld 4 rfl (by kernel_rfl) _ rfl ?_ | refine hL.ld 5 rfl (by kernel_rfl) _ rfl ?_ | refine hL.ld 6 rfl (by kernel_rfl) _ rfl ?_ | refine hL.ld 7 rfl (by kernel_rfl) _ rfl ?_ | refine hL.lda 0 rfl (by kernel_rfl) _ rfl ?_ | refine hL.lda 1 rfl (by kernel_rfl) _ rfl ?_ | refine hL.lda 2 rfl (by kernel_rfl) _ rfl ?_ | refine hL.lda 3 rfl (by kernel_rfl) _ rfl ?_ | refine hL.lda 4 rfl (by kernel_rfl) _ rfl ?_ | refine hL.lda 5 rfl (by kernel_rfl) _ rfl ?_ | refine hL.lda 6 rfl (by kernel_rfl) _ rfl ?_ | refine hL.lda 7 rfl (by kernel_rfl) _ rfl ?_)
  refine evC_of (s11 (g.ext hL.mod) hw fun S2 e2 => ⟨((lineP x).1, (lineP x).2), rfl, ?_⟩)
  have hL := hL.ext e2
  (first | refine hL.ld 0 rfl (by kernel_rfl) _ rfl ?_ | refine hL.ld 1 rfl (by kernel_rfl) _ rfl ?_ | refine hL.ld 2 rfl (by kernel_rfl) _ rfl ?_ | refine hL.ld 3 rfl (by kernel_rfl) _ rfl ?_ | refine hL.ld 4 rfl (by kernel_rfl) _ rfl ?_ | refine hL.ld 5 rfl (by kernel_rfl) _ rfl ?_ | refine hL.ld 6 rfl (by kernel_rfl) _ rfl ?_ | refine hL.ld 7 rfl (by kernel_rfl) _ rfl ?_ | refine hL.lda 0 rfl (by kernel_rfl) _ rfl ?_ | refine hL.lda 1 rfl (by kernel_rfl) _ rfl ?_ | refine hL.lda 2 rfl (by kernel_rfl) _ rfl ?_ | refine hL.lda 3 rfl (by kernel_rfl) _ rfl ?_ | refine hL.lda 4 rfl (by kernel_rfl) _ rfl ?_ | refine hL.lda 5 rfl (by kernel_rfl) _ rfl ?_ | refine hL.lda 6 rfl (by kernel_rfl) _ rfl ?_ | refine hL.lda 7 rfl (by kernel_rfl) _ rfl ?_)
  refine evC_of (s12 hw fun S3 e3 => ⟨((lineP x).1, (lineP x).2), rfl, ?_⟩)
  have hL := hL.ext e3
  refine evC_of (s13 (g.ext hL.mod) (by omega) fun S4 e4 => ⟨((readP (candA l) l).1, (readP (candA l) l).2), rfl, ?_⟩)
  have hL := hL.ext e4
  refine hL.new fun b2 S5 hL _ _ => ?_
  (first | refine hL.st 0 _ rfl (by kernel_rfl) rfl (Nat.le_of_ble_eq_true rfl) rfl rfl fun S6 hL hn6 => ?_ | refine hL.st 1 _ rfl (by kernel_rfl) rfl (Nat.le_of_ble_eq_true rfl) rfl rfl fun S6 hL hn6 => ?_ | refine hL.st 2 _ rfl (by kernel_rfl) rfl (Nat.le_of_ble_eq_true rfl) rfl rfl fun S6 hL hn6 => ?_ | refine hL.st 3 _ rfl (by kernel_rfl) rfl (Nat.le_of_ble_eq_true rfl) rfl rfl fun S6 hL hn6 => ?_ | refine hL.st 4 _ rfl (by kernel_rfl) rfl (Nat.le_of_ble_eq_true rfl) rfl rfl fun S6 hL hn6 => ?_ | refine hL.st 5 _ rfl (by kernel_rfl) rfl (Nat.le_of_ble_eq_true rfl) rfl rfl fun S6 hL hn6 => ?_ | refine hL.st 6 _ rfl (by kernel_rfl) rfl (Nat.le_of_ble_eq_true rfl) rfl rfl fun S6 hL hn6 => ?_ | refine hL.st 7 _ rfl (by kernel_rfl) rfl (Nat.le_of_ble_eq_true rfl) rfl rfl fun S6 hL hn6 => ?_)
  refine evC_of (s14 (by omega) fun S7 e7 => ⟨((readP (candB l) l).1, (readP (candB l) l).2), rfl, ?_⟩)
  have hL := hL.ext e7
  refine hL.new fun b3 S8 hL _ _ => ?_
  (first | refine hL.st 0 _ rfl (by kernel_rfl) rfl (Nat.le_of_ble_eq_true rfl) rfl rfl fun S9 hL hn9 => ?_ | refine hL.st 1 _ rfl (by kernel_rfl) rfl (Nat.le_of_ble_eq_true rfl) rfl rfl fun S9 hL hn9 => ?_ | refine hL.st 2 _ rfl (by kernel_rfl) rfl (Nat.le_of_ble_eq_true rfl) rfl rfl fun S9 hL hn9 => ?_ | refine hL.st 3 _ rfl (by kernel_rfl) rfl (Nat.le_of_ble_eq_true rfl) rfl rfl fun S9 hL hn9 => ?_ | refine hL.st 4 _ rfl (by kernel_rfl) rfl (Nat.le_of_ble_eq_true rfl) rfl rfl fun S9 hL hn9 => ?_ | refine hL.st 5 _ rfl (by kernel_rfl) rfl (Nat.le_of_ble_eq_true rfl) rfl rfl fun S9 hL hn9 => ?_ | refine hL.st 6 _ rfl (by kernel_rfl) rfl (Nat.le_of_ble_eq_true rfl) rfl rfl fun S9 hL hn9 => ?_ | refine hL.st 7 _ rfl (by kernel_rfl) rfl (Nat.le_of_ble_eq_true rfl) rfl rfl fun S9 hL hn9 => ?_)
  (first | refine hL.ld 0 rfl (by kernel_rfl) _ rfl ?_ | refine hL.ld 1 rfl (by kernel_rfl) _ rfl ?_ | refine hL.ld 2 rfl (by kernel_rfl) _ rfl ?_ | refine hL.ld 3 rfl (by kernel_rfl) _ rfl ?_ | refine hL.ld 4 rfl (by kernel_rfl) _ rfl ?_ | refine hL.ld 5 rfl (by kernel_rfl) _ rfl ?_ | refine hL.ld 6 rfl (by kernel_rfl) _ rfl ?_ | refine hL.ld 7 rfl (by kernel_rfl) _ rfl ?_ | refine hL.lda 0 rfl (by kernel_rfl) _ rfl ?_ | refine hL.lda 1 rfl (by kernel_rfl) _ rfl ?_ | refine hL.lda 2 rfl (by kernel_rfl) _ rfl ?_ | refine hL.lda 3 rfl (by kernel_rfl) _ rfl ?_ | refine hL.lda 4 rfl (by kernel_rfl) _ rfl ?_ | refine hL.lda 5 rfl (by kernel_rfl) _ rfl ?_ | refine hL.lda 6 rfl (by kernel_rfl) _ rfl ?_ | refine hL.lda 7 rfl (by kernel_rfl) _ rfl ?_)
  refine evC_of (s15 (g.ext hL.mod) fun S10 e10 => ⟨_, rfl, ?_⟩)
  have hL := hL.ext e10
  have hc : chkE x = (lineP x).2 := by unfold chkE lineP; split <;> rfl
  rw [read_same l] at hL ⊢
  refine ifW_of (fun _ => ?_) fun h => by simp at h
  refine ifW_pos rfl ?_
  refine hL.lda 1 rfl (by kernel_rfl) (readP (candB l) l).1 rfl ?_
  refine hL.lda 0 rfl (by kernel_rfl) (readP (candB l) l).1 rfl ?_
  refine ⟨true, by rw [eqOrd]; simp, ?_⟩
  refine ifW_of (fun _ => ?_) fun h => by cases h
  refine ifW_pos rfl ?_
  refine ifW_pos hc ?_
  refine evC_of (s16 (g.ext hL.mod) ⟨_, rfl, ?_⟩)
  refine evC_of (s17 fun S11 e11 => ⟨_, rfl, ?_⟩)
  simp
end
end Go.Proofs.YtabbbfdlgmoniaaDoor
