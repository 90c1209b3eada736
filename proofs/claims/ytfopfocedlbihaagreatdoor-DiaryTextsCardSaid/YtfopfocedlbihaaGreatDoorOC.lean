/- Parts of the proof, put together. -/
import Derived.Test.YtfopfocedlbihaaGreatDoorOB
import Derived.Test.YtfopfocedlbihaaGreatDoorCB
import Derived.Lib.IndexLaws
/- Orders: a line's order, the document's; the law. -/
namespace Go.Proofs.YtfopfocedlbihaaGreatDoor
open Go Go.Proofs.YtfopfocedlbihaaGreatDoor.D
set_option linter.unusedVariables false
set_option linter.unusedSimpArgs false
noncomputable section

theorem SlOf.strI {S : St} {s : Sl} {l : List (List UInt8)} (h : SlOf strC 1 S s l) {i : Int} {j : Nat} (hi : i = (j : Int)) (hj : j < l.length) {k : List UInt8 → Prop} (hk : k (l.getD j [])) : idxW s.a s.len i fun b1 b2 => evV tT (loadV E0 S 9 (.pointer (some ⟨b1, b2 + Int.toNat i * 1, none⟩))) k := by
  subst hi
  rw [List.getD_eq_getElem?_getD, List.getElem?_eq_getElem hj] at hk
  exact SlOf.str h hj hk
abbrev boxesQ (b2 b1 : Nat) (y : Ord) : List (Nat × DObj) := [(b2, .cells (cellsO y) none false none), (b1, zO)]
theorem getD_pad (l : List (List UInt8)) (j i : Nat) : (l ++ List.replicate j []).getD i [] = l.getD i [] := by
  rw [List.getD_eq_getElem?_getD, List.getD_eq_getElem?_getD, List.getElem?_append]
  split
  · rfl
  · rename_i h
    have h1 : l[i]? = none := List.getElem?_eq_none (by omega)
    rw [h1, List.getElem?_replicate]
    split <;> rfl
theorem s50 {S : St} {l : List UInt8} {k : Value → St → Prop} (hlen : l.length ≤ 10000000) (hk : ∀ S', Ext S S' → k (.tuple #[sv G36 (readP (candB l) l).1, .int .i64 (readP (candB l) l).2]) S') : WC E0 50 [strV l] S k := by
  refine w50 _ ?_
  unfold c50
  have hL := Cx.start (S := S) (P := fun _ => True) noB trivial Frm.true (fun _ h => h.elim)
  refine hL.new fun b1 S1 hL _ _ => ?_
  refine evC_of (s71 hlen fun s S2 hO hs e2 => ⟨s, rfl, ?_⟩)
  have hnn := e2.next
  have hn1 := hL.mod.next
  have hL : Cx noB S S2 [(b1, zO)] (slO s) (fun S => Ow strC 1 S s (wd l)) :=
    hL.op e2 (fun _ h => h.elim) (fun _ h => h.elim) hO Ow.frm (fun c hc => .inr (hs c hc)) (fun c hc => hO.lt hc)
  have hs : ∀ c, slO s c → S.next ≤ c := fun c hc => by have := hs c hc; omega
  have hwc := wd_count l
  have hne := wd_ne l
  have hpos : 0 < (wd l).length := List.length_pos_iff.2 hne
  have hword := fun i => wd_getD l i
  have hhead : (wd l).headD [] = (wd l).getD 0 [] := by cases wd l <;> rfl
  unfold candB at hk
  dsimp only at hk
  generalize wd l = ws at hL hwc hne hpos hhead hk hword
  rw [hhead] at hk
  refine hL.new fun b2 S3 hL _ _ => ?_
  (first | refine hL.st 0 _ rfl (by kernel_rfl) rfl (Nat.le_of_ble_eq_true rfl) rfl rfl fun S4 hL hn4 => ?_ | refine hL.st 1 _ rfl (by kernel_rfl) rfl (Nat.le_of_ble_eq_true rfl) rfl rfl fun S4 hL hn4 => ?_ | refine hL.st 2 _ rfl (by kernel_rfl) rfl (Nat.le_of_ble_eq_true rfl) rfl rfl fun S4 hL hn4 => ?_ | refine hL.st 3 _ rfl (by kernel_rfl) rfl (Nat.le_of_ble_eq_true rfl) rfl rfl fun S4 hL hn4 => ?_ | refine hL.st 4 _ rfl (by kernel_rfl) rfl (Nat.le_of_ble_eq_true rfl) rfl rfl fun S4 hL hn4 => ?_ | refine hL.st 5 _ rfl (by kernel_rfl) rfl (Nat.le_of_ble_eq_true rfl) rfl rfl fun S4 hL hn4 => ?_ | refine hL.st 6 _ rfl (by kernel_rfl) rfl (Nat.le_of_ble_eq_true rfl) rfl rfl fun S4 hL hn4 => ?_ | refine hL.st 7 _ rfl (by kernel_rfl) rfl (Nat.le_of_ble_eq_true rfl) rfl rfl fun S4 hL hn4 => ?_)
  refine loopW_ind (fun q (j : Int) S' => ∃ n : Nat, j = ((n + 1 : Nat) : Int) ∧ n ≤ 9 ∧ q = 9 - n ∧ Cx noB S S' (boxesQ b2 b1 (kindF (ws.getD 0 []) (n + 1), 0, 0, 0, 0, 0)) (slO s) (fun S => Ow strC 1 S s ws)) (m := 9) ⟨0, rfl, by omega, rfl, hL⟩ ?_
  rintro P q j S5 ⟨n, rfl, hn, rfl, hL⟩ hP
  refine ifW_dec (fun hlt => ?_) fun hlt => ?_
  · have hkf : kindF (ws.getD 0 []) (n + 1 + 1) = if 0 < n + 1 ∧ tabW.getD (n + 1) [] = ws.getD 0 [] then ((n + 1 : Nat) : Int) else kindF (ws.getD 0 []) (n + 1) := rfl
    have hnm : nmL ((n + 1 : Nat) : Int) = tabW.getD (n + 1) [] := by unfold nmL; rw [if_pos (by omega)]; rfl
    refine evC_of (s61 fun S6 e6 => ⟨_, rfl, ?_⟩)
    have hL := hL.ext e6
    refine SlOf.strI (hL.p.of fun _ => rfl) (j := 0) rfl hpos ?_
    rw [hnm, wrap_succ (by omega)]
    refine ifW_of (fun h => ?_) fun h => ?_
    · have h : tabW.getD (n + 1) [] = ws.getD 0 [] := by simpa using h
      rw [if_pos ⟨by omega, h⟩] at hkf
      refine ptrW_of ?_
      (first | refine hL.st 0 _ rfl (by kernel_rfl) rfl (Nat.le_of_ble_eq_true rfl) rfl rfl fun S7 hL hn7 => ?_ | refine hL.st 1 _ rfl (by kernel_rfl) rfl (Nat.le_of_ble_eq_true rfl) rfl rfl fun S7 hL hn7 => ?_ | refine hL.st 2 _ rfl (by kernel_rfl) rfl (Nat.le_of_ble_eq_true rfl) rfl rfl fun S7 hL hn7 => ?_ | refine hL.st 3 _ rfl (by kernel_rfl) rfl (Nat.le_of_ble_eq_true rfl) rfl rfl fun S7 hL hn7 => ?_ | refine hL.st 4 _ rfl (by kernel_rfl) rfl (Nat.le_of_ble_eq_true rfl) rfl rfl fun S7 hL hn7 => ?_ | refine hL.st 5 _ rfl (by kernel_rfl) rfl (Nat.le_of_ble_eq_true rfl) rfl rfl fun S7 hL hn7 => ?_ | refine hL.st 6 _ rfl (by kernel_rfl) rfl (Nat.le_of_ble_eq_true rfl) rfl rfl fun S7 hL hn7 => ?_ | refine hL.st 7 _ rfl (by kernel_rfl) rfl (Nat.le_of_ble_eq_true rfl) rfl rfl fun S7 hL hn7 => ?_)
      exact hP _ _ _ (by omega) ⟨n + 1, rfl, by omega, rfl, by rw [hkf]; exact hL⟩
    · have h : ¬ tabW.getD (n + 1) [] = ws.getD 0 [] := by simpa using h
      rw [if_neg (fun h' => h h'.2)] at hkf
      exact hP _ _ _ (by omega) ⟨n + 1, rfl, by omega, rfl, by rw [hkf]; exact hL⟩
  have hn9 : n = 9 := by omega
  subst hn9
  have hkd9 := kindF_le (ws.getD 0 []) 10 (by omega)
  generalize hkd : kindF (ws.getD 0 []) 10 = kd at hL hk hkd9
  refine loopW_ind (fun q (s : Sl) S' => ∃ j : Nat, j ≤ 4 ∧ q = 4 - j ∧ (j ≤ 4 - ws.length) ∧ Cx noB S S' (boxesQ b2 b1 (kd, 0, 0, 0, 0, 0)) (slO s) (fun S => Ow strC 1 S s (ws ++ List.replicate j [])) ∧ ∀ c, slO s c → S.next ≤ c) (m := 4) ⟨0, by omega, rfl, by omega, by simpa using hL, hs⟩ ?_
  rintro P2 q2 s2 S8 ⟨j, hj, rfl, hj2, hL, hs⟩ hP2
  have hsl : s2.len = ws.length + j := by rw [hL.p.len]; simp
  refine ifW_dec (fun hlt => ?_) fun hlt => ?_
  · refine newW_of fun b7 S9 hb7 ha7 e9 hn9 => ?_
    have hL := hL.ext e9
    have hn8 := hL.mod.next
    refine app_str hL.p ha7 (by simp; omega) fun s' S10 g' m hs' => ?_
    refine hP2 _ _ _ (by omega) ⟨j + 1, by omega, rfl, by omega, ?_, fun c hc => (hs' c hc).elim (hs c) fun h => by omega⟩
    refine hL.op m (fun _ h => h) (fun c hc hlt => by have := hs c hc; omega) ?_ Ow.frm hs' (fun c hc => g'.lt hc)
    rw [List.replicate_succ', ← List.append_assoc]
    exact g'
  have h4 : 4 ≤ (ws ++ List.replicate j []).length := by simp; omega
  have hget : ∀ i, (ws ++ List.replicate j []).getD i [] = ws.getD i [] := fun i => getD_pad ws j i
  generalize ws ++ List.replicate j [] = w4 at hL h4 hget
  have hwl : ∀ i, (w4.getD i []).length ≤ 100000000 := fun i => by rw [hget]; have := hword i; omega
  simp only [← hget] at hk
  intro k3 hk3
  -- the end
  have fin : ∀ {S' : St} {c : Ord}, (∀ S', Ext S S' → k (.tuple #[sv G36 (readP c l).1, .int .i64 (readP c l).2]) S') → OrdW c → Cx noB S S' (boxesQ b2 b1 c) (slO s2) (fun S => Ow strC 1 S s2 w4) → k3 PUnit.unit S' := by
    intro S' c hk hcw hL
    refine hk3 _ _ ?_
    refine hL.lda 0 rfl (by kernel_rfl) c rfl ?_
    refine evC_of (s37 hcw fun S12 e12 => ⟨((lineP c).1, (lineP c).2), rfl, ?_⟩)
    have hL := hL.ext e12
    unfold readP at hk
    by_cases hm : mayP c
    · have hlp : lineP c = (lineL c, 0) := if_pos hm
      rw [hlp]
      refine ifW_ndec (fun h => (h rfl).elim) fun _ => ?_
      refine ifW_of (fun h => ?_) fun h => ?_
      · have h : ¬ lineL c = l := by simpa using h
        rw [if_neg (fun h' => h h'.2)] at hk
        (first | refine hL.st 0 _ rfl (by kernel_rfl) rfl (Nat.le_of_ble_eq_true rfl) rfl rfl fun S13 hL hn13 => ?_ | refine hL.st 1 _ rfl (by kernel_rfl) rfl (Nat.le_of_ble_eq_true rfl) rfl rfl fun S13 hL hn13 => ?_ | refine hL.st 2 _ rfl (by kernel_rfl) rfl (Nat.le_of_ble_eq_true rfl) rfl rfl fun S13 hL hn13 => ?_ | refine hL.st 3 _ rfl (by kernel_rfl) rfl (Nat.le_of_ble_eq_true rfl) rfl rfl fun S13 hL hn13 => ?_ | refine hL.st 4 _ rfl (by kernel_rfl) rfl (Nat.le_of_ble_eq_true rfl) rfl rfl fun S13 hL hn13 => ?_ | refine hL.st 5 _ rfl (by kernel_rfl) rfl (Nat.le_of_ble_eq_true rfl) rfl rfl fun S13 hL hn13 => ?_ | refine hL.st 6 _ rfl (by kernel_rfl) rfl (Nat.le_of_ble_eq_true rfl) rfl rfl fun S13 hL hn13 => ?_ | refine hL.st 7 _ rfl (by kernel_rfl) rfl (Nat.le_of_ble_eq_true rfl) rfl rfl fun S13 hL hn13 => ?_)
        (first | refine hL.ld 0 rfl (by kernel_rfl) _ rfl ?_ | refine hL.ld 1 rfl (by kernel_rfl) _ rfl ?_ | refine hL.ld 2 rfl (by kernel_rfl) _ rfl ?_ | refine hL.ld 3 rfl (by kernel_rfl) _ rfl ?_ | refine hL.ld 4 rfl (by kernel_rfl) _ rfl ?_ | refine hL.ld 5 rfl (by kernel_rfl) _ rfl ?_ | refine hL.ld 6 rfl (by kernel_rfl) _ rfl ?_ | refine hL.ld 7 rfl (by kernel_rfl) _ rfl ?_ | refine hL.lda 0 rfl (by kernel_rfl) _ rfl ?_ | refine hL.lda 1 rfl (by kernel_rfl) _ rfl ?_ | refine hL.lda 2 rfl (by kernel_rfl) _ rfl ?_ | refine hL.lda 3 rfl (by kernel_rfl) _ rfl ?_ | refine hL.lda 4 rfl (by kernel_rfl) _ rfl ?_ | refine hL.lda 5 rfl (by kernel_rfl) _ rfl ?_ | refine hL.lda 6 rfl (by kernel_rfl) _ rfl ?_ | refine hL.lda 7 rfl (by kernel_rfl) _ rfl ?_)
        exact hk S13 hL.mod
      · have h : lineL c = l := by simpa using h
        rw [if_pos ⟨hm, h⟩] at hk
        refine hL.lda 0 rfl (by kernel_rfl) c rfl ?_
        (first | refine hL.st 0 _ rfl (by kernel_rfl) rfl (Nat.le_of_ble_eq_true rfl) rfl rfl fun S13 hL hn13 => ?_ | refine hL.st 1 _ rfl (by kernel_rfl) rfl (Nat.le_of_ble_eq_true rfl) rfl rfl fun S13 hL hn13 => ?_ | refine hL.st 2 _ rfl (by kernel_rfl) rfl (Nat.le_of_ble_eq_true rfl) rfl rfl fun S13 hL hn13 => ?_ | refine hL.st 3 _ rfl (by kernel_rfl) rfl (Nat.le_of_ble_eq_true rfl) rfl rfl fun S13 hL hn13 => ?_ | refine hL.st 4 _ rfl (by kernel_rfl) rfl (Nat.le_of_ble_eq_true rfl) rfl rfl fun S13 hL hn13 => ?_ | refine hL.st 5 _ rfl (by kernel_rfl) rfl (Nat.le_of_ble_eq_true rfl) rfl rfl fun S13 hL hn13 => ?_ | refine hL.st 6 _ rfl (by kernel_rfl) rfl (Nat.le_of_ble_eq_true rfl) rfl rfl fun S13 hL hn13 => ?_ | refine hL.st 7 _ rfl (by kernel_rfl) rfl (Nat.le_of_ble_eq_true rfl) rfl rfl fun S13 hL hn13 => ?_)
        refine hL.lda 1 rfl (by kernel_rfl) c rfl ?_
        exact hk S13 hL.mod
    · have hlp : lineP c = ([], 230) := if_neg hm
      rw [hlp]
      rw [if_neg (fun h' => hm h'.1)] at hk
      refine ifW_ndec (fun _ => ?_) fun h => by cases h
      (first | refine hL.st 0 _ rfl (by kernel_rfl) rfl (Nat.le_of_ble_eq_true rfl) rfl rfl fun S13 hL hn13 => ?_ | refine hL.st 1 _ rfl (by kernel_rfl) rfl (Nat.le_of_ble_eq_true rfl) rfl rfl fun S13 hL hn13 => ?_ | refine hL.st 2 _ rfl (by kernel_rfl) rfl (Nat.le_of_ble_eq_true rfl) rfl rfl fun S13 hL hn13 => ?_ | refine hL.st 3 _ rfl (by kernel_rfl) rfl (Nat.le_of_ble_eq_true rfl) rfl rfl fun S13 hL hn13 => ?_ | refine hL.st 4 _ rfl (by kernel_rfl) rfl (Nat.le_of_ble_eq_true rfl) rfl rfl fun S13 hL hn13 => ?_ | refine hL.st 5 _ rfl (by kernel_rfl) rfl (Nat.le_of_ble_eq_true rfl) rfl rfl fun S13 hL hn13 => ?_ | refine hL.st 6 _ rfl (by kernel_rfl) rfl (Nat.le_of_ble_eq_true rfl) rfl rfl fun S13 hL hn13 => ?_ | refine hL.st 7 _ rfl (by kernel_rfl) rfl (Nat.le_of_ble_eq_true rfl) rfl rfl fun S13 hL hn13 => ?_)
      (first | refine hL.ld 0 rfl (by kernel_rfl) _ rfl ?_ | refine hL.ld 1 rfl (by kernel_rfl) _ rfl ?_ | refine hL.ld 2 rfl (by kernel_rfl) _ rfl ?_ | refine hL.ld 3 rfl (by kernel_rfl) _ rfl ?_ | refine hL.ld 4 rfl (by kernel_rfl) _ rfl ?_ | refine hL.ld 5 rfl (by kernel_rfl) _ rfl ?_ | refine hL.ld 6 rfl (by kernel_rfl) _ rfl ?_ | refine hL.ld 7 rfl (by kernel_rfl) _ rfl ?_ | refine hL.lda 0 rfl (by kernel_rfl) _ rfl ?_ | refine hL.lda 1 rfl (by kernel_rfl) _ rfl ?_ | refine hL.lda 2 rfl (by kernel_rfl) _ rfl ?_ | refine hL.lda 3 rfl (by kernel_rfl) _ rfl ?_ | refine hL.lda 4 rfl (by kernel_rfl) _ rfl ?_ | refine hL.lda 5 rfl (by kernel_rfl) _ rfl ?_ | refine hL.lda 6 rfl (by kernel_rfl) _ rfl ?_ | refine hL.lda 7 rfl (by kernel_rfl) _ rfl ?_)
      exact hk S13 hL.mod
  have i0 : i64 0 := by simp [i64]
  have ikd : i64 kd := by unfold i64; omega
  have i1 := smallL_i64 (w4.getD 1 [])
  have i2 := smallL_i64 (w4.getD 2 [])
  have i3 := smallL_i64 (w4.getD 3 [])
  have iv := valL_lt (w4.getD 2 []) 0 (by omega)
  repeat (first | refine ptrW_of ?_ | refine sameV_of ?_ | (first | refine hL.ld 0 rfl (by kernel_rfl) _ rfl ?_ | refine hL.ld 1 rfl (by kernel_rfl) _ rfl ?_ | refine hL.ld 2 rfl (by kernel_rfl) _ rfl ?_ | refine hL.ld 3 rfl (by kernel_rfl) _ rfl ?_ | refine hL.ld 4 rfl (by kernel_rfl) _ rfl ?_ | refine hL.ld 5 rfl (by kernel_rfl) _ rfl ?_ | refine hL.ld 6 rfl (by kernel_rfl) _ rfl ?_ | refine hL.ld 7 rfl (by kernel_rfl) _ rfl ?_ | refine hL.lda 0 rfl (by kernel_rfl) _ rfl ?_ | refine hL.lda 1 rfl (by kernel_rfl) _ rfl ?_ | refine hL.lda 2 rfl (by kernel_rfl) _ rfl ?_ | refine hL.lda 3 rfl (by kernel_rfl) _ rfl ?_ | refine hL.lda 4 rfl (by kernel_rfl) _ rfl ?_ | refine hL.lda 5 rfl (by kernel_rfl) _ rfl ?_ | refine hL.lda 6 rfl (by kernel_rfl) _ rfl ?_ | refine hL.lda 7 rfl (by kernel_rfl) _ rfl ?_) | (first | refine hLo.ld 0 rfl (by kernel_rfl) _ rfl ?_ | refine hLo.ld 1 rfl (by kernel_rfl) _ rfl ?_ | refine hLo.ld 2 rfl (by kernel_rfl) _ rfl ?_ | refine hLo.ld 3 rfl (by kernel_rfl) _ rfl ?_ | refine hLo.ld 4 rfl (by kernel_rfl) _ rfl ?_ | refine hLo.ld 5 rfl (by kernel_rfl) _ rfl ?_ | refine hLo.ld 6 rfl (by kernel_rfl) _ rfl ?_ | refine hLo.ld 7 rfl (by kernel_rfl) _ rfl ?_ | refine hLo.lda 0 rfl (by kernel_rfl) _ rfl ?_ | refine hLo.lda 1 rfl (by kernel_rfl) _ rfl ?_ | refine hLo.lda 2 rfl (by kernel_rfl) _ rfl ?_ | refine hLo.lda 3 rfl (by kernel_rfl) _ rfl ?_ | refine hLo.lda 4 rfl (by kernel_rfl) _ rfl ?_ | refine hLo.lda 5 rfl (by kernel_rfl) _ rfl ?_ | refine hLo.lda 6 rfl (by kernel_rfl) _ rfl ?_ | refine hLo.lda 7 rfl (by kernel_rfl) _ rfl ?_))
  refine ifW_dec (fun h1 => ?_) fun h1 => ?_
  · rw [if_pos h1] at hk
    refine SlOf.strI (hL.p.of fun _ => rfl) (j := 1) rfl (by omega) ?_
    refine evC_of (s72 (hwl 1) ⟨_, rfl, ?_⟩)
    refine ptrW_of ?_
    (first | refine hL.st 0 _ rfl (by kernel_rfl) rfl (Nat.le_of_ble_eq_true rfl) rfl rfl fun S9 hL hn9 => ?_ | refine hL.st 1 _ rfl (by kernel_rfl) rfl (Nat.le_of_ble_eq_true rfl) rfl rfl fun S9 hL hn9 => ?_ | refine hL.st 2 _ rfl (by kernel_rfl) rfl (Nat.le_of_ble_eq_true rfl) rfl rfl fun S9 hL hn9 => ?_ | refine hL.st 3 _ rfl (by kernel_rfl) rfl (Nat.le_of_ble_eq_true rfl) rfl rfl fun S9 hL hn9 => ?_ | refine hL.st 4 _ rfl (by kernel_rfl) rfl (Nat.le_of_ble_eq_true rfl) rfl rfl fun S9 hL hn9 => ?_ | refine hL.st 5 _ rfl (by kernel_rfl) rfl (Nat.le_of_ble_eq_true rfl) rfl rfl fun S9 hL hn9 => ?_ | refine hL.st 6 _ rfl (by kernel_rfl) rfl (Nat.le_of_ble_eq_true rfl) rfl rfl fun S9 hL hn9 => ?_ | refine hL.st 7 _ rfl (by kernel_rfl) rfl (Nat.le_of_ble_eq_true rfl) rfl rfl fun S9 hL hn9 => ?_)
    refine SlOf.strI (hL.p.of fun _ => rfl) (j := 2) rfl (by omega) ?_
    refine evC_of (s73 (hwl 2) ⟨_, rfl, ?_⟩)
    refine ptrW_of ?_
    (first | refine hL.st 0 _ rfl (by kernel_rfl) rfl (Nat.le_of_ble_eq_true rfl) rfl rfl fun S10 hL hn10 => ?_ | refine hL.st 1 _ rfl (by kernel_rfl) rfl (Nat.le_of_ble_eq_true rfl) rfl rfl fun S10 hL hn10 => ?_ | refine hL.st 2 _ rfl (by kernel_rfl) rfl (Nat.le_of_ble_eq_true rfl) rfl rfl fun S10 hL hn10 => ?_ | refine hL.st 3 _ rfl (by kernel_rfl) rfl (Nat.le_of_ble_eq_true rfl) rfl rfl fun S10 hL hn10 => ?_ | refine hL.st 4 _ rfl (by kernel_rfl) rfl (Nat.le_of_ble_eq_true rfl) rfl rfl fun S10 hL hn10 => ?_ | refine hL.st 5 _ rfl (by kernel_rfl) rfl (Nat.le_of_ble_eq_true rfl) rfl rfl fun S10 hL hn10 => ?_ | refine hL.st 6 _ rfl (by kernel_rfl) rfl (Nat.le_of_ble_eq_true rfl) rfl rfl fun S10 hL hn10 => ?_ | refine hL.st 7 _ rfl (by kernel_rfl) rfl (Nat.le_of_ble_eq_true rfl) rfl rfl fun S10 hL hn10 => ?_)
    exact fin hk ⟨ikd, i1, i0, i0, i0, by dsimp only; omega⟩ hL
  rw [if_neg h1] at hk
  intro k5 hk5
  have key5 : ∀ t : Bool, (t = true ↔ 2 ≤ kd ∧ kd ≤ 4) → k5 t S8 := by
    intro t ht
    refine hk5 _ _ ?_
    refine ifW_of (fun h => ?_) fun h => ?_
    · rw [if_pos (ht.1 h)] at hk
      refine SlOf.strI (hL.p.of fun _ => rfl) (j := 1) rfl (by omega) ?_
      refine evC_of (s72 (hwl 1) ⟨_, rfl, ?_⟩)
      refine ptrW_of ?_
      (first | refine hL.st 0 _ rfl (by kernel_rfl) rfl (Nat.le_of_ble_eq_true rfl) rfl rfl fun S9 hL hn9 => ?_ | refine hL.st 1 _ rfl (by kernel_rfl) rfl (Nat.le_of_ble_eq_true rfl) rfl rfl fun S9 hL hn9 => ?_ | refine hL.st 2 _ rfl (by kernel_rfl) rfl (Nat.le_of_ble_eq_true rfl) rfl rfl fun S9 hL hn9 => ?_ | refine hL.st 3 _ rfl (by kernel_rfl) rfl (Nat.le_of_ble_eq_true rfl) rfl rfl fun S9 hL hn9 => ?_ | refine hL.st 4 _ rfl (by kernel_rfl) rfl (Nat.le_of_ble_eq_true rfl) rfl rfl fun S9 hL hn9 => ?_ | refine hL.st 5 _ rfl (by kernel_rfl) rfl (Nat.le_of_ble_eq_true rfl) rfl rfl fun S9 hL hn9 => ?_ | refine hL.st 6 _ rfl (by kernel_rfl) rfl (Nat.le_of_ble_eq_true rfl) rfl rfl fun S9 hL hn9 => ?_ | refine hL.st 7 _ rfl (by kernel_rfl) rfl (Nat.le_of_ble_eq_true rfl) rfl rfl fun S9 hL hn9 => ?_)
      exact fin hk ⟨ikd, i0, i1, i0, i0, by simp⟩ hL
    rw [if_neg (not_of ht h)] at hk
    repeat (first | refine ptrW_of ?_ | refine sameV_of ?_ | (first | refine hL.ld 0 rfl (by kernel_rfl) _ rfl ?_ | refine hL.ld 1 rfl (by kernel_rfl) _ rfl ?_ | refine hL.ld 2 rfl (by kernel_rfl) _ rfl ?_ | refine hL.ld 3 rfl (by kernel_rfl) _ rfl ?_ | refine hL.ld 4 rfl (by kernel_rfl) _ rfl ?_ | refine hL.ld 5 rfl (by kernel_rfl) _ rfl ?_ | refine hL.ld 6 rfl (by kernel_rfl) _ rfl ?_ | refine hL.ld 7 rfl (by kernel_rfl) _ rfl ?_ | refine hL.lda 0 rfl (by kernel_rfl) _ rfl ?_ | refine hL.lda 1 rfl (by kernel_rfl) _ rfl ?_ | refine hL.lda 2 rfl (by kernel_rfl) _ rfl ?_ | refine hL.lda 3 rfl (by kernel_rfl) _ rfl ?_ | refine hL.lda 4 rfl (by kernel_rfl) _ rfl ?_ | refine hL.lda 5 rfl (by kernel_rfl) _ rfl ?_ | refine hL.lda 6 rfl (by kernel_rfl) _ rfl ?_ | refine hL.lda 7 rfl (by kernel_rfl) _ rfl ?_) | (first | refine hLo.ld 0 rfl (by kernel_rfl) _ rfl ?_ | refine hLo.ld 1 rfl (by kernel_rfl) _ rfl ?_ | refine hLo.ld 2 rfl (by kernel_rfl) _ rfl ?_ | refine hLo.ld 3 rfl (by kernel_rfl) _ rfl ?_ | refine hLo.ld 4 rfl (by kernel_rfl) _ rfl ?_ | refine hLo.ld 5 rfl (by kernel_rfl) _ rfl ?_ | refine hLo.ld 6 rfl (by kernel_rfl) _ rfl ?_ | refine hLo.ld 7 rfl (by kernel_rfl) _ rfl ?_ | refine hLo.lda 0 rfl (by kernel_rfl) _ rfl ?_ | refine hLo.lda 1 rfl (by kernel_rfl) _ rfl ?_ | refine hLo.lda 2 rfl (by kernel_rfl) _ rfl ?_ | refine hLo.lda 3 rfl (by kernel_rfl) _ rfl ?_ | refine hLo.lda 4 rfl (by kernel_rfl) _ rfl ?_ | refine hLo.lda 5 rfl (by kernel_rfl) _ rfl ?_ | refine hLo.lda 6 rfl (by kernel_rfl) _ rfl ?_ | refine hLo.lda 7 rfl (by kernel_rfl) _ rfl ?_))
    refine ifW_dec (fun h5 => ?_) fun h5 => ?_
    · rw [if_pos h5] at hk
      refine SlOf.strI (hL.p.of fun _ => rfl) (j := 1) rfl (by omega) ?_
      refine evC_of (s72 (hwl 1) ⟨_, rfl, ?_⟩)
      refine ptrW_of ?_
      (first | refine hL.st 0 _ rfl (by kernel_rfl) rfl (Nat.le_of_ble_eq_true rfl) rfl rfl fun S9 hL hn9 => ?_ | refine hL.st 1 _ rfl (by kernel_rfl) rfl (Nat.le_of_ble_eq_true rfl) rfl rfl fun S9 hL hn9 => ?_ | refine hL.st 2 _ rfl (by kernel_rfl) rfl (Nat.le_of_ble_eq_true rfl) rfl rfl fun S9 hL hn9 => ?_ | refine hL.st 3 _ rfl (by kernel_rfl) rfl (Nat.le_of_ble_eq_true rfl) rfl rfl fun S9 hL hn9 => ?_ | refine hL.st 4 _ rfl (by kernel_rfl) rfl (Nat.le_of_ble_eq_true rfl) rfl rfl fun S9 hL hn9 => ?_ | refine hL.st 5 _ rfl (by kernel_rfl) rfl (Nat.le_of_ble_eq_true rfl) rfl rfl fun S9 hL hn9 => ?_ | refine hL.st 6 _ rfl (by kernel_rfl) rfl (Nat.le_of_ble_eq_true rfl) rfl rfl fun S9 hL hn9 => ?_ | refine hL.st 7 _ rfl (by kernel_rfl) rfl (Nat.le_of_ble_eq_true rfl) rfl rfl fun S9 hL hn9 => ?_)
      refine SlOf.strI (hL.p.of fun _ => rfl) (j := 2) rfl (by omega) ?_
      refine evC_of (s72 (hwl 2) ⟨_, rfl, ?_⟩)
      refine ptrW_of ?_
      (first | refine hL.st 0 _ rfl (by kernel_rfl) rfl (Nat.le_of_ble_eq_true rfl) rfl rfl fun S10 hL hn10 => ?_ | refine hL.st 1 _ rfl (by kernel_rfl) rfl (Nat.le_of_ble_eq_true rfl) rfl rfl fun S10 hL hn10 => ?_ | refine hL.st 2 _ rfl (by kernel_rfl) rfl (Nat.le_of_ble_eq_true rfl) rfl rfl fun S10 hL hn10 => ?_ | refine hL.st 3 _ rfl (by kernel_rfl) rfl (Nat.le_of_ble_eq_true rfl) rfl rfl fun S10 hL hn10 => ?_ | refine hL.st 4 _ rfl (by kernel_rfl) rfl (Nat.le_of_ble_eq_true rfl) rfl rfl fun S10 hL hn10 => ?_ | refine hL.st 5 _ rfl (by kernel_rfl) rfl (Nat.le_of_ble_eq_true rfl) rfl rfl fun S10 hL hn10 => ?_ | refine hL.st 6 _ rfl (by kernel_rfl) rfl (Nat.le_of_ble_eq_true rfl) rfl rfl fun S10 hL hn10 => ?_ | refine hL.st 7 _ rfl (by kernel_rfl) rfl (Nat.le_of_ble_eq_true rfl) rfl rfl fun S10 hL hn10 => ?_)
      refine SlOf.strI (hL.p.of fun _ => rfl) (j := 3) rfl (by omega) ?_
      refine evC_of (s72 (hwl 3) ⟨_, rfl, ?_⟩)
      refine ptrW_of ?_
      (first | refine hL.st 0 _ rfl (by kernel_rfl) rfl (Nat.le_of_ble_eq_true rfl) rfl rfl fun S11 hL hn11 => ?_ | refine hL.st 1 _ rfl (by kernel_rfl) rfl (Nat.le_of_ble_eq_true rfl) rfl rfl fun S11 hL hn11 => ?_ | refine hL.st 2 _ rfl (by kernel_rfl) rfl (Nat.le_of_ble_eq_true rfl) rfl rfl fun S11 hL hn11 => ?_ | refine hL.st 3 _ rfl (by kernel_rfl) rfl (Nat.le_of_ble_eq_true rfl) rfl rfl fun S11 hL hn11 => ?_ | refine hL.st 4 _ rfl (by kernel_rfl) rfl (Nat.le_of_ble_eq_true rfl) rfl rfl fun S11 hL hn11 => ?_ | refine hL.st 5 _ rfl (by kernel_rfl) rfl (Nat.le_of_ble_eq_true rfl) rfl rfl fun S11 hL hn11 => ?_ | refine hL.st 6 _ rfl (by kernel_rfl) rfl (Nat.le_of_ble_eq_true rfl) rfl rfl fun S11 hL hn11 => ?_ | refine hL.st 7 _ rfl (by kernel_rfl) rfl (Nat.le_of_ble_eq_true rfl) rfl rfl fun S11 hL hn11 => ?_)
      exact fin hk ⟨ikd, i0, i1, i2, i3, by simp⟩ hL
    rw [if_neg h5] at hk
    repeat (first | refine ptrW_of ?_ | refine sameV_of ?_ | (first | refine hL.ld 0 rfl (by kernel_rfl) _ rfl ?_ | refine hL.ld 1 rfl (by kernel_rfl) _ rfl ?_ | refine hL.ld 2 rfl (by kernel_rfl) _ rfl ?_ | refine hL.ld 3 rfl (by kernel_rfl) _ rfl ?_ | refine hL.ld 4 rfl (by kernel_rfl) _ rfl ?_ | refine hL.ld 5 rfl (by kernel_rfl) _ rfl ?_ | refine hL.ld 6 rfl (by kernel_rfl) _ rfl ?_ | refine hL.ld 7 rfl (by kernel_rfl) _ rfl ?_ | refine hL.lda 0 rfl (by kernel_rfl) _ rfl ?_ | refine hL.lda 1 rfl (by kernel_rfl) _ rfl ?_ | refine hL.lda 2 rfl (by kernel_rfl) _ rfl ?_ | refine hL.lda 3 rfl (by kernel_rfl) _ rfl ?_ | refine hL.lda 4 rfl (by kernel_rfl) _ rfl ?_ | refine hL.lda 5 rfl (by kernel_rfl) _ rfl ?_ | refine hL.lda 6 rfl (by kernel_rfl) _ rfl ?_ | refine hL.lda 7 rfl (by kernel_rfl) _ rfl ?_) | (first | refine hLo.ld 0 rfl (by kernel_rfl) _ rfl ?_ | refine hLo.ld 1 rfl (by kernel_rfl) _ rfl ?_ | refine hLo.ld 2 rfl (by kernel_rfl) _ rfl ?_ | refine hLo.ld 3 rfl (by kernel_rfl) _ rfl ?_ | refine hLo.ld 4 rfl (by kernel_rfl) _ rfl ?_ | refine hLo.ld 5 rfl (by kernel_rfl) _ rfl ?_ | refine hLo.ld 6 rfl (by kernel_rfl) _ rfl ?_ | refine hLo.ld 7 rfl (by kernel_rfl) _ rfl ?_ | refine hLo.lda 0 rfl (by kernel_rfl) _ rfl ?_ | refine hLo.lda 1 rfl (by kernel_rfl) _ rfl ?_ | refine hLo.lda 2 rfl (by kernel_rfl) _ rfl ?_ | refine hLo.lda 3 rfl (by kernel_rfl) _ rfl ?_ | refine hLo.lda 4 rfl (by kernel_rfl) _ rfl ?_ | refine hLo.lda 5 rfl (by kernel_rfl) _ rfl ?_ | refine hLo.lda 6 rfl (by kernel_rfl) _ rfl ?_ | refine hLo.lda 7 rfl (by kernel_rfl) _ rfl ?_))
    refine ifW_dec (fun h6 => ?_) fun h6 => ?_
    · rw [if_pos h6] at hk
      refine SlOf.strI (hL.p.of fun _ => rfl) (j := 1) rfl (by omega) ?_
      refine evC_of (s72 (hwl 1) ⟨_, rfl, ?_⟩)
      refine ptrW_of ?_
      (first | refine hL.st 0 _ rfl (by kernel_rfl) rfl (Nat.le_of_ble_eq_true rfl) rfl rfl fun S9 hL hn9 => ?_ | refine hL.st 1 _ rfl (by kernel_rfl) rfl (Nat.le_of_ble_eq_true rfl) rfl rfl fun S9 hL hn9 => ?_ | refine hL.st 2 _ rfl (by kernel_rfl) rfl (Nat.le_of_ble_eq_true rfl) rfl rfl fun S9 hL hn9 => ?_ | refine hL.st 3 _ rfl (by kernel_rfl) rfl (Nat.le_of_ble_eq_true rfl) rfl rfl fun S9 hL hn9 => ?_ | refine hL.st 4 _ rfl (by kernel_rfl) rfl (Nat.le_of_ble_eq_true rfl) rfl rfl fun S9 hL hn9 => ?_ | refine hL.st 5 _ rfl (by kernel_rfl) rfl (Nat.le_of_ble_eq_true rfl) rfl rfl fun S9 hL hn9 => ?_ | refine hL.st 6 _ rfl (by kernel_rfl) rfl (Nat.le_of_ble_eq_true rfl) rfl rfl fun S9 hL hn9 => ?_ | refine hL.st 7 _ rfl (by kernel_rfl) rfl (Nat.le_of_ble_eq_true rfl) rfl rfl fun S9 hL hn9 => ?_)
      intro k4 hk4
      have key4 : ∀ {S' : St} {n : Int}, i64 n → (∀ S', Ext S S' → k (.tuple #[sv G36 (readP (kd, smallL (w4.getD 1 []), if kd = 9 ∧ w4.getD 2 [] = allT then -1 else n, 0, 0, 0) l).1, .int .i64 (readP (kd, smallL (w4.getD 1 []), if kd = 9 ∧ w4.getD 2 [] = allT then -1 else n, 0, 0, 0) l).2]) S') → Cx noB S S' (boxesQ b2 b1 (kd, smallL (w4.getD 1 []), n, 0, 0, 0)) (slO s2) (fun S => Ow strC 1 S s2 w4) → k4 PUnit.unit S' := by
        intro S' n hn hk hL
        refine hk4 _ _ ?_
        repeat (first | refine ptrW_of ?_ | refine sameV_of ?_ | (first | refine hL.ld 0 rfl (by kernel_rfl) _ rfl ?_ | refine hL.ld 1 rfl (by kernel_rfl) _ rfl ?_ | refine hL.ld 2 rfl (by kernel_rfl) _ rfl ?_ | refine hL.ld 3 rfl (by kernel_rfl) _ rfl ?_ | refine hL.ld 4 rfl (by kernel_rfl) _ rfl ?_ | refine hL.ld 5 rfl (by kernel_rfl) _ rfl ?_ | refine hL.ld 6 rfl (by kernel_rfl) _ rfl ?_ | refine hL.ld 7 rfl (by kernel_rfl) _ rfl ?_ | refine hL.lda 0 rfl (by kernel_rfl) _ rfl ?_ | refine hL.lda 1 rfl (by kernel_rfl) _ rfl ?_ | refine hL.lda 2 rfl (by kernel_rfl) _ rfl ?_ | refine hL.lda 3 rfl (by kernel_rfl) _ rfl ?_ | refine hL.lda 4 rfl (by kernel_rfl) _ rfl ?_ | refine hL.lda 5 rfl (by kernel_rfl) _ rfl ?_ | refine hL.lda 6 rfl (by kernel_rfl) _ rfl ?_ | refine hL.lda 7 rfl (by kernel_rfl) _ rfl ?_) | (first | refine hLo.ld 0 rfl (by kernel_rfl) _ rfl ?_ | refine hLo.ld 1 rfl (by kernel_rfl) _ rfl ?_ | refine hLo.ld 2 rfl (by kernel_rfl) _ rfl ?_ | refine hLo.ld 3 rfl (by kernel_rfl) _ rfl ?_ | refine hLo.ld 4 rfl (by kernel_rfl) _ rfl ?_ | refine hLo.ld 5 rfl (by kernel_rfl) _ rfl ?_ | refine hLo.ld 6 rfl (by kernel_rfl) _ rfl ?_ | refine hLo.ld 7 rfl (by kernel_rfl) _ rfl ?_ | refine hLo.lda 0 rfl (by kernel_rfl) _ rfl ?_ | refine hLo.lda 1 rfl (by kernel_rfl) _ rfl ?_ | refine hLo.lda 2 rfl (by kernel_rfl) _ rfl ?_ | refine hLo.lda 3 rfl (by kernel_rfl) _ rfl ?_ | refine hLo.lda 4 rfl (by kernel_rfl) _ rfl ?_ | refine hLo.lda 5 rfl (by kernel_rfl) _ rfl ?_ | refine hLo.lda 6 rfl (by kernel_rfl) _ rfl ?_ | refine hLo.lda 7 rfl (by kernel_rfl) _ rfl ?_))
        refine ifW_dec (fun h9 => ?_) fun h9 => ?_
        · refine SlOf.strI (hL.p.of fun _ => rfl) (j := 2) rfl (by omega) ?_
          refine ifW_of (fun h => ?_) fun h => ?_
          · have h : w4.getD 2 [] = allT := by simpa using h
            rw [if_pos ⟨h9, h⟩] at hk
            refine ptrW_of ?_
            (first | refine hL.st 0 _ rfl (by kernel_rfl) rfl (Nat.le_of_ble_eq_true rfl) rfl rfl fun S10 hL hn10 => ?_ | refine hL.st 1 _ rfl (by kernel_rfl) rfl (Nat.le_of_ble_eq_true rfl) rfl rfl fun S10 hL hn10 => ?_ | refine hL.st 2 _ rfl (by kernel_rfl) rfl (Nat.le_of_ble_eq_true rfl) rfl rfl fun S10 hL hn10 => ?_ | refine hL.st 3 _ rfl (by kernel_rfl) rfl (Nat.le_of_ble_eq_true rfl) rfl rfl fun S10 hL hn10 => ?_ | refine hL.st 4 _ rfl (by kernel_rfl) rfl (Nat.le_of_ble_eq_true rfl) rfl rfl fun S10 hL hn10 => ?_ | refine hL.st 5 _ rfl (by kernel_rfl) rfl (Nat.le_of_ble_eq_true rfl) rfl rfl fun S10 hL hn10 => ?_ | refine hL.st 6 _ rfl (by kernel_rfl) rfl (Nat.le_of_ble_eq_true rfl) rfl rfl fun S10 hL hn10 => ?_ | refine hL.st 7 _ rfl (by kernel_rfl) rfl (Nat.le_of_ble_eq_true rfl) rfl rfl fun S10 hL hn10 => ?_)
            exact fin hk ⟨ikd, i1, by simp [i64], i0, i0, by simp⟩ hL
          · have h : ¬ w4.getD 2 [] = allT := by simpa using h
            rw [if_neg (fun h' => h h'.2)] at hk
            exact fin hk ⟨ikd, i1, hn, i0, i0, by simp⟩ hL
        · rw [if_neg (fun h' => h9 h'.1)] at hk
          exact fin hk ⟨ikd, i1, hn, i0, i0, by simp⟩ hL
      repeat (first | refine ptrW_of ?_ | refine sameV_of ?_ | (first | refine hL.ld 0 rfl (by kernel_rfl) _ rfl ?_ | refine hL.ld 1 rfl (by kernel_rfl) _ rfl ?_ | refine hL.ld 2 rfl (by kernel_rfl) _ rfl ?_ | refine hL.ld 3 rfl (by kernel_rfl) _ rfl ?_ | refine hL.ld 4 rfl (by kernel_rfl) _ rfl ?_ | refine hL.ld 5 rfl (by kernel_rfl) _ rfl ?_ | refine hL.ld 6 rfl (by kernel_rfl) _ rfl ?_ | refine hL.ld 7 rfl (by kernel_rfl) _ rfl ?_ | refine hL.lda 0 rfl (by kernel_rfl) _ rfl ?_ | refine hL.lda 1 rfl (by kernel_rfl) _ rfl ?_ | refine hL.lda 2 rfl (by kernel_rfl) _ rfl ?_ | refine hL.lda 3 rfl (by kernel_rfl) _ rfl ?_ | refine hL.lda 4 rfl (by kernel_rfl) _ rfl ?_ | refine hL.lda 5 rfl (by kernel_rfl) _ rfl ?_ | refine hL.lda 6 rfl (by kernel_rfl) _ rfl ?_ | refine hL.lda 7 rfl (by kernel_rfl) _ rfl ?_) | (first | refine hLo.ld 0 rfl (by kernel_rfl) _ rfl ?_ | refine hLo.ld 1 rfl (by kernel_rfl) _ rfl ?_ | refine hLo.ld 2 rfl (by kernel_rfl) _ rfl ?_ | refine hLo.ld 3 rfl (by kernel_rfl) _ rfl ?_ | refine hLo.ld 4 rfl (by kernel_rfl) _ rfl ?_ | refine hLo.ld 5 rfl (by kernel_rfl) _ rfl ?_ | refine hLo.ld 6 rfl (by kernel_rfl) _ rfl ?_ | refine hLo.ld 7 rfl (by kernel_rfl) _ rfl ?_ | refine hLo.lda 0 rfl (by kernel_rfl) _ rfl ?_ | refine hLo.lda 1 rfl (by kernel_rfl) _ rfl ?_ | refine hLo.lda 2 rfl (by kernel_rfl) _ rfl ?_ | refine hLo.lda 3 rfl (by kernel_rfl) _ rfl ?_ | refine hLo.lda 4 rfl (by kernel_rfl) _ rfl ?_ | refine hLo.lda 5 rfl (by kernel_rfl) _ rfl ?_ | refine hLo.lda 6 rfl (by kernel_rfl) _ rfl ?_ | refine hLo.lda 7 rfl (by kernel_rfl) _ rfl ?_))
      refine ifW_dec (fun h7 => ?_) fun h7 => ?_
      · rw [if_pos h7] at hk
        refine SlOf.strI (hL.p.of fun _ => rfl) (j := 2) rfl (by omega) ?_
        refine evC_of (s72 (hwl 2) ⟨_, rfl, ?_⟩)
        refine ptrW_of ?_
        (first | refine hL.st 0 _ rfl (by kernel_rfl) rfl (Nat.le_of_ble_eq_true rfl) rfl rfl fun S10 hL hn10 => ?_ | refine hL.st 1 _ rfl (by kernel_rfl) rfl (Nat.le_of_ble_eq_true rfl) rfl rfl fun S10 hL hn10 => ?_ | refine hL.st 2 _ rfl (by kernel_rfl) rfl (Nat.le_of_ble_eq_true rfl) rfl rfl fun S10 hL hn10 => ?_ | refine hL.st 3 _ rfl (by kernel_rfl) rfl (Nat.le_of_ble_eq_true rfl) rfl rfl fun S10 hL hn10 => ?_ | refine hL.st 4 _ rfl (by kernel_rfl) rfl (Nat.le_of_ble_eq_true rfl) rfl rfl fun S10 hL hn10 => ?_ | refine hL.st 5 _ rfl (by kernel_rfl) rfl (Nat.le_of_ble_eq_true rfl) rfl rfl fun S10 hL hn10 => ?_ | refine hL.st 6 _ rfl (by kernel_rfl) rfl (Nat.le_of_ble_eq_true rfl) rfl rfl fun S10 hL hn10 => ?_ | refine hL.st 7 _ rfl (by kernel_rfl) rfl (Nat.le_of_ble_eq_true rfl) rfl rfl fun S10 hL hn10 => ?_)
        exact key4 i2 hk hL
      · rw [if_neg h7] at hk
        exact key4 i0 hk hL
    · rw [if_neg h6] at hk
      exact fin hk ⟨ikd, i0, i0, i0, i0, by simp⟩ hL
  repeat (first | refine ptrW_of ?_ | refine sameV_of ?_ | (first | refine hL.ld 0 rfl (by kernel_rfl) _ rfl ?_ | refine hL.ld 1 rfl (by kernel_rfl) _ rfl ?_ | refine hL.ld 2 rfl (by kernel_rfl) _ rfl ?_ | refine hL.ld 3 rfl (by kernel_rfl) _ rfl ?_ | refine hL.ld 4 rfl (by kernel_rfl) _ rfl ?_ | refine hL.ld 5 rfl (by kernel_rfl) _ rfl ?_ | refine hL.ld 6 rfl (by kernel_rfl) _ rfl ?_ | refine hL.ld 7 rfl (by kernel_rfl) _ rfl ?_ | refine hL.lda 0 rfl (by kernel_rfl) _ rfl ?_ | refine hL.lda 1 rfl (by kernel_rfl) _ rfl ?_ | refine hL.lda 2 rfl (by kernel_rfl) _ rfl ?_ | refine hL.lda 3 rfl (by kernel_rfl) _ rfl ?_ | refine hL.lda 4 rfl (by kernel_rfl) _ rfl ?_ | refine hL.lda 5 rfl (by kernel_rfl) _ rfl ?_ | refine hL.lda 6 rfl (by kernel_rfl) _ rfl ?_ | refine hL.lda 7 rfl (by kernel_rfl) _ rfl ?_) | (first | refine hLo.ld 0 rfl (by kernel_rfl) _ rfl ?_ | refine hLo.ld 1 rfl (by kernel_rfl) _ rfl ?_ | refine hLo.ld 2 rfl (by kernel_rfl) _ rfl ?_ | refine hLo.ld 3 rfl (by kernel_rfl) _ rfl ?_ | refine hLo.ld 4 rfl (by kernel_rfl) _ rfl ?_ | refine hLo.ld 5 rfl (by kernel_rfl) _ rfl ?_ | refine hLo.ld 6 rfl (by kernel_rfl) _ rfl ?_ | refine hLo.ld 7 rfl (by kernel_rfl) _ rfl ?_ | refine hLo.lda 0 rfl (by kernel_rfl) _ rfl ?_ | refine hLo.lda 1 rfl (by kernel_rfl) _ rfl ?_ | refine hLo.lda 2 rfl (by kernel_rfl) _ rfl ?_ | refine hLo.lda 3 rfl (by kernel_rfl) _ rfl ?_ | refine hLo.lda 4 rfl (by kernel_rfl) _ rfl ?_ | refine hLo.lda 5 rfl (by kernel_rfl) _ rfl ?_ | refine hLo.lda 6 rfl (by kernel_rfl) _ rfl ?_ | refine hLo.lda 7 rfl (by kernel_rfl) _ rfl ?_))
  refine ifW_dec (fun h2 => ?_) fun h2 => key5 _ ⟨fun h => (by cases h), fun h => (h2 h.1).elim⟩
  repeat (first | refine ptrW_of ?_ | refine sameV_of ?_ | (first | refine hL.ld 0 rfl (by kernel_rfl) _ rfl ?_ | refine hL.ld 1 rfl (by kernel_rfl) _ rfl ?_ | refine hL.ld 2 rfl (by kernel_rfl) _ rfl ?_ | refine hL.ld 3 rfl (by kernel_rfl) _ rfl ?_ | refine hL.ld 4 rfl (by kernel_rfl) _ rfl ?_ | refine hL.ld 5 rfl (by kernel_rfl) _ rfl ?_ | refine hL.ld 6 rfl (by kernel_rfl) _ rfl ?_ | refine hL.ld 7 rfl (by kernel_rfl) _ rfl ?_ | refine hL.lda 0 rfl (by kernel_rfl) _ rfl ?_ | refine hL.lda 1 rfl (by kernel_rfl) _ rfl ?_ | refine hL.lda 2 rfl (by kernel_rfl) _ rfl ?_ | refine hL.lda 3 rfl (by kernel_rfl) _ rfl ?_ | refine hL.lda 4 rfl (by kernel_rfl) _ rfl ?_ | refine hL.lda 5 rfl (by kernel_rfl) _ rfl ?_ | refine hL.lda 6 rfl (by kernel_rfl) _ rfl ?_ | refine hL.lda 7 rfl (by kernel_rfl) _ rfl ?_) | (first | refine hLo.ld 0 rfl (by kernel_rfl) _ rfl ?_ | refine hLo.ld 1 rfl (by kernel_rfl) _ rfl ?_ | refine hLo.ld 2 rfl (by kernel_rfl) _ rfl ?_ | refine hLo.ld 3 rfl (by kernel_rfl) _ rfl ?_ | refine hLo.ld 4 rfl (by kernel_rfl) _ rfl ?_ | refine hLo.ld 5 rfl (by kernel_rfl) _ rfl ?_ | refine hLo.ld 6 rfl (by kernel_rfl) _ rfl ?_ | refine hLo.ld 7 rfl (by kernel_rfl) _ rfl ?_ | refine hLo.lda 0 rfl (by kernel_rfl) _ rfl ?_ | refine hLo.lda 1 rfl (by kernel_rfl) _ rfl ?_ | refine hLo.lda 2 rfl (by kernel_rfl) _ rfl ?_ | refine hLo.lda 3 rfl (by kernel_rfl) _ rfl ?_ | refine hLo.lda 4 rfl (by kernel_rfl) _ rfl ?_ | refine hLo.lda 5 rfl (by kernel_rfl) _ rfl ?_ | refine hLo.lda 6 rfl (by kernel_rfl) _ rfl ?_ | refine hLo.lda 7 rfl (by kernel_rfl) _ rfl ?_))
  exact key5 _ (by rw [leI_eq, decide_eq_true_iff]; omega)
end
end Go.Proofs.YtfopfocedlbihaaGreatDoor

/- Pages: what is taken of the orders. -/
namespace Go.Proofs.YtfopfocedlbihaaGreatDoor
open Go Go.Proofs.YtfopfocedlbihaaGreatDoor.D
set_option linter.unusedVariables false
set_option linter.unusedSimpArgs false
noncomputable section

theorem take_snoc {α : Type} {l : List α} {n : Nat} (h : n < l.length) : l.take (n + 1) = l.take n ++ [l[n]] := by simp
/-- What is read of a line. -/
def rdL (s : List UInt8) : Ord × Int := readP (candB s) s
theorem rdL_w {s : List UInt8} : OrdW (rdL s).1 := by
  unfold rdL
  rw [← read_same]
  unfold readP
  split
  · exact candA_w s
  · constructor <;> simp [i64, zeroO]
theorem rd_line {x : Ord} (h : mayP x) (hw : OrdW x) : rdL (lineL x) = (x, 0) := by
  unfold rdL
  rw [← read_same, read_line h hw]
theorem grX_frm {α : Type} {f : α → List Value} {sz : Nat} {s : Sl} {l : List α} : Frm (slO s) (fun S => GrX f sz 0 S s l) := by
  intro F S S' m hF h
  rcases h with h | ⟨b, rest, h1, h2, h3, h4⟩
  · exact .inl h
  · exact .inr ⟨b, rest, h1, h2, m.at h3 (hF b ⟨0, by rw [h2]⟩), h4⟩
theorem grX_lt {α : Type} {f : α → List Value} {sz : Nat} {S : St} {s : Sl} {l : List α} (h : GrX f sz 0 S s l) {c : Nat} (hc : slO s c) : c < S.next := by
  obtain ⟨o, hc⟩ := hc
  rcases h with ⟨_, rfl⟩ | ⟨b, rest, h1, rfl, h3, h4⟩
  · cases hc
  · cases hc; exact h3.lt
end
end Go.Proofs.YtfopfocedlbihaaGreatDoor

/- Orders: a script's text. -/
namespace Go.Proofs.YtfopfocedlbihaaGreatDoor
open Go Go.Proofs.YtfopfocedlbihaaGreatDoor.D
set_option linter.unusedVariables false
set_option linter.unusedSimpArgs false
noncomputable section

/-! ### A builder -/
theorem inf5 : E0.inf 5 = some DEnv.i5 := by kernel_rfl
theorem siz5 : DEnv.i5.size = 1 := by kernel_rfl
theorem byt5 : DEnv.i5.bytes = 1 := by kernel_rfl
theorem zer5 : DEnv.i5.zero = some (.int .u8 0) := by kernel_rfl
theorem tag5 : tagA E0 5 1 = 5 + TB := by kernel_rfl
abbrev mB : Nat := 54 + 2 * TB
/-- A builder's box, and its bytes' block; l: what was written. -/
def Bl (S : St) (b : Nat) (g : Option Nat) (l : List UInt8) : Prop :=
  match g with
  | none => l = [] ∧ At S b (.cells [.pointer none, .slice none 0 0] (some mB) false none)
  | some c => c ≠ b ∧ l ≠ [] ∧ At S b (.cells [.pointer (some ⟨b, 0, none⟩), .slice (some ⟨c, 0, none⟩) l.length inex] (some mB) false none) ∧ At S c (.cells (l.map enc8) (some (5 + TB)) false none)
def blO (b : Nat) (g : Option Nat) (c : Nat) : Prop := c = b ∨ g = some c
theorem Bl.frm {b : Nat} {g : Option Nat} {l : List UInt8} : Frm (blO b g) (fun S => Bl S b g l) := by
  intro F S S' m hF h
  cases g with
  | none => exact ⟨h.1, m.at h.2 (hF b (.inl rfl))⟩
  | some c => exact ⟨h.1, h.2.1, m.at h.2.2.1 (hF b (.inl rfl)), m.at h.2.2.2 (hF c (.inr rfl))⟩
theorem Bl.lt {S : St} {b : Nat} {g : Option Nat} {l : List UInt8} (h : Bl S b g l) {c : Nat} (hc : blO b g c) : c < S.next := by
  cases g with
  | none =>
    rcases hc with rfl | hc
    · exact h.2.lt
    · cases hc
  | some d =>
    rcases hc with rfl | hc
    · exact h.2.2.1.lt
    · cases hc; exact h.2.2.2.lt
theorem bytesOfS_str (v : List UInt8) : bytesOfS (bar v) = v.map enc8 := rfl
theorem all_enc8 (v : List UInt8) : (v.map enc8).all St.one = true := by
  rw [List.all_eq_true]
  intro x hx
  obtain ⟨c, _, rfl⟩ := List.mem_map.1 hx
  rfl
theorem app_bytes0 {S : St} {v : List UInt8} (hv : v ≠ []) (hl : v.length ≤ 1000000000) : appendD E0 S 52 9 (.slice none 0 0) (strV v) = some (.slice (some ⟨S.next, 0, none⟩) v.length inex, (S.alloc (.cells (v.map enc8) (some (5 + TB)) false none)).2) := by
  have hv0 : ¬ v.length = 0 := fun hh => hv (List.length_eq_zero_iff.1 hh)
  have g0 : Nat.beq v.length 0 = false := Bool.eq_false_iff.2 fun hh => hv0 (Nat.eq_of_beq_eq_true hh)
  have g1 : Nat.beq (cellsOf (.int .u8 0)).length 1 = true := rfl
  have g2 : Nat.blt 0 1 = true := rfl
  have g3 : Nat.beq (v.map enc8).length (v.length * 1) = true := by rw [List.length_map, Nat.mul_one, Nat.beq_refl]
  have g4 : Nat.ble ((0 + v.length) * 1) 17592186044416 = true := Nat.ble_eq_true_of_le (by omega)
  have g5 : Nat.ble (0 + v.length) 17592186044416 = true := Nat.ble_eq_true_of_le (by omega)
  have g6 : Nat.blt 1 TB = true := by decide
  have g7 : Nat.blt 5 TB = true := by decide
  have hn : lenOfD (strV v) = some v.length := rfl
  have hx : firstD S 1 v.length (strV v) = some (v.map enc8) := by
    show some ((v.map enc8).take v.length) = _
    rw [List.take_of_length_le (by simp)]
  have ha : apK .string = true := rfl
  simp only [appendD, und52, und9, inf5, siz5, byt5, zer5, tag5, ha, cond_true, Option.bind_some, hn, hx, g0, g1, g2, g3, g4, g5, g6, g7, Bool.and_true, cond_false]
theorem app_bytes1 {S : St} {v l : List UInt8} {c : Nat} (hat : At S c (.cells (l.map enc8) (some (5 + TB)) false none)) (hv : v ≠ []) (hl : l.length + v.length ≤ 1000000000) :
    appendD E0 S 52 9 (.slice (some ⟨c, 0, none⟩) l.length inex) (strV v) = some (.slice (some ⟨S.next, 0, none⟩) (l.length + v.length) inex, ((S.upd c .dead).alloc (.cells ((l ++ v).map enc8) (some (5 + TB)) false none)).2) := by
  have hv0 : ¬ v.length = 0 := fun hh => hv (List.length_eq_zero_iff.1 hh)
  have g0 : Nat.beq v.length 0 = false := Bool.eq_false_iff.2 fun hh => hv0 (Nat.eq_of_beq_eq_true hh)
  have g1 : Nat.beq (cellsOf (.int .u8 0)).length 1 = true := rfl
  have g2 : Nat.blt 0 1 = true := rfl
  have g3 : Nat.beq (v.map enc8).length (v.length * 1) = true := by rw [List.length_map, Nat.mul_one, Nat.beq_refl]
  have g4 : Nat.ble ((l.length + v.length) * 1) 17592186044416 = true := Nat.ble_eq_true_of_le (by omega)
  have g5 : Nat.ble (l.length + v.length) 17592186044416 = true := Nat.ble_eq_true_of_le (by omega)
  have g6 : Nat.blt 1 TB = true := by decide
  have g7 : Nat.blt 5 TB = true := by decide
  have hn : lenOfD (strV v) = some v.length := rfl
  have hx : firstD S 1 v.length (strV v) = some (v.map enc8) := by
    show some ((v.map enc8).take v.length) = _
    rw [List.take_of_length_le (by simp)]
  have ha : apK .string = true := rfl
  have g8 : (Nat.beq (5 + TB) 1 || Nat.beq (5 + TB) (5 + TB) && Nat.beq 1 1) = true := by decide
  have g9 : Nat.ble (0 + (l.length + v.length) * 1) (l.map enc8).length = false := Bool.eq_false_iff.2 fun hh => by have := Nat.le_of_ble_eq_true hh; simp at this; omega
  have g10 : Nat.ble (0 + l.length * 1) (l.map enc8).length = true := Nat.ble_eq_true_of_le (by simp)
  have g11 : ((l.map enc8).drop 0).take (l.length * 1) = l.map enc8 := by rw [List.drop_zero, List.take_of_length_le (by simp)]
  have g12 : Nat.beq inex inex = true := Nat.beq_refl _
  have g13 : Nat.beq 0 0 = true := rfl
  have g14 : l.map enc8 ++ v.map enc8 = (l ++ v).map enc8 := by rw [List.map_append]
  simp only [appendD, und52, und9, inf5, siz5, byt5, zer5, ha, cond_true, Option.bind_some, hn, hx, g0, g1, g2, g3, g4, g5, g6, g7, Bool.and_true, cond_false, g12, hat.get, g8, g9, g10, g11, g13, Bool.not_false, all_enc8, St.fzOk, Option.map_none, g14]
theorem s18 {S : St} {b : Nat} {g : Option Nat} {l v : List UInt8} {k : Value → St → Prop} (h : Bl S b g l) (hv : v ≠ []) (hl : l.length + v.length ≤ 1000000000)
    (hk : ∀ g' S', Bl S' b g' (l ++ v) → Mod (blO b g) S S' → (∀ c, blO b g' c → blO b g c ∨ S.next ≤ c) → k (.tuple #[.int .i64 (v.length : Int), .nilIface]) S') : WC E0 18 [.pointer (some ⟨b, 0, none⟩), strV v] S k := by
  refine w18 _ _ ?_
  unfold c18
  cases g with
  | none =>
    obtain ⟨rfl, hb⟩ := h
    have hc : ccP 54 [.pointer (some ⟨b, 0, none⟩)] S = some (.tuple #[], S.upd b (.cells [.pointer (some ⟨b, 0, none⟩), .slice none 0 0] (some mB) false none)) := by
      have e : Nat.beq mB (54 + 2 * TB) = true := Nat.beq_refl _
      simp only [ccP, hb.get, e, cond_true]
    refine evC_of (WC_prim (E := E0) (f := 35) rfl hc ⟨PUnit.unit, rfl, ?_⟩)
    have hb1 := upd_at (o' := .cells [.pointer (some ⟨b, 0, none⟩), .slice none 0 0] (some mB) false none) hb
    have m1 : Mod (fun c => c = b) S (S.upd b (.cells [.pointer (some ⟨b, 0, none⟩), .slice none 0 0] (some mB) false none)) := upd_mod
    have n1 : (S.upd b (.cells [.pointer (some ⟨b, 0, none⟩), .slice none 0 0] (some mB) false none)).next = S.next := rfl
    generalize S.upd b (.cells [.pointer (some ⟨b, 0, none⟩), .slice none 0 0] (some mB) false none) = S1 at hb1 m1 n1 ⊢
    refine ptrW_of (ptrW_of ?_)
    refine evV_of (ty := tS) ⟨none, 0, 0⟩ (load_one hb1 (by kernel_rfl)) ?_
    refine ⟨⟨some ⟨S1.next, 0, none⟩, v.length, inex⟩, _, app_bytes0 hv (by simpa using hl), ?_⟩
    refine ptrW_of (ptrW_of ?_)
    have e2 : Ext S1 (S1.alloc (.cells (v.map enc8) (some (5 + TB)) false none)).2 := alloc_ext
    have a2 : At (S1.alloc (.cells (v.map enc8) (some (5 + TB)) false none)).2 S1.next _ := alloc_at
    have n2 : (S1.alloc (.cells (v.map enc8) (some (5 + TB)) false none)).2.next = S1.next + 1 := rfl
    generalize (S1.alloc (.cells (v.map enc8) (some (5 + TB)) false none)).2 = S2 at e2 a2 n2 ⊢
    have hb2 := e2.at hb1
    have hne : S1.next ≠ b := by have := hb1.lt; omega
    refine ⟨_, store_cells (n := 1) hb2 (by kernel_rfl) rfl (Nat.le_refl _) rfl, ?_⟩
    refine hk (some S1.next) _ ⟨hne, by simpa using hv, upd_at hb2, ?_⟩ ?_ ?_
    · rw [List.nil_append]
      exact Mod.at upd_mod a2 hne
    · exact ((m1.tr e2).trans upd_mod fun c hc _ => hc).mono fun c hc _ => .inl hc
    · intro c hc
      rcases hc with rfl | hc
      · exact .inl (.inl rfl)
      · cases hc; exact .inr (by omega)
  | some d =>
    obtain ⟨hdb, hl0, hb, hd⟩ := h
    have hc : ccP 54 [.pointer (some ⟨b, 0, none⟩)] S = some (.tuple #[], S) := by
      have e : Nat.beq mB (54 + 2 * TB) = true := Nat.beq_refl _
      simp only [ccP, hb.get, e, cond_true, Nat.beq_refl]
    refine evC_of (WC_prim (E := E0) (f := 35) rfl hc ⟨PUnit.unit, rfl, ?_⟩)
    refine ptrW_of (ptrW_of ?_)
    refine evV_of (ty := tS) ⟨some ⟨d, 0, none⟩, l.length, inex⟩ (load_one hb (by kernel_rfl)) ?_
    refine ⟨⟨some ⟨S.next, 0, none⟩, l.length + v.length, inex⟩, _, app_bytes1 hd hv hl, ?_⟩
    refine ptrW_of (ptrW_of ?_)
    have m1 : Mod (fun c => c = d) S ((S.upd d .dead).alloc (.cells ((l ++ v).map enc8) (some (5 + TB)) false none)).2 := (upd_mod (o := .dead)).tr alloc_ext
    have a2 : At ((S.upd d .dead).alloc (.cells ((l ++ v).map enc8) (some (5 + TB)) false none)).2 S.next _ := alloc_at
    generalize ((S.upd d .dead).alloc (.cells ((l ++ v).map enc8) (some (5 + TB)) false none)).2 = S2 at m1 a2 ⊢
    have hb2 := m1.at hb (fun h => hdb h.symm)
    have hne : S.next ≠ b := by have := hb.lt; omega
    refine ⟨_, store_cells (n := 1) hb2 (by kernel_rfl) rfl (Nat.le_refl _) rfl, ?_⟩
    refine hk (some S.next) _ ⟨hne, by simp [hv], ?_, ?_⟩ ?_ ?_
    · rw [List.length_append]; exact upd_at hb2
    · exact Mod.at upd_mod a2 hne
    · exact ((m1.mono (F' := blO b (some d)) fun c hc _ => .inr (by rw [hc])).trans upd_mod fun c hc _ => .inl hc)
    · intro c hc
      rcases hc with rfl | hc
      · exact .inl (.inl rfl)
      · cases hc; exact .inr (Nat.le_refl _)
theorem map_dec8 (l : List UInt8) : (l.map enc8).map dec8 = l := by
  rw [List.map_map]
  conv => rhs; rw [← List.map_id l]
  exact List.map_congr_left fun c _ => dec8_enc c
theorem s19 {S : St} {b : Nat} {g : Option Nat} {l : List UInt8} {k : Value → St → Prop} (h : Bl S b g l) (hl : l.length ≤ 1000000000) (hk : ∀ S', Mod (blO b g) S S' → k (strV l) S') : WC E0 19 [.pointer (some ⟨b, 0, none⟩)] S k := by
  have e : Nat.beq mB (54 + 2 * TB) = true := Nat.beq_refl _
  cases g with
  | none =>
    obtain ⟨rfl, hb⟩ := h
    exact WC_prim (E := E0) (f := 19) rfl (show strP 54 5 [.pointer (some ⟨b, 0, none⟩)] S = some (.string ⟨#[]⟩, S) by simp only [strP, hb.get, e, cond_true]) (hk S (Mod.refl _ _))
  | some d =>
    obtain ⟨hdb, hl0, hb, hd⟩ := h
    obtain ⟨n, hn⟩ : ∃ n, l.length = n + 1 := ⟨l.length - 1, by have : l.length ≠ 0 := fun hh => hl0 (List.length_eq_zero_iff.1 hh); omega⟩
    rw [hn] at hb
    have ht : (l.map enc8).take (n + 1) = l.map enc8 := List.take_of_length_le (by simp [hn])
    have hi : (l.map enc8).all isB = true := by
      rw [List.all_eq_true]
      intro x hx
      obtain ⟨c, _, rfl⟩ := List.mem_map.1 hx
      have := c.toNat_lt
      simp only [isB, enc8, Bool.and_eq_true, decide_eq_true_eq]
      omega
    have g1 : Nat.blt 5 TB = true := by decide
    have g2 : Nat.ble (n + 1) (l.map enc8).length = true := Nat.ble_eq_true_of_le (by simp [hn])
    have g3 : Nat.ble (n + 1) 17592186044416 = true := Nat.ble_eq_true_of_le (by omega)
    refine WC_prim (E := E0) (f := 19) rfl (show strP 54 5 [.pointer (some ⟨b, 0, none⟩)] S = some (strV l, S.upd d .dead) from ?_) (hk _ (upd_mod.mono fun c hc _ => .inr (by rw [hc])))
    simp only [strP, hb.get, e, cond_true, hd.get, Nat.beq_refl, g1, g2, g3, Bool.and_self, ht, hi, map_dec8]
end
end Go.Proofs.YtfopfocedlbihaaGreatDoor

/- Orders: a text's lines. -/
namespace Go.Proofs.YtfopfocedlbihaaGreatDoor
open Go Go.Proofs.YtfopfocedlbihaaGreatDoor.D
set_option linter.unusedVariables false
set_option linter.unusedSimpArgs false
noncomputable section

/-! ### The law -/
/-! ### Strings' steps -/
theorem sliceD_s {S : St} {l : List UInt8} {lo hi : Option Value} {a b : Nat} (h1 : optNat (some 0) lo = some a) (h2 : optNat (some l.length) hi = some b) (hab : a ≤ b) (hb : b ≤ l.length) : sliceD E0 S 9 (strV l) lo hi none = some (strV ((l.drop a).take (b - a))) := by
  simp only [sliceD, und9, h1, h2, Option.bind_some, Nat.ble_eq_true_of_le hab, Nat.ble_eq_true_of_le hb, Bool.and_self, cond_true]
theorem s63 {S : St} {l : List UInt8} {k : Value → St → Prop} (hk : k (.int .i64 (Lib.indexByte l 10)) S) : WC E0 63 [strV l, .int .u8 10] S k :=
  WC_prim (E := E0) (f := 63) rfl (show withS idxP [strV l, .int .u8 10] S = some (.int .i64 (Lib.indexByte l 10), S) from rfl) hk
theorem s41 {S : St} {l : List UInt8} {k : Value → St → Prop} (hk : k (.int .i64 (Lib.indexByte l 10)) S) : WC E0 41 [strV l, .int .u8 10] S k := by
  refine w41 _ _ ?_
  unfold c41
  exact evC_of (s63 ⟨_, rfl, hk⟩)
/-- Behind the last line's end. -/
theorem s48 {S : St} {l : List UInt8} {k : Value → St → Prop} (h0 : l ≠ []) (hlen : l.length ≤ 100000000) (hk : ∀ t, (t = true ↔ ∃ u, l = u ++ [10]) → k (.bool t) S) : WC E0 48 [strV l, strV [10]] S k := by
  refine w48 _ _ ?_
  unfold c48
  have hpos : 0 < l.length := List.length_pos_iff.2 h0
  refine ifW_dec (fun _ => ?_) fun h => by exfalso; apply h; simp; omega
  have hw : wrapI .i64 ((l.length : Int) - (([10] : List UInt8).length : Int)) = ((l.length - 1 : Nat) : Int) := by
    rw [wrap_i64 (by simp; omega) (by simp; omega)]; simp; omega
  rw [hw]
  refine evV_of (ty := tT) _ (sliceD_s (a := l.length - 1) (b := l.length) (natOf_int (k := .i64)) rfl (by omega) (Nat.le_refl _)) ?_
  refine hk _ ?_
  rw [List.take_of_length_le (by simp)]
  constructor
  · intro h
    have h : l.drop (l.length - 1) = [10] := by simpa using h
    exact ⟨l.take (l.length - 1), by rw [← h, List.take_append_drop]⟩
  · rintro ⟨u, rfl⟩
    simp
theorem s24 {S : St} {l : List UInt8} {k : Value → St → Prop} (h0 : l ≠ []) (hlen : l.length ≤ 100000000) (hk : ∀ t, (t = true ↔ ∃ u, l = u ++ [10]) → k (.bool t) S) : WC E0 24 [strV l, strV [10]] S k := by
  refine w24 _ _ ?_
  unfold c24
  exact evC_of (s48 h0 hlen fun t ht => ⟨_, rfl, hk t ht⟩)
/-- A line without its end. -/
theorem s23 {S : St} {l u : List UInt8} {k : Value → St → Prop} (h0 : l ≠ []) (hlen : l.length ≤ 100000000) (hu : l = u ++ [10] ∨ (l = u ∧ 10 ∉ u)) (hk : k (strV u) S) : WC E0 23 [strV l, strV [10]] S k := by
  refine w23 _ _ ?_
  unfold c23
  refine evC_of (w47 _ _ ?_)
  unfold c47
  refine evC_of (s48 h0 hlen fun t ht => ⟨t, rfl, ?_⟩)
  rcases hu with rfl | ⟨rfl, hn⟩
  · rw [ht.2 ⟨u, rfl⟩]
    refine ifW_of (fun _ => ?_) fun h => by cases h
    have hw : wrapI .i64 (((u ++ [10] : List UInt8).length : Int) - (([10] : List UInt8).length : Int)) = ((u.length : Nat) : Int) := by
      rw [wrap_i64 (by simp only [List.length_append, List.length_cons, List.length_nil]; omega) (by simp only [List.length_append, List.length_cons, List.length_nil] at hlen ⊢; omega)]; simp
    rw [hw]
    refine evV_of (ty := tT) _ (sliceD_s (a := 0) (b := u.length) rfl (natOf_int (k := .i64)) (by omega) (by simp)) ?_
    refine ⟨_, rfl, ?_⟩
    rw [List.drop_zero, Nat.sub_zero, List.take_left]
    exact hk
  · have hf : t = false := by
      cases t with
      | false => rfl
      | true =>
        obtain ⟨v, hv⟩ := ht.1 rfl
        exact (hn (by rw [hv]; simp)).elim
    rw [hf]
    refine ifW_of (fun h => by cases h) fun _ => ?_
    exact ⟨_, rfl, hk⟩
/-- The lines of a text, one by one. -/
theorem s40 {y : Value} {c1 : Nat} {S : St} {s : List UInt8} (I : List UInt8 → St → Prop) {Q : St → Prop} (hlen : s.length ≤ 100000000) (hi0 : I s S) (hbox : ∀ r S', I r S' → At S' c1 (.cells [strV r] none false none))
    (hstep : ∀ (one rest : List UInt8) S' S'', I (one ++ rest) S' → one ≠ [] → (one ++ rest).length ≤ 100000000 → ((∃ u, one = u ++ [10] ∧ 10 ∉ u) ∨ (rest = [] ∧ 10 ∉ one)) → At S'' c1 (.cells [strV rest] none false none) → Mod (fun c => c = c1) S' S'' → S''.next = S'.next →
      evY E0 tB y [strV one] S'' fun b S3 => (b = true → I rest S3) ∧ (b = false → Q S3))
    (hend : ∀ S', I [] S' → Q S') : WC E0 40 [y, .pointer (some ⟨c1, 0, none⟩)] S fun _ S' => Q S' := by
  refine w40 y c1 ?_
  unfold c40
  refine loopW_ind (fun q (_ : PUnit) S' => ∃ r : List UInt8, q = r.length ∧ r.length ≤ 100000000 ∧ I r S') (m := s.length) ⟨s, rfl, hlen, hi0⟩ ?_
  rintro P q _ S1 ⟨r, rfl, hr, hI⟩ hP
  have hb := hbox r S1 hI
  refine evV_of (ty := tT) r (load_one hb (by kernel_rfl)) ?_
  refine ifW_dec (fun hpos => ?_) fun hpos => ?_
  · have hr0 : r ≠ [] := by rintro rfl; simp at hpos
    intro k2 hk2
    have go : ∀ (one rest : List UInt8), r = one ++ rest → one ≠ [] → ((∃ u, one = u ++ [10] ∧ 10 ∉ u) ∨ (rest = [] ∧ 10 ∉ one)) → evS (storeV E0 S1 9 (.pointer (some ⟨c1, 0, none⟩)) (strV rest)) fun S5 => k2 one S5 := by
      intro one rest e h1 h2
      refine ⟨_, store_cells (n := 1) hb (by kernel_rfl) rfl (Nat.le_refl _) rfl, ?_⟩
      refine hk2 _ _ ?_
      refine WV.mono (hstep one rest S1 _ (e ▸ hI) h1 (by rw [← e]; exact hr) h2 (upd_at hb) upd_mod rfl) ?_
      rintro v S2 ⟨b, rfl, hb1, hb2⟩
      refine ⟨b, rfl, ifW_of (fun h => hb2 (by simpa using h)) fun h => ?_⟩
      have hlt : rest.length < r.length := by
        have := List.length_pos_iff.2 h1
        rw [e, List.length_append]; omega
      exact hP _ PUnit.unit _ hlt ⟨rest, rfl, by omega, hb1 (by simpa using h)⟩
    refine evV_of (ty := tT) r (load_one hb (by kernel_rfl)) ?_
    refine evC_of (s41 ⟨_, rfl, ?_⟩)
    have hge := Lib.indexByte_ge r 10
    refine ifW_dec (fun hi => ?_) fun hi => ?_
    · obtain ⟨j, hj⟩ : ∃ j : Nat, Lib.indexByte r 10 = j := ⟨(Lib.indexByte r 10).toNat, by omega⟩
      obtain ⟨g1, g2⟩ := Lib.indexByte_some hj
      have hjl : j < r.length := (List.getElem?_eq_some_iff.1 g1).1
      rw [hj, wrap_succ (by omega)]
      refine evV_of (ty := tT) r (load_one hb (by kernel_rfl)) ?_
      refine evV_of (ty := tT) _ (sliceD_s (a := 0) (b := j + 1) rfl (natOf_int (k := .i64)) (by omega) (by omega)) ?_
      refine evV_of (ty := tT) r (load_one hb (by kernel_rfl)) ?_
      refine evV_of (ty := tT) _ (sliceD_s (a := j + 1) (b := r.length) (natOf_int (k := .i64)) rfl (by omega) (Nat.le_refl _)) ?_
      rw [List.drop_zero, Nat.sub_zero, List.take_of_length_le (by rw [List.length_drop]; exact Nat.le_refl _)]
      refine go (r.take (j + 1)) (r.drop (j + 1)) (List.take_append_drop _ _).symm (by intro h; have := congrArg List.length h; rw [List.length_take, List.length_nil] at this; omega) (.inl ⟨r.take j, ?_, ?_⟩)
      · rw [List.take_add_one, g1]; rfl
      · intro hm
        obtain ⟨i, hi⟩ := List.getElem?_of_mem hm
        have hij : i < j := by have := (List.getElem?_eq_some_iff.1 hi).1; simp at this; omega
        rw [List.getElem?_take_of_lt hij] at hi
        exact g2 i hij hi
    · have hn : Lib.indexByte r 10 = -1 := by omega
      have hno := Lib.indexByte_none hn
      refine evV_of (ty := tT) r (load_one hb (by kernel_rfl)) ?_
      refine go r [] (by simp) hr0 (.inr ⟨rfl, fun hm => ?_⟩)
      obtain ⟨i, hi⟩ := List.getElem?_of_mem hm
      exact hno i hi
  · have hr0 : r = [] := by
      cases r with
      | nil => rfl
      | cons c r => exfalso; apply hpos; simp
    subst hr0
    exact hend S1 hI
/-! ### A script that grows -/
theorem inf37 : E0.inf 37 = some DEnv.i37 := by kernel_rfl
theorem bytes37 : DEnv.i37.bytes = 48 := by kernel_rfl
theorem zero37 : DEnv.i37.zero = some (.agg #[.int .i64 0, .int .i64 0, .int .i64 0, .int .i64 0, .int .i64 0, .int .u64 0]) := by kernel_rfl
end
end Go.Proofs.YtfopfocedlbihaaGreatDoor
