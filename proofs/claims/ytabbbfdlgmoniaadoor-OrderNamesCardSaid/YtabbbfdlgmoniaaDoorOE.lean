/- Parts of the proof, put together. -/
import Derived.Test.YtabbbfdlgmoniaaDoorOC
import Derived.Test.YtabbbfdlgmoniaaDoorCA
import Derived.Lib.IndexLaws
/- Orders: a script's text. -/
namespace Go.Proofs.YtabbbfdlgmoniaaDoor
open Go Go.Proofs.YtabbbfdlgmoniaaDoor.D
set_option linter.unusedVariables false
set_option linter.unusedSimpArgs false
noncomputable section

/-! ### A builder -/
theorem inf5 : E0.inf 5 = some DEnv.i5 := by kernel_rfl
theorem siz5 : DEnv.i5.size = 1 := by kernel_rfl
theorem byt5 : DEnv.i5.bytes = 1 := by kernel_rfl
theorem zer5 : DEnv.i5.zero = some (.int .u8 0) := by kernel_rfl
theorem tag5 : tagA E0 5 1 = 5 + TB := by kernel_rfl
abbrev mB : Nat := 109 + 2 * TB
/-- A builder's box, and its bytes' block; l: what was written. -/
def Bl (S : St) (b : Nat) (g : Option Nat) (l : List UInt8) : Prop :=
  match g with
  | none => l = [] ∧ At S b (.cells [.pointer none, .slice none 0 0] (some mB) false none)
  | some c => c ≠ b ∧ l ≠ [] ∧ At S b (.cells [.pointer (some ⟨b, 0, none⟩), .slice (some ⟨c, 0, none⟩) l.length inex] (some mB) false none) ∧ At S c (.cells (l.map enc8) (some (5 + TB)) false none)
def blO (b : Nat) (g : Option Nat) (c : Nat) : Prop := c = b ∨ g = some c
theorem Bl.frm {b : Nat} {g : Option Nat} {l : List UInt8} : Frm (blO b g) (fun S => Bl S b g l) := by
  intro F S S' m hF h
  cases g with
  | none => exact ⟨h.1, m.at h.2 (hF b (.inl rfl))⟩
  | some c => exact ⟨h.1, h.2.1, m.at h.2.2.1 (hF b (.inl rfl)), m.at h.2.2.2 (hF c (.inr rfl))⟩
theorem Bl.lt {S : St} {b : Nat} {g : Option Nat} {l : List UInt8} (h : Bl S b g l) {c : Nat} (hc : blO b g c) : c < S.next := by
  cases g with
  | none =>
    rcases hc with rfl | hc
    · exact h.2.lt
    · cases hc
  | some d =>
    rcases hc with rfl | hc
    · exact h.2.2.1.lt
    · cases hc; exact h.2.2.2.lt
theorem bytesOfS_str (v : List UInt8) : bytesOfS (bar v) = v.map enc8 := rfl
theorem all_enc8 (v : List UInt8) : (v.map enc8).all St.one = true := by
  rw [List.all_eq_true]
  intro x hx
  obtain ⟨c, _, rfl⟩ := List.mem_map.1 hx
  rfl
theorem app_bytes0 {S : St} {v : List UInt8} (hv : v ≠ []) (hl : v.length ≤ 1000000000) : appendD E0 S 83 9 (.slice none 0 0) (strV v) = some (.slice (some ⟨S.next, 0, none⟩) v.length inex, (S.alloc (.cells (v.map enc8) (some (5 + TB)) false none)).2) := by
  have hv0 : ¬ v.length = 0 := fun hh => hv (List.length_eq_zero_iff.1 hh)
  have g0 : Nat.beq v.length 0 = false := Bool.eq_false_iff.2 fun hh => hv0 (Nat.eq_of_beq_eq_true hh)
  have g1 : Nat.beq (cellsOf (.int .u8 0)).length 1 = true := rfl
  have g2 : Nat.blt 0 1 = true := rfl
  have g3 : Nat.beq (v.map enc8).length (v.length * 1) = true := by rw [List.length_map, Nat.mul_one, Nat.beq_refl]
  have g4 : Nat.ble ((0 + v.length) * 1) 17592186044416 = true := Nat.ble_eq_true_of_le (by omega)
  have g5 : Nat.ble (0 + v.length) 17592186044416 = true := Nat.ble_eq_true_of_le (by omega)
  have g6 : Nat.blt 1 TB = true := by decide
  have g7 : Nat.blt 5 TB = true := by decide
  have hn : lenOfD (strV v) = some v.length := rfl
  have hx : firstD S 1 v.length (strV v) = some (v.map enc8) := by
    show some ((v.map enc8).take v.length) = _
    rw [List.take_of_length_le (by simp)]
  have ha : apK .string = true := rfl
  simp only [appendD, und83, und9, inf5, siz5, byt5, zer5, tag5, ha, cond_true, Option.bind_some, hn, hx, g0, g1, g2, g3, g4, g5, g6, g7, Bool.and_true, cond_false]
theorem app_bytes1 {S : St} {v l : List UInt8} {c : Nat} (hat : At S c (.cells (l.map enc8) (some (5 + TB)) false none)) (hv : v ≠ []) (hl : l.length + v.length ≤ 1000000000) :
    appendD E0 S 83 9 (.slice (some ⟨c, 0, none⟩) l.length inex) (strV v) = some (.slice (some ⟨S.next, 0, none⟩) (l.length + v.length) inex, ((S.upd c .dead).alloc (.cells ((l ++ v).map enc8) (some (5 + TB)) false none)).2) := by
  have hv0 : ¬ v.length = 0 := fun hh => hv (List.length_eq_zero_iff.1 hh)
  have g0 : Nat.beq v.length 0 = false := Bool.eq_false_iff.2 fun hh => hv0 (Nat.eq_of_beq_eq_true hh)
  have g1 : Nat.beq (cellsOf (.int .u8 0)).length 1 = true := rfl
  have g2 : Nat.blt 0 1 = true := rfl
  have g3 : Nat.beq (v.map enc8).length (v.length * 1) = true := by rw [List.length_map, Nat.mul_one, Nat.beq_refl]
  have g4 : Nat.ble ((l.length + v.length) * 1) 17592186044416 = true := Nat.ble_eq_true_of_le (by omega)
  have g5 : Nat.ble (l.length + v.length) 17592186044416 = true := Nat.ble_eq_true_of_le (by omega)
  have g6 : Nat.blt 1 TB = true := by decide
  have g7 : Nat.blt 5 TB = true := by decide
  have hn : lenOfD (strV v) = some v.length := rfl
  have hx : firstD S 1 v.length (strV v) = some (v.map enc8) := by
    show some ((v.map enc8).take v.length) = _
    rw [List.take_of_length_le (by simp)]
  have ha : apK .string = true := rfl
  have g8 : (Nat.beq (5 + TB) 1 || Nat.beq (5 + TB) (5 + TB) && Nat.beq 1 1) = true := by decide
  have g9 : Nat.ble (0 + (l.length + v.length) * 1) (l.map enc8).length = false := Bool.eq_false_iff.2 fun hh => by have := Nat.le_of_ble_eq_true hh; simp at this; omega
  have g10 : Nat.ble (0 + l.length * 1) (l.map enc8).length = true := Nat.ble_eq_true_of_le (by simp)
  have g11 : ((l.map enc8).drop 0).take (l.length * 1) = l.map enc8 := by rw [List.drop_zero, List.take_of_length_le (by simp)]
  have g12 : Nat.beq inex inex = true := Nat.beq_refl _
  have g13 : Nat.beq 0 0 = true := rfl
  have g14 : l.map enc8 ++ v.map enc8 = (l ++ v).map enc8 := by rw [List.map_append]
  simp only [appendD, und83, und9, inf5, siz5, byt5, zer5, ha, cond_true, Option.bind_some, hn, hx, g0, g1, g2, g3, g4, g5, g6, g7, Bool.and_true, cond_false, g12, hat.get, g8, g9, g10, g11, g13, Bool.not_false, all_enc8, St.fzOk, Option.map_none, g14]
theorem s56 {S : St} {b : Nat} {g : Option Nat} {l v : List UInt8} {k : Value → St → Prop} (h : Bl S b g l) (hv : v ≠ []) (hl : l.length + v.length ≤ 1000000000)
    (hk : ∀ g' S', Bl S' b g' (l ++ v) → Mod (blO b g) S S' → (∀ c, blO b g' c → blO b g c ∨ S.next ≤ c) → k (.tuple #[.int .i64 (v.length : Int), .nilIface]) S') : WC E0 56 [.pointer (some ⟨b, 0, none⟩), strV v] S k := by
  refine w56 _ _ ?_
  unfold c56
  cases g with
  | none =>
    obtain ⟨rfl, hb⟩ := h
    have hc : ccP 109 [.pointer (some ⟨b, 0, none⟩)] S = some (.tuple #[], S.upd b (.cells [.pointer (some ⟨b, 0, none⟩), .slice none 0 0] (some mB) false none)) := by
      have e : Nat.beq mB (109 + 2 * TB) = true := Nat.beq_refl _
      simp only [ccP, hb.get, e, cond_true]
    refine evC_of (WC_prim (E := E0) (f := 92) rfl hc ⟨PUnit.unit, rfl, ?_⟩)
    have hb1 := upd_at (o' := .cells [.pointer (some ⟨b, 0, none⟩), .slice none 0 0] (some mB) false none) hb
    have m1 : Mod (fun c => c = b) S (S.upd b (.cells [.pointer (some ⟨b, 0, none⟩), .slice none 0 0] (some mB) false none)) := upd_mod
    have n1 : (S.upd b (.cells [.pointer (some ⟨b, 0, none⟩), .slice none 0 0] (some mB) false none)).next = S.next := rfl
    generalize S.upd b (.cells [.pointer (some ⟨b, 0, none⟩), .slice none 0 0] (some mB) false none) = S1 at hb1 m1 n1 ⊢
    refine ptrW_of (ptrW_of ?_)
    refine evV_of (ty := tS) ⟨none, 0, 0⟩ (load_one hb1 (by kernel_rfl)) ?_
    refine ⟨⟨some ⟨S1.next, 0, none⟩, v.length, inex⟩, _, app_bytes0 hv (by simpa using hl), ?_⟩
    refine ptrW_of (ptrW_of ?_)
    have e2 : Ext S1 (S1.alloc (.cells (v.map enc8) (some (5 + TB)) false none)).2 := alloc_ext
    have a2 : At (S1.alloc (.cells (v.map enc8) (some (5 + TB)) false none)).2 S1.next _ := alloc_at
    have n2 : (S1.alloc (.cells (v.map enc8) (some (5 + TB)) false none)).2.next = S1.next + 1 := rfl
    generalize (S1.alloc (.cells (v.map enc8) (some (5 + TB)) false none)).2 = S2 at e2 a2 n2 ⊢
    have hb2 := e2.at hb1
    have hne : S1.next ≠ b := by have := hb1.lt; omega
    refine ⟨_, store_cells (n := 1) hb2 (by kernel_rfl) rfl (Nat.le_refl _) rfl, ?_⟩
    refine hk (some S1.next) _ ⟨hne, by simpa using hv, upd_at hb2, ?_⟩ ?_ ?_
    · rw [List.nil_append]
      exact Mod.at upd_mod a2 hne
    · exact ((m1.tr e2).trans upd_mod fun c hc _ => hc).mono fun c hc _ => .inl hc
    · intro c hc
      rcases hc with rfl | hc
      · exact .inl (.inl rfl)
      · cases hc; exact .inr (by omega)
  | some d =>
    obtain ⟨hdb, hl0, hb, hd⟩ := h
    have hc : ccP 109 [.pointer (some ⟨b, 0, none⟩)] S = some (.tuple #[], S) := by
      have e : Nat.beq mB (109 + 2 * TB) = true := Nat.beq_refl _
      simp only [ccP, hb.get, e, cond_true, Nat.beq_refl]
    refine evC_of (WC_prim (E := E0) (f := 92) rfl hc ⟨PUnit.unit, rfl, ?_⟩)
    refine ptrW_of (ptrW_of ?_)
    refine evV_of (ty := tS) ⟨some ⟨d, 0, none⟩, l.length, inex⟩ (load_one hb (by kernel_rfl)) ?_
    refine ⟨⟨some ⟨S.next, 0, none⟩, l.length + v.length, inex⟩, _, app_bytes1 hd hv hl, ?_⟩
    refine ptrW_of (ptrW_of ?_)
    have m1 : Mod (fun c => c = d) S ((S.upd d .dead).alloc (.cells ((l ++ v).map enc8) (some (5 + TB)) false none)).2 := (upd_mod (o := .dead)).tr alloc_ext
    have a2 : At ((S.upd d .dead).alloc (.cells ((l ++ v).map enc8) (some (5 + TB)) false none)).2 S.next _ := alloc_at
    generalize ((S.upd d .dead).alloc (.cells ((l ++ v).map enc8) (some (5 + TB)) false none)).2 = S2 at m1 a2 ⊢
    have hb2 := m1.at hb (fun h => hdb h.symm)
    have hne : S.next ≠ b := by have := hb.lt; omega
    refine ⟨_, store_cells (n := 1) hb2 (by kernel_rfl) rfl (Nat.le_refl _) rfl, ?_⟩
    refine hk (some S.next) _ ⟨hne, by simp [hv], ?_, ?_⟩ ?_ ?_
    · rw [List.length_append]; exact upd_at hb2
    · exact Mod.at upd_mod a2 hne
    · exact ((m1.mono (F' := blO b (some d)) fun c hc _ => .inr (by rw [hc])).trans upd_mod fun c hc _ => .inl hc)
    · intro c hc
      rcases hc with rfl | hc
      · exact .inl (.inl rfl)
      · cases hc; exact .inr (Nat.le_refl _)
theorem map_dec8 (l : List UInt8) : (l.map enc8).map dec8 = l := by
  rw [List.map_map]
  conv => rhs; rw [← List.map_id l]
  exact List.map_congr_left fun c _ => dec8_enc c
theorem s57 {S : St} {b : Nat} {g : Option Nat} {l : List UInt8} {k : Value → St → Prop} (h : Bl S b g l) (hl : l.length ≤ 1000000000) (hk : ∀ S', Mod (blO b g) S S' → k (strV l) S') : WC E0 57 [.pointer (some ⟨b, 0, none⟩)] S k := by
  have e : Nat.beq mB (109 + 2 * TB) = true := Nat.beq_refl _
  cases g with
  | none =>
    obtain ⟨rfl, hb⟩ := h
    exact WC_prim (E := E0) (f := 57) rfl (show strP 109 5 [.pointer (some ⟨b, 0, none⟩)] S = some (.string ⟨#[]⟩, S) by simp only [strP, hb.get, e, cond_true]) (hk S (Mod.refl _ _))
  | some d =>
    obtain ⟨hdb, hl0, hb, hd⟩ := h
    obtain ⟨n, hn⟩ : ∃ n, l.length = n + 1 := ⟨l.length - 1, by have : l.length ≠ 0 := fun hh => hl0 (List.length_eq_zero_iff.1 hh); omega⟩
    rw [hn] at hb
    have ht : (l.map enc8).take (n + 1) = l.map enc8 := List.take_of_length_le (by simp [hn])
    have hi : (l.map enc8).all isB = true := by
      rw [List.all_eq_true]
      intro x hx
      obtain ⟨c, _, rfl⟩ := List.mem_map.1 hx
      have := c.toNat_lt
      simp only [isB, enc8, Bool.and_eq_true, decide_eq_true_eq]
      omega
    have g1 : Nat.blt 5 TB = true := by decide
    have g2 : Nat.ble (n + 1) (l.map enc8).length = true := Nat.ble_eq_true_of_le (by simp [hn])
    have g3 : Nat.ble (n + 1) 17592186044416 = true := Nat.ble_eq_true_of_le (by omega)
    refine WC_prim (E := E0) (f := 57) rfl (show strP 109 5 [.pointer (some ⟨b, 0, none⟩)] S = some (strV l, S.upd d .dead) from ?_) (hk _ (upd_mod.mono fun c hc _ => .inr (by rw [hc])))
    simp only [strP, hb.get, e, cond_true, hd.get, Nat.beq_refl, g1, g2, g3, Bool.and_self, ht, hi, map_dec8]
end
end Go.Proofs.YtabbbfdlgmoniaaDoor

/- Orders: a script's text; the document's; two scripts. -/
namespace Go.Proofs.YtabbbfdlgmoniaaDoor
open Go Go.Proofs.YtabbbfdlgmoniaaDoor.D
set_option linter.unusedVariables false
set_option linter.unusedSimpArgs false
noncomputable section

/-! ### The law -/
def textL (l : List Ord) : List UInt8 := l.flatMap fun x => lineL x ++ [10]
def textP (l : List Ord) : List UInt8 × Int := if l.length ≤ 10000 ∧ ∀ x ∈ l, mayP x then (textL l, 0) else ([], 230)
theorem textL_snoc (l : List Ord) (x : Ord) : textL (l ++ [x]) = textL l ++ (lineL x ++ [10]) := by simp [textL]
theorem textL_len {l : List Ord} (hw : ∀ x ∈ l, OrdW x) : (textL l).length ≤ 101 * l.length := by
  induction l with
  | nil => simp [textL]
  | cons x l ih =>
    have h1 := line_len (hw x List.mem_cons_self)
    have h2 := ih fun y hy => hw y (List.mem_cons_of_mem _ hy)
    have e : textL (x :: l) = lineL x ++ [10] ++ textL l := by simp [textL]
    rw [e]
    simp only [List.length_append, List.length_cons, List.length_nil]
    omega
theorem take_snoc {α : Type} {l : List α} {n : Nat} (h : n < l.length) : l.take (n + 1) = l.take n ++ [l[n]] := by simp
theorem len_cellsO (x : Ord) : (cellsO x).length = 6 := rfl
theorem SlOf.ord {S : St} {s : Sl} {l : List Ord} (h : SlOf cellsO 6 S s l) {n : Nat} (hn : n < l.length) {k : Ord → Prop} (hk : k l[n]) : idxW s.a s.len (n : Int) fun b1 b2 => evV (TT.one (Ty.agg G23)) (loadV E0 S 24 (.pointer (some ⟨b1, b2 + Int.toNat (n : Int) * 6, none⟩))) k := by
  refine h.idxL (f := cellsO) (sz := 6) (fun _ => rfl) h.len hn fun b o cs m ro fz hat _ hv => ?_
  exact ⟨l[n], load_agg hat (by kernel_rfl) hv rfl, hk⟩

/-! ### What goes over them -/
theorem s55 {S : St} {x : Ord} {k : Value → St → Prop} (g : Gl S) (hk : ∀ S', Ext S S' → k (.bool (!eqI (chkE x) 0)) S') : WC E0 55 [sv G23 x] S k := by
  refine w55 x ?_
  unfold c55
  have hL := Hld.start noB S
  refine hL.new fun b1 S1 hL _ _ => ?_
  (first | refine hL.ld 0 rfl (by kernel_rfl) _ rfl ?_ | refine hL.ld 1 rfl (by kernel_rfl) _ rfl ?_ | refine hL.ld 2 rfl (by kernel_rfl) _ rfl ?_ | refine hL.ld 3 rfl (by kernel_rfl) _ rfl ?_ | refine hL.ld 4 rfl (by kernel_rfl) _ rfl ?_ | refine hL.ld 5 rfl (by kernel_rfl) _ rfl ?_ | refine hL.ld 6 rfl (by kernel_rfl) _ rfl ?_ | refine hL.ld 7 rfl (by kernel_rfl) _ rfl ?_ | refine hL.lda 0 rfl (by kernel_rfl) _ rfl ?_ | refine hL.lda 1 rfl (by kernel_rfl) _ rfl ?_ | refine hL.lda 2 rfl (by kernel_rfl) _ rfl ?_ | refine hL.lda 3 rfl (by kernel_rfl) _ rfl ?_ | refine hL.lda 4 rfl (by kernel_rfl) _ rfl ?_ | refine hL.lda 5 rfl (by kernel_rfl) _ rfl ?_ | refine hL.lda 6 rfl (by kernel_rfl) _ rfl ?_ | refine hL.lda 7 rfl (by kernel_rfl) _ rfl ?_)
  refine evC_of (s15 (g.ext hL.mod) fun S2 e2 => ⟨_, rfl, ?_⟩)
  exact hk _ (hL.ext e2).mod
theorem chk_bad (x : Ord) : (!eqI (chkE x) 0) = decide (¬ mayP x) := by
  unfold chkE
  by_cases h : mayP x
  · rw [if_pos h, eqI_eq]; simp [h]
  · rw [if_neg h, eqI_eq]; simp [h]
theorem s91 {S : St} {s : Sl} {l : List Ord} {k : Value → St → Prop} (g : Gl S) (h : SlOf cellsO 6 S s l) (hlen : l.length ≤ 1000000) (hk : ∀ i S', Ext S S' → (0 ≤ i ↔ ∃ x ∈ l, ¬ mayP x) → k (.int .i64 i) S') :
    WC E0 91 [.slice s.a s.len s.cap, .func (.func 55) #[] #[]] S k := by
  refine w91 s _ ?_
  unfold c91
  refine loopW_ind (fun q (n1 : Int) S' => ∃ n : Nat, n1 = n ∧ n ≤ l.length ∧ q = l.length - n ∧ Ext S S' ∧ ∀ x ∈ l.take n, mayP x) (m := l.length) ⟨0, rfl, by omega, rfl, Mod.refl _ _, by simp⟩ ?_
  rintro P q n1 S1 ⟨n, rfl, hn, rfl, e1, hm⟩ hP
  have hl := h.len
  refine ifW_dec (fun hlt => ?_) fun hlt => ?_
  · have hn' : n < l.length := by rw [hl] at hlt; omega
    refine SlOf.ord (e1.slOf h) hn' ?_
    refine evY_func (evC_of (s55 (g.ext e1) fun S2 e2 => ⟨_, rfl, ?_⟩))
    rw [chk_bad]
    refine ifW_dec (fun hb => ?_) fun hb => ?_
    · exact hk _ _ (e1.tr e2) ⟨fun _ => ⟨l[n], List.getElem_mem hn', hb⟩, fun _ => by omega⟩
    · rw [wrap_succ (by omega)]
      refine hP _ _ _ (by omega) ⟨n + 1, rfl, by omega, rfl, e1.tr e2, ?_⟩
      rw [take_snoc hn']
      intro x hx
      rcases List.mem_append.1 hx with hx | hx
      · exact hm x hx
      · rw [List.mem_singleton.1 hx]; exact Classical.not_not.1 hb
  · have hn' : n = l.length := by rw [hl] at hlt; omega
    refine hk _ _ e1 ⟨fun hh => by omega, fun ⟨x, hx, hb⟩ => ?_⟩
    rw [hn', List.take_length] at hm
    exact (hb (hm x hx)).elim
theorem s54 {S : St} {s : Sl} {l : List Ord} {k : Value → St → Prop} (g : Gl S) (h : SlOf cellsO 6 S s l) (hlen : l.length ≤ 1000000) (hk : ∀ t S', Ext S S' → (t = true ↔ ∃ x ∈ l, ¬ mayP x) → k (.bool t) S') :
    WC E0 54 [.slice s.a s.len s.cap, .func (.func 55) #[] #[]] S k := by
  refine w54 s _ ?_
  unfold c54
  refine evC_of (s91 g h hlen fun i S1 e1 hi => ⟨_, rfl, ?_⟩)
  exact hk _ _ e1 (by rw [leI_eq, decide_eq_true_iff]; exact hi)
theorem s19 {S : St} {s : Sl} {l : List Ord} {k : Value → St → Prop} (g : Gl S) (h : SlOf cellsO 6 S s l) (hw : ∀ x ∈ l, OrdW x) (hk : ∀ S', Ext S S' → k (.tuple #[strV (textP l).1, .int .i64 (textP l).2]) S') : WC E0 19 [.slice s.a s.len s.cap] S k := by
  refine w19 s ?_
  unfold c19
  have hl := h.len
  unfold textP at hk
  refine ifW_dec (fun hlt => ?_) fun hlt => ?_
  · rw [if_neg (fun h' => by omega)] at hk
    exact hk S (Mod.refl _ _)
  have hlen : l.length ≤ 10000 := by omega
  refine evC_of (s54 g h (by omega) fun t S1 e1 ht => ⟨t, rfl, ?_⟩)
  refine ifW_of (fun hb => ?_) fun hb => ?_
  · obtain ⟨x, hx, hm⟩ := ht.1 hb
    rw [if_neg (fun h' => hm (h'.2 x hx))] at hk
    exact hk S1 e1
  have hm : ∀ x ∈ l, mayP x := fun x hx => by
    by_cases hm : mayP x
    · exact hm
    · have := ht.2 ⟨x, hx, hm⟩; rw [hb] at this; cases this
  rw [if_pos ⟨hlen, hm⟩] at hk
  refine newW_of fun b1 S2 hb1 ha1 e2 hn2 => ?_
  have hL := (Cx.start (S := S) (P := fun _ => True) noB trivial Frm.true (fun _ h => h.elim)).ext e1
  have hB : Bl S2 b1 none [] := ⟨rfl, ha1⟩
  have hL : Cx noB S S2 [] (blO b1 none) (fun S => Bl S b1 none (textL (l.take 0))) :=
    hL.op e2 (fun _ h => h.elim) (fun _ h => h.elim) hB Bl.frm (fun c hc => .inr (by
      rcases hc with rfl | hc
      · omega
      · cases hc)) (fun c hc => hB.lt hc)
  have hS : S.next ≤ S1.next := e1.next
  refine loopW_ind (fun q (n1 : Int) S' => ∃ (n : Nat) (gg : Option Nat), n1 = n ∧ n ≤ l.length ∧ q = l.length - n ∧ Cx noB S S' [] (blO b1 gg) (fun S => Bl S b1 gg (textL (l.take n))) ∧ ∀ c, blO b1 gg c → S.next ≤ c) (m := l.length)
    ⟨0, none, rfl, by omega, rfl, hL, fun c hc => by
      rcases hc with rfl | hc
      · omega
      · cases hc⟩ ?_
  rintro P q n1 S3 ⟨n, gg, rfl, hn, rfl, hL, hS3⟩ hP
  have hwt : ∀ m, (textL (l.take m)).length ≤ 101 * 10000 := fun m => by
    have := textL_len (l := l.take m) (fun x hx => hw x (List.mem_of_mem_take hx))
    have h2 : (l.take m).length ≤ l.length := by rw [List.length_take]; omega
    omega
  refine ifW_dec (fun hlt => ?_) fun hlt => ?_
  · have hn' : n < l.length := by omega
    refine SlOf.ord (Ext.slOf hL.mod h) hn' ?_
    have hx := hw l[n] (List.getElem_mem hn')
    have hmx := hm l[n] (List.getElem_mem hn')
    have hsn := take_snoc hn'
    generalize l[n] = x at hx hmx hsn ⊢
    refine hL.new fun b4 S4 hL _ _ => ?_
    (first | refine hL.st 0 _ rfl (by kernel_rfl) rfl (Nat.le_of_ble_eq_true rfl) rfl rfl fun S5 hL hn5 => ?_ | refine hL.st 1 _ rfl (by kernel_rfl) rfl (Nat.le_of_ble_eq_true rfl) rfl rfl fun S5 hL hn5 => ?_ | refine hL.st 2 _ rfl (by kernel_rfl) rfl (Nat.le_of_ble_eq_true rfl) rfl rfl fun S5 hL hn5 => ?_ | refine hL.st 3 _ rfl (by kernel_rfl) rfl (Nat.le_of_ble_eq_true rfl) rfl rfl fun S5 hL hn5 => ?_ | refine hL.st 4 _ rfl (by kernel_rfl) rfl (Nat.le_of_ble_eq_true rfl) rfl rfl fun S5 hL hn5 => ?_ | refine hL.st 5 _ rfl (by kernel_rfl) rfl (Nat.le_of_ble_eq_true rfl) rfl rfl fun S5 hL hn5 => ?_ | refine hL.st 6 _ rfl (by kernel_rfl) rfl (Nat.le_of_ble_eq_true rfl) rfl rfl fun S5 hL hn5 => ?_ | refine hL.st 7 _ rfl (by kernel_rfl) rfl (Nat.le_of_ble_eq_true rfl) rfl rfl fun S5 hL hn5 => ?_)
    refine hL.lda 0 rfl (by kernel_rfl) x rfl ?_
    refine evC_of (s11 (g.ext hL.mod) hx fun S6 e6 => ⟨((lineP x).1, (lineP x).2), rfl, ?_⟩)
    have hL := hL.ext e6
    have hlp : lineP x = (lineL x, 0) := if_pos hmx
    rw [hlp]
    have hll := line_len hx
    refine evV_of (ty := tT) (lineL x ++ [10]) (cat_eq (by simp; omega)) ?_
    have hnx := hL.mod.next
    refine evC_of (s56 hL.p (v := lineL x ++ [10]) (by simp) (by have := hwt n; simp; omega) fun g' S7 hB m hs' => ⟨(_, _), rfl, ?_⟩)
    rw [wrap_succ (by omega)]
    have hL2 : Cx noB S S7 [] (blO b1 g') (fun S => Bl S b1 g' (textL (l.take (n + 1)))) := by
      refine Cx.tl (hL.op m (fun _ h => h) (fun c hc hlt => by have := hS3 c hc; omega) (P' := fun S => Bl S b1 g' (textL (l.take (n + 1)))) ?_ Bl.frm hs' (fun c hc => hB.lt hc)) 1
      rw [hsn, textL_snoc]
      exact hB
    exact hP _ _ _ (by omega) ⟨n + 1, g', rfl, by omega, rfl, hL2, fun c hc => (hs' c hc).elim (hS3 c) fun h => by omega⟩
  · have hn' : n = l.length := by omega
    have hp := hL.p
    rw [hn', List.take_length] at hp
    have := hwt l.length
    rw [List.take_length] at this
    refine evC_of (s57 hp (by omega) fun S8 m => ⟨_, rfl, ?_⟩)
    exact hk S8 (hL.mod.ext m hS3)
/-! ### The document's -/
theorem s20 {S : St} {s : Sl} {l : List Ord} {k : Value → St → Prop} (h : SlOf cellsO 6 S s l) (hw : ∀ x ∈ l, OrdW x) (hk : ∀ S', Ext S S' → k (.tuple #[strV (textP l).1, .int .i64 (textP l).2]) S') : WC E0 20 [.slice s.a s.len s.cap] S k := by
  refine w20 s ?_
  unfold c20
  have hl := h.len
  unfold textP at hk
  refine ifW_dec (fun hlt => ?_) fun hlt => ?_
  · rw [if_neg (fun h' => by omega)] at hk
    exact hk S (Mod.refl _ _)
  have hlen : l.length ≤ 10000 := by omega
  refine loopW_ind (fun q (x : List UInt8 × Int) S' => ∃ n : Nat, x = (textL (l.take n), (n : Int)) ∧ n ≤ l.length ∧ q = l.length - n ∧ Ext S S' ∧ ∀ x ∈ l.take n, mayP x) (m := l.length) ⟨0, rfl, by omega, rfl, Mod.refl _ _, by simp⟩ ?_
  rintro P q x1 S1 ⟨n, rfl, hn, rfl, e1, hm⟩ hP
  have hwt : ∀ m, (textL (l.take m)).length ≤ 101 * 10000 := fun m => by
    have := textL_len (l := l.take m) (fun x hx => hw x (List.mem_of_mem_take hx))
    have h2 : (l.take m).length ≤ l.length := by rw [List.length_take]; omega
    omega
  refine ifW_dec (fun hlt => ?_) fun hlt => ?_
  · have hn' : n < l.length := by
      have hlt : (n : Int) < (s.len : Int) := hlt
      omega
    refine SlOf.ord (e1.slOf h) hn' ?_
    have hx := hw l[n] (List.getElem_mem hn')
    have hsn := take_snoc hn'
    have hmem := List.getElem_mem hn'
    generalize l[n] = x at hx hsn hmem ⊢
    refine evC_of (s12 hx fun S2 e2 => ⟨((lineP x).1, (lineP x).2), rfl, ?_⟩)
    by_cases hmx : mayP x
    · have hlp : lineP x = (lineL x, 0) := if_pos hmx
      rw [hlp]
      refine ifW_ndec (fun h => (h rfl).elim) fun _ => ?_
      have hll := line_len hx
      have ht := hwt n
      refine evV_of (ty := tT) _ (cat_eq (by simp; omega)) ?_
      refine evV_of (ty := tT) _ (cat_eq (by simp; omega)) ?_
      refine hP _ _ _ (by omega) ⟨n + 1, ?_, by omega, rfl, e1.tr e2, ?_⟩
      · rw [hsn, textL_snoc]
        show (_, wrapI .i64 ((n : Int) + 1)) = _
        rw [wrap_succ (by omega), List.append_assoc]
        rfl
      · rw [hsn]
        intro y hy
        rcases List.mem_append.1 hy with hy | hy
        · exact hm y hy
        · rw [List.mem_singleton.1 hy]; exact hmx
    · have hlp : lineP x = ([], 230) := if_neg hmx
      rw [hlp]
      rw [if_neg (fun h' => hmx (h'.2 x hmem))] at hk
      refine ifW_ndec (fun _ => ?_) fun h => by cases h
      exact hk S2 (e1.tr e2)
  · have hn' : n = l.length := by
      have hlt : ¬ (n : Int) < (s.len : Int) := hlt
      omega
    rw [hn', List.take_length] at hm ⊢
    rw [if_pos ⟨hlen, hm⟩] at hk
    exact hk S1 e1
theorem s23 {S : St} {s1 s2 : Sl} {l1 l2 : List Ord} {k : Value → St → Prop} (h1 : SlOf cellsO 6 S s1 l1) (h2 : SlOf cellsO 6 S s2 l2) (hlen : l1.length ≤ 1000000) (hk : k (.bool (decide (l1 = l2))) S) : WC E0 23 [.slice s1.a s1.len s1.cap, .slice s2.a s2.len s2.cap] S k := by
  refine w23 s1 s2 ?_
  unfold c23
  have e1 := h1.len
  have e2 := h2.len
  refine ifW_ndec (fun hne => ?_) fun heq => ?_
  · have hd : l1 ≠ l2 := fun e => hne (by rw [e1, e2, e])
    rw [decide_eq_false hd] at hk
    exact hk
  have heq : l1.length = l2.length := by omega
  refine loopW_ind (fun q (n1 : Int) S' => ∃ n : Nat, n1 = n ∧ n ≤ l1.length ∧ q = l1.length - n ∧ S' = S ∧ l1.take n = l2.take n) (m := l1.length) ⟨0, rfl, by omega, rfl, rfl, by simp⟩ ?_
  rintro P q n1 S1 ⟨n, rfl, hn, rfl, rfl, hm⟩ hP
  refine ifW_dec (fun hlt => ?_) fun hlt => ?_
  · have n1 : n < l1.length := by omega
    have n2 : n < l2.length := by omega
    refine h1.idxL (f := cellsO) (sz := 6) (fun _ => rfl) h1.len n1 fun b o cs m ro fz hat _ hv => ?_
    refine ⟨l1[n], load_agg hat (by kernel_rfl) hv rfl, ?_⟩
    refine h2.idxL (f := cellsO) (sz := 6) (fun _ => rfl) h2.len n2 fun b o cs m ro fz hat _ hv => ?_
    refine ⟨l2[n], load_agg hat (by kernel_rfl) hv rfl, ?_⟩
    refine ⟨_, eqOrd _ l1[n] l2[n], ?_⟩
    refine ifW_ndec (fun hb => ?_) fun hb => ?_
    · have hd : l1 ≠ l2 := fun e => hb (by subst e; rfl)
      rw [decide_eq_false hd] at hk
      exact hk
    · rw [wrap_succ (by omega)]
      exact hP _ _ _ (by omega) ⟨n + 1, rfl, by omega, rfl, rfl, by rw [take_snoc n1, take_snoc n2, hm, hb]⟩
  · have hn' : n = l1.length := by omega
    have hd : l1 = l2 := by
      rw [hn', List.take_length, heq, List.take_length] at hm
      exact hm
    rw [decide_eq_true hd] at hk
    exact hk
end
end Go.Proofs.YtabbbfdlgmoniaaDoor

/- Orders: a text's lines. -/
namespace Go.Proofs.YtabbbfdlgmoniaaDoor
open Go Go.Proofs.YtabbbfdlgmoniaaDoor.D
set_option linter.unusedVariables false
set_option linter.unusedSimpArgs false
noncomputable section

/-! ### The law -/
/-- What is read of a line. -/
def rdL (s : List UInt8) : Ord × Int := readP (candB s) s
/-- A text's script: cur: what was read of the line; acc: what was read ahead; n: how many lines. -/
def parA : List UInt8 → List Ord → Nat → List UInt8 → List Ord × Int × Int
  | cur, acc, n, [] => if cur = [] then (acc, 0, 0) else ([], ((n + 1 : Nat) : Int), 230)
  | cur, acc, n, c :: r => if c = 10 then (if (rdL cur).2 ≠ 0 ∨ 10000 < n + 1 then ([], ((n + 1 : Nat) : Int), 230) else parA [] (acc ++ [(rdL cur).1]) (n + 1) r) else parA (cur ++ [c]) acc n r
def parseP (s : List UInt8) : List Ord × Int × Int := parA [] [] 0 s
theorem parA_pre : ∀ (u cur : List UInt8) (acc : List Ord) (n : Nat) (r : List UInt8), 10 ∉ u → parA cur acc n (u ++ r) = parA (cur ++ u) acc n r
  | [], cur, acc, n, r, _ => by simp
  | c :: u, cur, acc, n, r, h => by
    have hc : ¬ c = 10 := fun e => h (by simp [e])
    have hu : 10 ∉ u := fun e => h (by simp [e])
    rw [List.cons_append, parA, if_neg hc, parA_pre u _ acc n r hu]
    simp
theorem parA_line (u : List UInt8) (acc : List Ord) (n : Nat) (r : List UInt8) (h : 10 ∉ u) : parA [] acc n (u ++ [10] ++ r) = if (rdL u).2 ≠ 0 ∨ 10000 < n + 1 then ([], ((n + 1 : Nat) : Int), 230) else parA [] (acc ++ [(rdL u).1]) (n + 1) r := by
  rw [List.append_assoc, parA_pre u [] acc n _ h, List.nil_append, List.singleton_append, parA, if_pos rfl]
theorem parA_last (u : List UInt8) (acc : List Ord) (n : Nat) (h : 10 ∉ u) (h0 : u ≠ []) : parA [] acc n u = ([], ((n + 1 : Nat) : Int), 230) := by
  have := parA_pre u [] acc n [] h
  rw [List.append_nil] at this
  rw [this, List.nil_append, parA, if_neg h0]
theorem rdL_w {s : List UInt8} : OrdW (rdL s).1 := by
  unfold rdL
  rw [← read_same]
  unfold readP
  split
  · exact candA_w s
  · constructor <;> simp [i64, zeroO]

/-! ### Strings' steps -/
theorem sliceD_s {S : St} {l : List UInt8} {lo hi : Option Value} {a b : Nat} (h1 : optNat (some 0) lo = some a) (h2 : optNat (some l.length) hi = some b) (hab : a ≤ b) (hb : b ≤ l.length) : sliceD E0 S 9 (strV l) lo hi none = some (strV ((l.drop a).take (b - a))) := by
  simp only [sliceD, und9, h1, h2, Option.bind_some, Nat.ble_eq_true_of_le hab, Nat.ble_eq_true_of_le hb, Bool.and_self, cond_true]
theorem s134 {S : St} {l : List UInt8} {k : Value → St → Prop} (hk : k (.int .i64 (Lib.indexByte l 10)) S) : WC E0 134 [strV l, .int .u8 10] S k :=
  WC_prim (E := E0) (f := 134) rfl (show withS idxP [strV l, .int .u8 10] S = some (.int .i64 (Lib.indexByte l 10), S) from rfl) hk
theorem s94 {S : St} {l : List UInt8} {k : Value → St → Prop} (hk : k (.int .i64 (Lib.indexByte l 10)) S) : WC E0 94 [strV l, .int .u8 10] S k := by
  refine w94 _ _ ?_
  unfold c94
  exact evC_of (s134 ⟨_, rfl, hk⟩)
/-- Behind the last line's end. -/
theorem s96 {S : St} {l : List UInt8} {k : Value → St → Prop} (h0 : l ≠ []) (hlen : l.length ≤ 1000000) (hk : ∀ t, (t = true ↔ ∃ u, l = u ++ [10]) → k (.bool t) S) : WC E0 96 [strV l, strV [10]] S k := by
  refine w96 _ _ ?_
  unfold c96
  have hpos : 0 < l.length := List.length_pos_iff.2 h0
  refine ifW_dec (fun _ => ?_) fun h => by exfalso; apply h; simp; omega
  have hw : wrapI .i64 ((l.length : Int) - (([10] : List UInt8).length : Int)) = ((l.length - 1 : Nat) : Int) := by
    rw [wrap_i64 (by simp; omega) (by simp; omega)]; simp; omega
  rw [hw]
  refine evV_of (ty := tT) _ (sliceD_s (a := l.length - 1) (b := l.length) (natOf_int (k := .i64)) rfl (by omega) (Nat.le_refl _)) ?_
  refine hk _ ?_
  rw [List.take_of_length_le (by simp)]
  constructor
  · intro h
    have h : l.drop (l.length - 1) = [10] := by simpa using h
    exact ⟨l.take (l.length - 1), by rw [← h, List.take_append_drop]⟩
  · rintro ⟨u, rfl⟩
    simp
theorem s60 {S : St} {l : List UInt8} {k : Value → St → Prop} (h0 : l ≠ []) (hlen : l.length ≤ 1000000) (hk : ∀ t, (t = true ↔ ∃ u, l = u ++ [10]) → k (.bool t) S) : WC E0 60 [strV l, strV [10]] S k := by
  refine w60 _ _ ?_
  unfold c60
  exact evC_of (s96 h0 hlen fun t ht => ⟨_, rfl, hk t ht⟩)
/-- A line without its end. -/
theorem s59 {S : St} {l u : List UInt8} {k : Value → St → Prop} (h0 : l ≠ []) (hlen : l.length ≤ 1000000) (hu : l = u ++ [10] ∨ (l = u ∧ 10 ∉ u)) (hk : k (strV u) S) : WC E0 59 [strV l, strV [10]] S k := by
  refine w59 _ _ ?_
  unfold c59
  refine evC_of (w95 _ _ ?_)
  unfold c95
  refine evC_of (s96 h0 hlen fun t ht => ⟨t, rfl, ?_⟩)
  rcases hu with rfl | ⟨rfl, hn⟩
  · rw [ht.2 ⟨u, rfl⟩]
    refine ifW_of (fun _ => ?_) fun h => by cases h
    have hw : wrapI .i64 (((u ++ [10] : List UInt8).length : Int) - (([10] : List UInt8).length : Int)) = ((u.length : Nat) : Int) := by
      rw [wrap_i64 (by simp only [List.length_append, List.length_cons, List.length_nil]; omega) (by simp only [List.length_append, List.length_cons, List.length_nil] at hlen ⊢; omega)]; simp
    rw [hw]
    refine evV_of (ty := tT) _ (sliceD_s (a := 0) (b := u.length) rfl (natOf_int (k := .i64)) (by omega) (by simp)) ?_
    refine ⟨_, rfl, ?_⟩
    rw [List.drop_zero, Nat.sub_zero, List.take_left]
    exact hk
  · have hf : t = false := by
      cases t with
      | false => rfl
      | true =>
        obtain ⟨v, hv⟩ := ht.1 rfl
        exact (hn (by rw [hv]; simp)).elim
    rw [hf]
    refine ifW_of (fun h => by cases h) fun _ => ?_
    exact ⟨_, rfl, hk⟩
/-- The lines of a text, one by one. -/
theorem s93 {y : Value} {c1 : Nat} {S : St} {s : List UInt8} (I : List UInt8 → St → Prop) {Q : St → Prop} (hlen : s.length ≤ 1000000) (hi0 : I s S) (hbox : ∀ r S', I r S' → At S' c1 (.cells [strV r] none false none))
    (hstep : ∀ (one rest : List UInt8) S' S'', I (one ++ rest) S' → one ≠ [] → (one ++ rest).length ≤ 1000000 → ((∃ u, one = u ++ [10] ∧ 10 ∉ u) ∨ (rest = [] ∧ 10 ∉ one)) → At S'' c1 (.cells [strV rest] none false none) → Mod (fun c => c = c1) S' S'' → S''.next = S'.next →
      evY E0 tB y [strV one] S'' fun b S3 => (b = true → I rest S3) ∧ (b = false → Q S3))
    (hend : ∀ S', I [] S' → Q S') : WC E0 93 [y, .pointer (some ⟨c1, 0, none⟩)] S fun _ S' => Q S' := by
  refine w93 y c1 ?_
  unfold c93
  refine loopW_ind (fun q (_ : PUnit) S' => ∃ r : List UInt8, q = r.length ∧ r.length ≤ 1000000 ∧ I r S') (m := s.length) ⟨s, rfl, hlen, hi0⟩ ?_
  rintro P q _ S1 ⟨r, rfl, hr, hI⟩ hP
  have hb := hbox r S1 hI
  refine evV_of (ty := tT) r (load_one hb (by kernel_rfl)) ?_
  refine ifW_dec (fun hpos => ?_) fun hpos => ?_
  · have hr0 : r ≠ [] := by rintro rfl; simp at hpos
    intro k2 hk2
    have go : ∀ (one rest : List UInt8), r = one ++ rest → one ≠ [] → ((∃ u, one = u ++ [10] ∧ 10 ∉ u) ∨ (rest = [] ∧ 10 ∉ one)) → evS (storeV E0 S1 9 (.pointer (some ⟨c1, 0, none⟩)) (strV rest)) fun S5 => k2 one S5 := by
      intro one rest e h1 h2
      refine ⟨_, store_cells (n := 1) hb (by kernel_rfl) rfl (Nat.le_refl _) rfl, ?_⟩
      refine hk2 _ _ ?_
      refine WV.mono (hstep one rest S1 _ (e ▸ hI) h1 (by rw [← e]; exact hr) h2 (upd_at hb) upd_mod rfl) ?_
      rintro v S2 ⟨b, rfl, hb1, hb2⟩
      refine ⟨b, rfl, ifW_of (fun h => hb2 (by simpa using h)) fun h => ?_⟩
      have hlt : rest.length < r.length := by
        have := List.length_pos_iff.2 h1
        rw [e, List.length_append]; omega
      exact hP _ PUnit.unit _ hlt ⟨rest, rfl, by omega, hb1 (by simpa using h)⟩
    refine evV_of (ty := tT) r (load_one hb (by kernel_rfl)) ?_
    refine evC_of (s94 ⟨_, rfl, ?_⟩)
    have hge := Lib.indexByte_ge r 10
    refine ifW_dec (fun hi => ?_) fun hi => ?_
    · obtain ⟨j, hj⟩ : ∃ j : Nat, Lib.indexByte r 10 = j := ⟨(Lib.indexByte r 10).toNat, by omega⟩
      obtain ⟨g1, g2⟩ := Lib.indexByte_some hj
      have hjl : j < r.length := (List.getElem?_eq_some_iff.1 g1).1
      rw [hj, wrap_succ (by omega)]
      refine evV_of (ty := tT) r (load_one hb (by kernel_rfl)) ?_
      refine evV_of (ty := tT) _ (sliceD_s (a := 0) (b := j + 1) rfl (natOf_int (k := .i64)) (by omega) (by omega)) ?_
      refine evV_of (ty := tT) r (load_one hb (by kernel_rfl)) ?_
      refine evV_of (ty := tT) _ (sliceD_s (a := j + 1) (b := r.length) (natOf_int (k := .i64)) rfl (by omega) (Nat.le_refl _)) ?_
      rw [List.drop_zero, Nat.sub_zero, List.take_of_length_le (by rw [List.length_drop]; exact Nat.le_refl _)]
      refine go (r.take (j + 1)) (r.drop (j + 1)) (List.take_append_drop _ _).symm (by intro h; have := congrArg List.length h; rw [List.length_take, List.length_nil] at this; omega) (.inl ⟨r.take j, ?_, ?_⟩)
      · rw [List.take_add_one, g1]; rfl
      · intro hm
        obtain ⟨i, hi⟩ := List.getElem?_of_mem hm
        have hij : i < j := by have := (List.getElem?_eq_some_iff.1 hi).1; simp at this; omega
        rw [List.getElem?_take_of_lt hij] at hi
        exact g2 i hij hi
    · have hn : Lib.indexByte r 10 = -1 := by omega
      have hno := Lib.indexByte_none hn
      refine evV_of (ty := tT) r (load_one hb (by kernel_rfl)) ?_
      refine go r [] (by simp) hr0 (.inr ⟨rfl, fun hm => ?_⟩)
      obtain ⟨i, hi⟩ := List.getElem?_of_mem hm
      exact hno i hi
  · have hr0 : r = [] := by
      cases r with
      | nil => rfl
      | cons c r => exfalso; apply hpos; simp
    subst hr0
    exact hend S1 hI
/-! ### A script that grows -/
theorem grX_frm {α : Type} {f : α → List Value} {sz : Nat} {s : Sl} {l : List α} : Frm (slO s) (fun S => GrX f sz 0 S s l) := by
  intro F S S' m hF h
  rcases h with h | ⟨b, rest, h1, h2, h3, h4⟩
  · exact .inl h
  · exact .inr ⟨b, rest, h1, h2, m.at h3 (hF b ⟨0, by rw [h2]⟩), h4⟩
theorem grX_lt {α : Type} {f : α → List Value} {sz : Nat} {S : St} {s : Sl} {l : List α} (h : GrX f sz 0 S s l) {c : Nat} (hc : slO s c) : c < S.next := by
  obtain ⟨o, hc⟩ := hc
  rcases h with ⟨_, rfl⟩ | ⟨b, rest, h1, rfl, h3, h4⟩
  · cases hc
  · cases hc; exact h3.lt
theorem und39 : E0.und 39 = some (.slice 24) := by kernel_rfl
theorem inf24 : E0.inf 24 = some DEnv.i24 := by kernel_rfl
theorem bytes24 : DEnv.i24.bytes = 48 := by kernel_rfl
theorem zero24 : DEnv.i24.zero = some (.agg #[.int .i64 0, .int .i64 0, .int .i64 0, .int .i64 0, .int .i64 0, .int .u64 0]) := by kernel_rfl
theorem app_ord {S : St} {s : Sl} {l : List Ord} {b : Nat} {x : Ord} (h : GrX cellsO 6 0 S s l) (hat : At S b (.cells (cellsO x) none false none)) (hl : l.length ≤ 1000000)
    {k : Sl → St → Prop} (hk : ∀ s' S', GrX cellsO 6 0 S' s' (l ++ [x]) → Mod (slO s) S S' → (∀ c, slO s' c → slO s c ∨ S.next ≤ c) → k s' S') :
    evP tS (appendD E0 S 39 39 (.slice s.a s.len s.cap) (.slice (some ⟨b, 0, none⟩) 1 1)) k :=
  GrX.append (E := E0) (f := cellsO) (sz := 6) (N := 0) (fun _ => rfl) (by omega) h und39 inf24 und39 (by kernel_rfl) (by kernel_rfl) zero24 rfl (vs := [x]) rfl (firstD_box (f := cellsO) (sz := 6) (fun _ => rfl) (by omega) hat) rfl
    (show (l.length + 1) * DEnv.i24.bytes ≤ 17592186044416 by rw [bytes24]; omega) (show l.length + 1 ≤ 17592186044416 by omega) (by simp) (show (l.length + 1) * 6 < inex by have h := lt_inex; omega)
    (fun s' S' g m hs' => hk s' S' g (m.mono fun c hc _ => ⟨0, hc.2⟩) fun c hc => by
      obtain ⟨o, e⟩ := hc
      rcases hs' with h | ⟨b', h, h'⟩
      · exact .inl ⟨o, by rw [← h]; exact e⟩
      · rw [h] at e; cases e; exact .inr h') (Nat.zero_le _)
end
end Go.Proofs.YtabbbfdlgmoniaaDoor

/- Orders: a text's script, the document's. -/
namespace Go.Proofs.YtabbbfdlgmoniaaDoor
open Go Go.Proofs.YtabbbfdlgmoniaaDoor.D
set_option linter.unusedVariables false
set_option linter.unusedSimpArgs false
noncomputable section

theorem rdL_2 (s : List UInt8) : (rdL s).2 = 0 ∨ (rdL s).2 = 230 := by
  unfold rdL readP
  split
  · exact .inl rfl
  · exact .inr rfl
theorem drop_cons {l : List UInt8} {i : Nat} (h : i < l.length) : l.drop i = l[i] :: l.drop (i + 1) := List.drop_eq_getElem_cons h
theorem take_drop_succ {l : List UInt8} {a i : Nat} (h : i < l.length) (ha : a ≤ i) : (l.drop a).take (i + 1 - a) = (l.drop a).take (i - a) ++ [l[i]] := by
  rw [show i + 1 - a = (i - a) + 1 by omega, List.take_add_one, List.getElem?_drop, show a + (i - a) = i by omega, List.getElem?_eq_getElem h]; rfl
theorem s22 {S : St} {s : List UInt8} {k : Value → St → Prop} (hlen : s.length ≤ 100000)
    (hk : ∀ sl S', Ext S S' → GrX cellsO 6 0 S' sl (parseP s).1 → (∀ c, slO sl c → S.next ≤ c) → k (.tuple #[.slice sl.a sl.len sl.cap, .int .i64 (parseP s).2.1, .int .i64 (parseP s).2.2]) S') : WC E0 22 [strV s] S k := by
  refine w22 s ?_
  unfold c22
  have h0 : GrX cellsO 6 0 S ⟨none, 0, 0⟩ [] := .inl ⟨rfl, rfl⟩
  have hL0 := Cx.start (S := S) noB h0 grX_frm (fun c hc => grX_lt h0 hc)
  refine loopW_ind (fun q (x : Sl × Int × Int × Int) S' => ∃ (sl : Sl) (n fr i : Nat) (acc : List Ord), x = (sl, (n : Int), (fr : Int), (i : Int)) ∧ fr ≤ i ∧ i ≤ s.length ∧ n ≤ i ∧ acc.length ≤ i ∧ q = s.length - i ∧
      Cx noB S S' [] (slO sl) (fun S => GrX cellsO 6 0 S sl acc) ∧ (∀ c, slO sl c → S.next ≤ c) ∧ parA ((s.drop fr).take (i - fr)) acc n (s.drop i) = parseP s) (m := s.length)
    ⟨⟨none, 0, 0⟩, 0, 0, 0, [], rfl, by omega, by omega, by omega, by simp, rfl, hL0, (fun c hc => by obtain ⟨o, hc⟩ := hc; cases hc), by simp [parseP]⟩ ?_
  rintro P q x1 S1 ⟨sl, n, fr, i, acc, rfl, hfi, hil, hni, hai, rfl, hL, hs, hp⟩ hP
  dsimp only
  have bad : ∀ {S' : St}, Ext S S' → parseP s = ([], ((n + 1 : Nat) : Int), 230) → k (.tuple #[.slice none 0 0, .int .i64 (wrapI .i64 ((n : Int) + 1)), .int .i64 230]) S' := by
    intro S' e hb
    have := hk ⟨none, 0, 0⟩ S' e (by rw [hb]; exact .inl ⟨rfl, rfl⟩) (fun c hc => by obtain ⟨o, hc⟩ := hc; cases hc)
    rw [hb] at this
    rw [wrap_succ (by omega)]
    exact this
  refine ifW_dec (fun hlt => ?_) fun hlt => ?_
  · have hi : i < s.length := by omega
    refine evV_of (ty := tU8) _ (indexD_str und9 hi) ?_
    have hts := take_drop_succ (l := s) (a := fr) hi hfi
    rw [drop_cons hi, parA] at hp
    refine ifW_ndec (fun hc => ?_) fun hc => ?_
    · have hc' : ¬ s[i] = 10 := fun e => hc (by rw [e]; rfl)
      rw [if_neg hc'] at hp
      rw [wrap_succ (by omega)]
      exact hP _ _ _ (by omega) ⟨sl, n, fr, i + 1, acc, rfl, by omega, by omega, by omega, by omega, rfl, hL, hs, by rw [hts]; exact hp⟩
    · have hc' : s[i] = 10 := by
        have : (s[i].toNat : Int) = 10 := hc
        exact UInt8.toNat_inj.1 (by show s[i].toNat = 10; omega)
      rw [if_pos hc'] at hp
      refine evV_of (ty := tT) _ (sliceD_s (a := fr) (b := i) (natOf_int (k := .i64)) (natOf_int (k := .i64)) hfi hil) ?_
      generalize hcur : (s.drop fr).take (i - fr) = cur at hp hts ⊢
      have hcl : cur.length ≤ 100000 := by rw [← hcur, List.length_take, List.length_drop]; omega
      refine evC_of (s14 hcl fun S2 e2 => ⟨((rdL cur).1, (rdL cur).2), rfl, ?_⟩)
      have hL := hL.ext e2
      have hx : OrdW (rdL cur).1 := rdL_w
      have h2 := rdL_2 cur
      generalize (rdL cur).1 = x at hx hp ⊢
      generalize (rdL cur).2 = y at h2 hp ⊢
      refine hL.new fun b1 S3 hL _ _ => ?_
      (first | refine hL.st 0 _ rfl (by kernel_rfl) rfl (Nat.le_of_ble_eq_true rfl) rfl rfl fun S4 hL hn4 => ?_ | refine hL.st 1 _ rfl (by kernel_rfl) rfl (Nat.le_of_ble_eq_true rfl) rfl rfl fun S4 hL hn4 => ?_ | refine hL.st 2 _ rfl (by kernel_rfl) rfl (Nat.le_of_ble_eq_true rfl) rfl rfl fun S4 hL hn4 => ?_ | refine hL.st 3 _ rfl (by kernel_rfl) rfl (Nat.le_of_ble_eq_true rfl) rfl rfl fun S4 hL hn4 => ?_ | refine hL.st 4 _ rfl (by kernel_rfl) rfl (Nat.le_of_ble_eq_true rfl) rfl rfl fun S4 hL hn4 => ?_ | refine hL.st 5 _ rfl (by kernel_rfl) rfl (Nat.le_of_ble_eq_true rfl) rfl rfl fun S4 hL hn4 => ?_ | refine hL.st 6 _ rfl (by kernel_rfl) rfl (Nat.le_of_ble_eq_true rfl) rfl rfl fun S4 hL hn4 => ?_ | refine hL.st 7 _ rfl (by kernel_rfl) rfl (Nat.le_of_ble_eq_true rfl) rfl rfl fun S4 hL hn4 => ?_)
      refine ifW_ndec (fun hy => ?_) fun hy => ?_
      · have hy : ¬ y = 0 := hy
        rw [if_pos (.inl hy)] at hp
        exact bad hL.mod hp.symm
      have hy : y = 0 := hy
      have hw : wrapI .i64 ((n : Int) + 1) = ((n + 1 : Nat) : Int) := wrap_succ (by omega)
      have hw2 : wrapI .i64 ((i : Int) + 1) = ((i + 1 : Nat) : Int) := wrap_succ (by omega)
      rw [hw] at bad ⊢
      refine ifW_dec (fun hn => ?_) fun hn => ?_
      · rw [if_pos (.inr (by omega))] at hp
        exact bad hL.mod hp.symm
      rw [if_neg (fun h => h.elim (fun h => h hy) (fun h => by omega))] at hp
      refine hL.lda 0 rfl (by kernel_rfl) x rfl ?_
      refine hL.new fun b2 S5 hL _ _ => ?_
      have hnx := hL.mod.next
      refine app_ord (s := sl) hL.p (hL.at 0 rfl) (by omega) fun s' S6 g' m hs' => ?_
      rw [hw2]
      have hL2 : Cx noB S S6 [] (slO s') (fun S => GrX cellsO 6 0 S s' (acc ++ [x])) :=
        Cx.tl (hL.op m (fun _ h => h) (fun c hc hlt => by have := hs c hc; omega) g' grX_frm hs' (fun c hc => grX_lt g' hc)) 2
      exact hP _ _ _ (by omega) ⟨s', n + 1, i + 1, i + 1, acc ++ [x], rfl, by omega, by omega, by omega, by simp; omega, rfl, hL2, fun c hc => (hs' c hc).elim (hs c) fun h => by omega, by rw [Nat.sub_self, List.take_zero]; exact hp⟩
  · have hi : i = s.length := by omega
    subst hi
    rw [List.drop_length, parA] at hp
    refine ifW_dec (fun hf => ?_) fun hf => ?_
    · rw [if_neg (fun h => by have := congrArg List.length h; rw [List.length_take, List.length_drop, List.length_nil] at this; omega)] at hp
      exact bad hL.mod hp.symm
    · have hf' : fr = s.length := by omega
      rw [if_pos (by rw [hf', Nat.sub_self, List.take_zero])] at hp
      rw [← hp] at hk
      exact hk sl S1 hL.mod hL.p hs
abbrev boxesP (b5 b4 bC b3 b2 b1 : Nat) (st : DObj) (r : List UInt8) (n : Nat) (sl : Sl) : List (Nat × DObj) :=
  [(b5, st), (b4, .deferred), (bC, .cells [strV r] none false none), (b3, .cells [.int .i64 0] none false none), (b2, .cells [.int .i64 (n : Int)] none false none), (b1, .cells [.slice sl.a sl.len sl.cap] none false none)]
set_option maxHeartbeats 1000000 in
theorem s21 {S : St} {s : List UInt8} {k : Value → St → Prop} (g : Gl S) (hlen : s.length ≤ 100000)
    (hk : ∀ sl S', Ext S S' → GrX cellsO 6 0 S' sl (parseP s).1 → (∀ c, slO sl c → S.next ≤ c) → k (.tuple #[.slice sl.a sl.len sl.cap, .int .i64 (parseP s).2.1, .int .i64 (parseP s).2.2]) S') : WC E0 21 [strV s] S k := by
  refine w21 s ?_
  unfold c21
  have h0 : GrX cellsO 6 0 S ⟨none, 0, 0⟩ [] := .inl ⟨rfl, rfl⟩
  have hL := Cx.start (S := S) noB h0 grX_frm (fun c hc => grX_lt h0 hc)
  refine hL.new fun b1 S1 hL _ _ => ?_
  refine hL.new fun b2 S2 hL _ _ => ?_
  refine hL.new fun b3 S3 hL _ _ => ?_
  refine evC_of (w58 _ ?_)
  unfold c58
  refine hL.new fun bC S4 hL _ _ => ?_
  refine ⟨_, rfl, ?_⟩
  refine hL.new fun b4 S5 hL _ _ => ?_
  rintro b5 S6 L rfl rfl hLL hR
  have hL := hL.record (o := L .ready none)
  generalize (S5.alloc (L .ready none)).2 = S6 at hL ⊢
  generalize hb5 : S5.next = b5 at hL hR ⊢
  refine WG_of rfl (s93 (fun r S' => ∃ (n : Nat) (acc : List Ord) (sl : Sl), Cx noB S S' (boxesP b5 b4 bC b3 b2 b1 (L .ready none) r n sl) (slO sl) (fun S => GrX cellsO 6 0 S sl acc) ∧ (∀ c, slO sl c → S.next ≤ c) ∧ parA [] acc n r = parseP s ∧ n + r.length ≤ s.length ∧ acc.length = n)
    (by omega) ⟨0, [], ⟨none, 0, 0⟩, hL, (fun c hc => by obtain ⟨o, hc⟩ := hc; cases hc), rfl, by omega, rfl⟩ (fun r S' ⟨n, acc, sl, hL, _⟩ => hL.at 2 rfl) ?_ ?_)
  · rintro one rest S' S7 ⟨n, acc, sl, hL, hs, hp, hn, hac⟩ h1 horl hor ha m hnx'
    refine hR one S7 _ ?_
    have hL := hL.set 2 (o' := .cells [strV rest] none false none) rfl m ha
    rw [List.length_append] at hn horl
    have hol : 0 < one.length := List.length_pos_iff.2 h1
    obtain ⟨u, hu, hun⟩ : ∃ u, (one = u ++ [10] ∨ (one = u ∧ 10 ∉ u)) ∧ 10 ∉ u := by
      rcases hor with ⟨u, h, h'⟩ | ⟨_, h'⟩
      · exact ⟨u, .inl h, h'⟩
      · exact ⟨one, .inr ⟨rfl, h'⟩, h'⟩
    have hul : u.length ≤ one.length := by
      rcases hu with h | ⟨h, _⟩
      · rw [h, List.length_append]; omega
      · rw [h]; exact Nat.le_refl _
    (first | refine hL.has 0 rfl ?_ | refine hL.has 1 rfl ?_ | refine hL.has 2 rfl ?_ | refine hL.has 3 rfl ?_ | refine hL.has 4 rfl ?_ | refine hL.has 5 rfl ?_ | refine hL.has 6 rfl ?_ | refine hL.has 7 rfl ?_)
    (first | refine hL.has 0 rfl ?_ | refine hL.has 1 rfl ?_ | refine hL.has 2 rfl ?_ | refine hL.has 3 rfl ?_ | refine hL.has 4 rfl ?_ | refine hL.has 5 rfl ?_ | refine hL.has 6 rfl ?_ | refine hL.has 7 rfl ?_)
    refine hL.upd 0 rfl fun S8 hL _ => ?_
    refine hL.ld 4 rfl (by kernel_rfl) ((n : Nat) : Int) rfl ?_
    rw [wrap_succ (by omega)]
    refine hL.st 4 _ rfl (by kernel_rfl) rfl (Nat.le_of_ble_eq_true rfl) rfl rfl fun S9 hL _ => ?_
    refine evC_of (s59 h1 (by omega) hu ⟨u, rfl, ?_⟩)
    refine evC_of (s13 (g.ext hL.mod) (by omega) fun S11 e11 => ⟨((rdL u).1, (rdL u).2), by rw [read_same]; rfl, ?_⟩)
    have hL := hL.ext e11
    have hx : OrdW (rdL u).1 := rdL_w
    have h2 := rdL_2 u
    have hpl : ∀ v, one = v ++ [10] → parseP s = if (rdL u).2 ≠ 0 ∨ 10000 < n + 1 then ([], ((n + 1 : Nat) : Int), 230) else parA [] (acc ++ [(rdL u).1]) (n + 1) rest := by
      intro v hv
      have hvu : one = u ++ [10] := by
        rcases hu with h | ⟨h, h'⟩
        · exact h
        · exact (h' (by rw [← h, hv]; simp)).elim
      rw [← hp, hvu, parA_line u acc n rest hun]
    have hpn : (¬ ∃ v, one = v ++ [10]) → parseP s = ([], ((n + 1 : Nat) : Int), 230) := by
      intro hno
      rcases hor with ⟨v, h, _⟩ | ⟨h, h'⟩
      · exact (hno ⟨v, h⟩).elim
      · rw [← hp, h, List.append_nil, parA_last one acc n h' h1]
    generalize (rdL u).1 = x at hx hpl ⊢
    generalize (rdL u).2 = y at h2 hpl ⊢
    refine hL.new fun b6 S12 hL _ _ => ?_
    refine hL.st 0 _ rfl (by kernel_rfl) rfl (Nat.le_of_ble_eq_true rfl) rfl rfl fun S13 hL _ => ?_
    intro k3 hk3
    have key : ∀ t : Bool, (t = true → parseP s = ([], ((n + 1 : Nat) : Int), 230)) → (t = false → parA [] (acc ++ [x]) (n + 1) rest = parseP s) → k3 t S13 := by
      intro t ht1 ht2
      refine hk3 _ _ ?_
      refine ifW_of (fun hb => ?_) fun hb => ?_
      · have hps := ht1 hb
        refine hL.ld 5 rfl (by kernel_rfl) (((n + 1 : Nat)) : Int) rfl ?_
        refine hL.st 6 _ rfl (by kernel_rfl) rfl (Nat.le_of_ble_eq_true rfl) rfl rfl fun S15 hL _ => ?_
        refine hL.ld 5 rfl (by kernel_rfl) (((n + 1 : Nat)) : Int) rfl ?_
        refine sameV_of ?_
        refine hL.st 5 _ rfl (by kernel_rfl) rfl (Nat.le_of_ble_eq_true rfl) rfl rfl fun S16 hL _ => ?_
        refine hL.st 4 _ rfl (by kernel_rfl) rfl (Nat.le_of_ble_eq_true rfl) rfl rfl fun S17 hL _ => ?_
        refine hL.has 1 rfl ?_
        refine hL.upd 1 rfl fun S18 hL _ => ?_
        refine ⟨fun h => (by cases h), fun _ => .inr (.inl ?_)⟩
        refine hL.has 1 rfl ?_
        refine hL.upd 1 rfl fun S19 hL _ => ?_
        refine hL.has 2 rfl ?_
        refine hL.upd 2 rfl fun S20 hL _ => ?_
        refine hL.ld 6 rfl (by kernel_rfl) (⟨none, 0, 0⟩ : Sl) rfl ?_
        refine hL.ld 5 rfl (by kernel_rfl) (((n + 1 : Nat)) : Int) rfl ?_
        refine hL.ld 4 rfl (by kernel_rfl) (230 : Int) rfl ?_
        have := hk ⟨none, 0, 0⟩ S20 hL.mod (by rw [hps]; exact .inl ⟨rfl, rfl⟩) (fun c hc => by obtain ⟨o, hc⟩ := hc; cases hc)
        rw [hps] at this
        exact this
      · have hps := ht2 hb
        refine hL.ld 6 rfl (by kernel_rfl) sl rfl ?_
        refine hL.lda 0 rfl (by kernel_rfl) x rfl ?_
        refine hL.new fun b7 S19 hL _ _ => ?_
        have hnx := hL.mod.next
        refine app_ord (s := sl) hL.p (hL.at 0 rfl) (by omega) fun s' S20 g' m hs' => ?_
        have hL := hL.op m (fun _ h => h) (fun c hc hlt => by have := hs c hc; omega) g' grX_frm hs' (fun c hc => grX_lt g' hc)
        refine hL.st 7 _ rfl (by kernel_rfl) rfl (Nat.le_of_ble_eq_true rfl) rfl rfl fun S21 hL _ => ?_
        refine hL.has 2 rfl ?_
        refine hL.upd 2 rfl fun S22 hL _ => ?_
        refine ⟨fun _ => ⟨n + 1, acc ++ [x], s', hL.tl 2, fun c hc => (hs' c hc).elim (hs c) fun h => by omega, hps, by omega, by simp; omega⟩, fun h => by cases h⟩
    refine ifW_ndec (fun hy => ?_) fun hy => ?_
    · have hy : ¬ y = 0 := hy
      refine key true (fun _ => ?_) (fun h => by cases h)
      by_cases hv : ∃ v, one = v ++ [10]
      · obtain ⟨v, hv⟩ := hv
        rw [hpl v hv, if_pos (.inl hy)]
      · exact hpn hv
    have hy : y = 0 := hy
    refine hL.ld 5 rfl (by kernel_rfl) (((n + 1 : Nat)) : Int) rfl ?_
    refine ifW_dec (fun hn1 => ?_) fun hn1 => ?_
    · refine key true (fun _ => ?_) (fun h => by cases h)
      by_cases hv : ∃ v, one = v ++ [10]
      · obtain ⟨v, hv⟩ := hv
        rw [hpl v hv, if_pos (.inr (by omega))]
      · exact hpn hv
    refine evC_of (s60 h1 (by omega) fun t ht => ⟨t, rfl, ?_⟩)
    refine key _ (fun h => ?_) (fun h => ?_)
    · exact hpn fun hv => by rw [ht.2 hv] at h; cases h
    · have hv : ∃ v, one = v ++ [10] := ht.1 (by simpa using h)
      obtain ⟨v, hv⟩ := hv
      rw [hpl v hv, if_neg (fun h => h.elim (fun h => h hy) (fun h => by omega))]
  · rintro S' ⟨n, acc, sl, hL, hs, hp, hn, hac⟩
    left
    rw [parA, if_pos rfl] at hp
    refine hL.has 0 rfl ?_
    refine hL.upd 0 rfl fun S25 hL _ => ?_
    refine hL.ld 5 rfl (by kernel_rfl) sl rfl ?_
    refine hL.st 5 _ rfl (by kernel_rfl) rfl (Nat.le_of_ble_eq_true rfl) rfl rfl fun S26 hL _ => ?_
    refine hL.st 4 _ rfl (by kernel_rfl) rfl (Nat.le_of_ble_eq_true rfl) rfl rfl fun S27 hL _ => ?_
    refine hL.st 3 _ rfl (by kernel_rfl) rfl (Nat.le_of_ble_eq_true rfl) rfl rfl fun S28 hL _ => ?_
    refine hL.has 1 rfl ?_
    refine hL.upd 1 rfl fun S29 hL _ => ?_
    refine hL.ld 5 rfl (by kernel_rfl) sl rfl ?_
    refine hL.ld 4 rfl (by kernel_rfl) (0 : Int) rfl ?_
    refine hL.ld 3 rfl (by kernel_rfl) (0 : Int) rfl ?_
    rw [← hp] at hk
    exact hk sl S29 hL.mod hL.p hs
end
end Go.Proofs.YtabbbfdlgmoniaaDoor

/- Orders: the law of texts; an order from its line, a script from its text, and back. -/
namespace Go.Proofs.YtabbbfdlgmoniaaDoor
open Go Go.Proofs.YtabbbfdlgmoniaaDoor.D
set_option linter.unusedVariables false
set_option linter.unusedSimpArgs false
noncomputable section

theorem parA_len : ∀ (r cur : List UInt8) (acc : List Ord) (n : Nat), (parA cur acc n r).1.length ≤ acc.length + r.length
  | [], cur, acc, n => by unfold parA; split <;> simp
  | c :: r, cur, acc, n => by
    unfold parA
    split
    · split
      · simp
      · have := parA_len r [] (acc ++ [(rdL cur).1]) (n + 1)
        simp at this ⊢; omega
    · have := parA_len r (cur ++ [c]) acc n
      simp at this ⊢; omega
theorem parse_len (s : List UInt8) : (parseP s).1.length ≤ s.length := by
  have := parA_len s [] [] 0
  unfold parseP
  simpa using this
theorem parA_w : ∀ (r cur : List UInt8) (acc : List Ord) (n : Nat), (∀ x ∈ acc, OrdW x) → ∀ x ∈ (parA cur acc n r).1, OrdW x
  | [], cur, acc, n, h => by
    unfold parA
    split
    · exact h
    · intro x hx; cases hx
  | c :: r, cur, acc, n, h => by
    unfold parA
    split
    · split
      · intro x hx; cases hx
      · refine parA_w r [] (acc ++ [(rdL cur).1]) (n + 1) fun x hx => ?_
        rcases List.mem_append.1 hx with hx | hx
        · exact h x hx
        · rw [List.mem_singleton.1 hx]; exact rdL_w
    · exact parA_w r (cur ++ [c]) acc n h
theorem parse_w (s : List UInt8) : ∀ x ∈ (parseP s).1, OrdW x := parA_w s [] [] 0 (by simp)
/-- The law: texts. -/
theorem s5 {S : St} {s : Sl} {l : List Ord} {t : List UInt8} (g : Gl S) (h : SlOf cellsO 6 S s l) (hw : ∀ x ∈ l, OrdW x) : WC E0 5 [.slice s.a s.len s.cap, strV t] S fun v _ => v = .bool true := by
  refine w5 s t ?_
  unfold c5
  have hl := h.len
  refine ifW_dec (fun _ => rfl) fun hlt => ?_
  refine ifW_dec (fun _ => rfl) fun htl => ?_
  refine evC_of (s19 g h hw fun S1 e1 => ⟨((textP l).1, (textP l).2), rfl, ?_⟩)
  refine evC_of (s20 (Ext.slOf e1 h) hw fun S2 e2 => ⟨((textP l).1, (textP l).2), rfl, ?_⟩)
  have e2 : Ext S S2 := e1.tr e2
  have ht : t.length ≤ 6000 := by omega
  refine evC_of (s21 (g.ext e2) (by omega) fun sl S3 e3 g3 h3 => ⟨(sl, (parseP t).2.1, (parseP t).2.2), rfl, ?_⟩)
  refine evC_of (s22 (by omega) fun sl' S4 e4 g4 h4 => ⟨(sl', (parseP t).2.1, (parseP t).2.2), rfl, ?_⟩)
  refine ifW_of (fun _ => ?_) fun h => by simp at h
  refine ifW_pos rfl ?_
  have g3' : GrX cellsO 6 0 S4 sl (parseP t).1 := Mod.grX e4 g3 fun _ _ _ h => h
  have hpl := parse_len t
  refine evC_of (s23 (GrX.of (f := cellsO) (sz := 6) (fun _ => rfl) g3') (GrX.of (f := cellsO) (sz := 6) (fun _ => rfl) g4) (by omega) ⟨_, rfl, ?_⟩)
  refine ifW_pos rfl ?_
  refine ifW_pos rfl ?_
  rw [eqI_eq]
  simp
/-! ### There and back -/
theorem nm_10 (k : Int) : (10 : UInt8) ∉ nmL k := by
  unfold nmL
  split
  · rename_i h
    have : ∀ n : Nat, n ≤ 9 → (10 : UInt8) ∉ tabW.getD n [] := by decide
    exact this k.toNat (by omega)
  · simp
theorem dec_10 (n : Nat) : (10 : UInt8) ∉ dec n := fun h => by have := dec_dig n _ h; unfold digB at this; simp at this
theorem itoa_10 (n : Int) : (10 : UInt8) ∉ Lib.itoa n := by
  unfold Lib.itoa
  split
  · intro h
    rcases List.mem_cons.1 h with h | h
    · cases h
    · exact dec_10 _ h
  · exact dec_10 _
theorem jn_10 : ∀ (l : List (List UInt8)), (∀ w ∈ l, (10 : UInt8) ∉ w) → (10 : UInt8) ∉ jn l
  | [], _ => by simp [jn, Lib.join_nil]
  | [w], h => by rw [jn_one]; exact h w (by simp)
  | w :: v :: r, h => by
    have ih := jn_10 (v :: r) fun x hx => h x (by simp [hx])
    have h0 := h w (by simp)
    rw [jn_cons]
    intro hm
    rcases List.mem_append.1 hm with hm | hm
    · exact h0 hm
    · rcases List.mem_cons.1 hm with hm | hm
      · cases hm
      · exact ih hm
theorem line_10 (x : Ord) : (10 : UInt8) ∉ lineL x := by
  refine jn_10 _ fun w hw => ?_
  unfold wordsO at hw
  rcases List.mem_cons.1 hw with rfl | hw
  · exact nm_10 _
  · obtain ⟨c, _, rfl⟩ := List.mem_map.1 hw
    unfold wordO
    repeat' split
    all_goals first | exact itoa_10 _ | exact dec_10 _ | decide
theorem rd_line {x : Ord} (h : mayP x) (hw : OrdW x) : rdL (lineL x) = (x, 0) := by
  unfold rdL
  rw [← read_same, read_line h hw]
theorem parA_text : ∀ (l : List Ord) (acc : List Ord) (n : Nat), (∀ x ∈ l, mayP x) → (∀ x ∈ l, OrdW x) → n + l.length ≤ 10000 → parA [] acc n (textL l) = (acc ++ l, 0, 0)
  | [], acc, n, _, _, _ => by simp [textL, parA]
  | x :: l, acc, n, hm, hw, hn => by
    have e : textL (x :: l) = lineL x ++ [10] ++ textL l := by simp [textL]
    rw [List.length_cons] at hn
    rw [e, parA_line _ _ _ _ (line_10 x), rd_line (hm x List.mem_cons_self) (hw x List.mem_cons_self), if_neg (fun h => h.elim (fun h => h rfl) (fun h => by omega)),
      parA_text l _ _ (fun y hy => hm y (List.mem_cons_of_mem _ hy)) (fun y hy => hw y (List.mem_cons_of_mem _ hy)) (by omega)]
    simp
theorem parse_text {l : List Ord} (hm : ∀ x ∈ l, mayP x) (hw : ∀ x ∈ l, OrdW x) (hn : l.length ≤ 10000) : parseP (textL l) = (l, 0, 0) := by
  unfold parseP
  rw [parA_text l [] 0 hm hw (by omega), List.nil_append]
theorem rd_ok {s : List UInt8} (h : (rdL s).2 = 0) : mayP (rdL s).1 ∧ lineL (rdL s).1 = s := by
  unfold rdL readP at h ⊢
  by_cases hc : mayP (candB s) ∧ lineL (candB s) = s
  · rw [if_pos hc]; exact hc
  · rw [if_neg hc] at h; cases h
theorem parA_back : ∀ (r cur : List UInt8) (acc : List Ord) (n : Nat), (∀ x ∈ acc, mayP x) → acc.length = n → n ≤ 10000 → (parA cur acc n r).2.2 = 0 → (∀ x ∈ (parA cur acc n r).1, mayP x) ∧ textL (parA cur acc n r).1 = textL acc ++ (cur ++ r) ∧ (parA cur acc n r).1.length ≤ 10000
  | [], cur, acc, n, hm, ha, hn => by
    unfold parA
    split
    · rename_i h
      intro _
      exact ⟨hm, by simp [h], by show acc.length ≤ 10000; omega⟩
    · intro h; cases h
  | c :: r, cur, acc, n, hm, ha, hn => by
    unfold parA
    split
    · rename_i hc
      split
      · intro h; cases h
      · rename_i hb
        have h2 : (rdL cur).2 = 0 := Classical.byContradiction fun h => hb (.inl h)
        have hn2 : ¬ 10000 < n + 1 := fun h => hb (.inr h)
        obtain ⟨h3, h4⟩ := rd_ok h2
        intro h
        obtain ⟨k1, k2, k3⟩ := parA_back r [] (acc ++ [(rdL cur).1]) (n + 1) (fun x hx => by
          rcases List.mem_append.1 hx with hx | hx
          · exact hm x hx
          · rw [List.mem_singleton.1 hx]; exact h3) (by simp [ha]) (by omega) h
        refine ⟨k1, ?_, k3⟩
        rw [k2, textL_snoc, h4, hc]
        simp
    · intro h
      obtain ⟨k1, k2, k3⟩ := parA_back r (cur ++ [c]) acc n hm ha hn h
      exact ⟨k1, by rw [k2]; simp, k3⟩
theorem parse_back {s : List UInt8} (h : (parseP s).2.2 = 0) : textP (parseP s).1 = (s, 0) := by
  obtain ⟨k1, k2, k3⟩ := parA_back s [] [] 0 (by simp) rfl (by omega) h
  unfold parseP
  unfold textP
  rw [if_pos ⟨k3, k1⟩, k2]
  simp [textL]
theorem parA_bad : ∀ (r cur : List UInt8) (acc : List Ord) (n : Nat), (parA cur acc n r).2.2 ≠ 0 → (parA cur acc n r).1 = []
  | [], cur, acc, n => by
    unfold parA
    split
    · intro h; exact (h rfl).elim
    · intro _; rfl
  | c :: r, cur, acc, n => by
    unfold parA
    split
    · split
      · intro _; rfl
      · exact parA_bad r _ _ _
    · exact parA_bad r _ _ _
end
end Go.Proofs.YtabbbfdlgmoniaaDoor

/- Orders: the law of what is read and written. -/
namespace Go.Proofs.YtabbbfdlgmoniaaDoor
open Go Go.Proofs.YtabbbfdlgmoniaaDoor.D
set_option linter.unusedVariables false
set_option linter.unusedSimpArgs false
noncomputable section

theorem textP_ok {l : List Ord} (h : (textP l).2 = 0) : (textP l).1 = textL l ∧ l.length ≤ 10000 ∧ ∀ x ∈ l, mayP x := by
  unfold textP at h ⊢
  by_cases hc : l.length ≤ 10000 ∧ ∀ x ∈ l, mayP x
  · rw [if_pos hc]; exact ⟨rfl, hc⟩
  · rw [if_neg hc] at h; cases h
theorem s6 {S : St} {x : Ord} {s : Sl} {l : List Ord} {t : List UInt8} (g : Gl S) (hx : OrdW x) (h : SlOf cellsO 6 S s l) (hw : ∀ x ∈ l, OrdW x) : WC E0 6 [sv G23 x, .slice s.a s.len s.cap, strV t] S fun v _ => v = .bool true := by
  refine w6 x s t ?_
  unfold c6
  have hl := h.len
  have hL := Hld.start noB S
  refine hL.new fun b1 S1 hL _ _ => ?_
  refine evC_of (s18 (g.ext hL.mod) fun S2 e2 => ⟨true, rfl, ?_⟩)
  have hL := hL.ext e2
  refine ifW_dec (fun _ => rfl) fun hlt => ?_
  refine ifW_dec (fun _ => rfl) fun htl => ?_
  refine ifW_of (fun h => by cases h) fun _ => ?_
  (first | refine hL.ld 0 rfl (by kernel_rfl) _ rfl ?_ | refine hL.ld 1 rfl (by kernel_rfl) _ rfl ?_ | refine hL.ld 2 rfl (by kernel_rfl) _ rfl ?_ | refine hL.ld 3 rfl (by kernel_rfl) _ rfl ?_ | refine hL.ld 4 rfl (by kernel_rfl) _ rfl ?_ | refine hL.ld 5 rfl (by kernel_rfl) _ rfl ?_ | refine hL.ld 6 rfl (by kernel_rfl) _ rfl ?_ | refine hL.ld 7 rfl (by kernel_rfl) _ rfl ?_ | refine hL.lda 0 rfl (by kernel_rfl) _ rfl ?_ | refine hL.lda 1 rfl (by kernel_rfl) _ rfl ?_ | refine hL.lda 2 rfl (by kernel_rfl) _ rfl ?_ | refine hL.lda 3 rfl (by kernel_rfl) _ rfl ?_ | refine hL.lda 4 rfl (by kernel_rfl) _ rfl ?_ | refine hL.lda 5 rfl (by kernel_rfl) _ rfl ?_ | refine hL.lda 6 rfl (by kernel_rfl) _ rfl ?_ | refine hL.lda 7 rfl (by kernel_rfl) _ rfl ?_)
  refine evC_of (s11 (g.ext hL.mod) hx fun S3 e3 => ⟨((lineP x).1, (lineP x).2), rfl, ?_⟩)
  have hL := hL.ext e3
  have hlen : l.length ≤ 200 := by omega
  have ht : t.length ≤ 6000 := by omega
  intro k2 hk2
  have key2 : ∀ S', Ext S S' → k2 PUnit.unit S' := by
    intro S4 e4
    refine hk2 _ _ ?_
    refine evC_of (s19 (g.ext e4) (Ext.slOf e4 h) hw fun S5 e5 => ⟨((textP l).1, (textP l).2), rfl, ?_⟩)
    have e5 : Ext S S5 := e4.tr e5
    intro k1 hk1
    have key1 : ∀ S', Ext S S' → k1 PUnit.unit S' := by
      intro S6 e6
      refine hk1 _ _ ?_
      refine evC_of (s21 (g.ext e6) (by omega) fun sl S7 e7 g7 h7 => ⟨(sl, (parseP t).2.1, (parseP t).2.2), rfl, ?_⟩)
      have e7 : Ext S S7 := e6.tr e7
      refine ifW_ndec (fun hf => ?_) fun hf => ?_
      · have h0 : (parseP t).1 = [] := parA_bad t [] [] 0 hf
        have hl7 := g7.len
        rw [h0] at hl7
        refine ifW_of (fun _ => ?_) fun h => by cases h
        show Value.bool (eqI (sl.len : Int) 0) = _
        rw [hl7, eqI_eq]; simp
      · have hf : (parseP t).2.2 = 0 := hf
        refine evC_of (s19 (g.ext e7) (GrX.of (f := cellsO) (sz := 6) (fun _ => rfl) g7) (parse_w t) fun S8 e8 => ⟨((textP (parseP t).1).1, (textP (parseP t).1).2), rfl, ?_⟩)
        rw [parse_back hf]
        refine ifW_of (fun _ => ?_) fun h => by cases h
        refine ifW_pos rfl ?_
        simp
    refine ifW_dec (fun hz => ?_) fun hz => key1 _ e5
    have hz : (textP l).2 = 0 := hz
    obtain ⟨z1, z2, z3⟩ := textP_ok hz
    rw [z1]
    have hlt' := textL_len hw
    refine evC_of (s21 (g.ext e5) (by omega) fun sl S9 e9 g9 h9 => ⟨(sl, (parseP (textL l)).2.1, (parseP (textL l)).2.2), rfl, ?_⟩)
    rw [parse_text z3 hw z2] at g9 ⊢
    have e9 : Ext S S9 := e5.tr e9
    refine ifW_ndec (fun h => (h rfl).elim) fun _ => ?_
    refine evC_of (s23 (GrX.of (f := cellsO) (sz := 6) (fun _ => rfl) g9) (Ext.slOf e9 h) (by show l.length ≤ _; omega) ⟨true, by simp; rfl, ?_⟩)
    refine ifW_of (fun h => by cases h) fun _ => ?_
    exact key1 _ e9
  refine ifW_dec (fun hz => ?_) fun hz => key2 _ hL.mod
  have hz : (lineP x).2 = 0 := hz
  have hm : mayP x := by
    unfold lineP at hz
    by_cases hm : mayP x
    · exact hm
    · rw [if_neg hm] at hz; cases hz
  have hlp : lineP x = (lineL x, 0) := if_pos hm
  rw [hlp]
  have hll := line_len hx
  refine evC_of (s13 (g.ext hL.mod) (by show (lineL x).length ≤ _; omega) fun S11 e11 => ⟨((readP (candA (lineL x)) (lineL x)).1, (readP (candA (lineL x)) (lineL x)).2), rfl, ?_⟩)
  have hL := hL.ext e11
  rw [read_line hm hx]
  refine hL.new fun b2 S12 hL _ _ => ?_
  (first | refine hL.st 0 _ rfl (by kernel_rfl) rfl (Nat.le_of_ble_eq_true rfl) rfl rfl fun S13 hL hn13 => ?_ | refine hL.st 1 _ rfl (by kernel_rfl) rfl (Nat.le_of_ble_eq_true rfl) rfl rfl fun S13 hL hn13 => ?_ | refine hL.st 2 _ rfl (by kernel_rfl) rfl (Nat.le_of_ble_eq_true rfl) rfl rfl fun S13 hL hn13 => ?_ | refine hL.st 3 _ rfl (by kernel_rfl) rfl (Nat.le_of_ble_eq_true rfl) rfl rfl fun S13 hL hn13 => ?_ | refine hL.st 4 _ rfl (by kernel_rfl) rfl (Nat.le_of_ble_eq_true rfl) rfl rfl fun S13 hL hn13 => ?_ | refine hL.st 5 _ rfl (by kernel_rfl) rfl (Nat.le_of_ble_eq_true rfl) rfl rfl fun S13 hL hn13 => ?_ | refine hL.st 6 _ rfl (by kernel_rfl) rfl (Nat.le_of_ble_eq_true rfl) rfl rfl fun S13 hL hn13 => ?_ | refine hL.st 7 _ rfl (by kernel_rfl) rfl (Nat.le_of_ble_eq_true rfl) rfl rfl fun S13 hL hn13 => ?_)
  refine ifW_ndec (fun h => (h rfl).elim) fun _ => ?_
  refine hL.lda 0 rfl (by kernel_rfl) x rfl ?_
  refine hL.lda 1 rfl (by kernel_rfl) x rfl ?_
  refine ⟨true, by rw [eqOrd]; simp, ?_⟩
  refine ifW_of (fun h => by cases h) fun _ => ?_
  exact key2 _ hL.mod
end
end Go.Proofs.YtabbbfdlgmoniaaDoor
