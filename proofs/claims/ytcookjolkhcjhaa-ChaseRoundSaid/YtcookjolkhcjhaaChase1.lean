/- Circles and the least one: what the functions answer. -/
import Derived.Test.YtcookjolkhcjhaaC1
import Derived.Test.YtcookjolkhcjhaaD27
namespace Go.Proofs.Ytcookjolkhcjhaa
open Go Go.Proofs.Ytcookjolkhcjhaa.D
set_option linter.unusedVariables false
noncomputable section

theorem inf3 : E0.inf 3 = some DEnv.i3 := by kernel_rfl
theorem agg3 : aggD DEnv.i3.und = false := by kernel_rfl
theorem inf37 : E0.inf 37 = some DEnv.i37 := by kernel_rfl
theorem agg37 : aggD DEnv.i37.und = false := by kernel_rfl
theorem und37 : E0.und 37 = some (.slice 3) := by kernel_rfl
theorem inf88 : E0.inf 88 = some DEnv.i88 := by kernel_rfl
theorem agg88 : aggD DEnv.i88.und = false := by kernel_rfl
theorem inf4 : E0.inf 4 = some DEnv.i4 := by kernel_rfl
theorem agg4 : aggD DEnv.i4.und = false := by kernel_rfl

abbrev intV (n : Int) : Value := .int .i64 n
abbrev Ints (S : St) (s : Sl) (l : List Int) : Prop := SlOf (fun n => [intV n]) 1 S s l
abbrev GInts (N : Nat) (S : St) (s : Sl) (l : List Int) : Prop := Gr (fun n => [intV n]) 1 N S s l

/-! ### The least -/
def prio (ps : List Int) (r : Int) : Int := if 0 ≤ r then (ps[r.toNat]?).getD 0 else 0
theorem prio_neg {ps : List Int} {r : Int} (h : r < 0) : prio ps r = 0 := by rw [prio, if_neg (by omega)]
theorem prio_out {ps : List Int} {r : Int} (h : (ps.length : Int) ≤ r) : prio ps r = 0 := by
  unfold prio
  split
  · rw [List.getElem?_eq_none (by omega)]; rfl
  · rfl
theorem prio_in {ps : List Int} {r : Int} (h : 0 ≤ r) (h1 : r < (ps.length : Int)) : prio ps r = ps[r.toNat]'(by omega) := by
  rw [prio, if_pos h, List.getElem?_eq_getElem (by omega)]; rfl
def less (ps : List Int) (a b : Int) : Prop := prio ps a < prio ps b ∨ prio ps a = prio ps b ∧ a < b
instance (ps : List Int) (a b : Int) : Decidable (less ps a b) := by unfold less; exact inferInstance
def cmpP (ps : List Int) (a b : Int) : Int := if less ps a b then -1 else if prio ps a = prio ps b ∧ a = b then 0 else 1
theorem cmpP_neg {ps : List Int} {a b : Int} : cmpP ps a b < 0 ↔ less ps a b := by
  unfold cmpP
  split
  · simpa
  · rename_i h
    split <;> simp [h]
def least (ps : List Int) : List Int → Int
  | [] => -1
  | r :: l => l.foldl (fun m r => if less ps r m then r else m) r
theorem least_snoc (ps : List Int) {l : List Int} (h : l ≠ []) (r : Int) : least ps (l ++ [r]) = if less ps r (least ps l) then r else least ps l := by
  cases l with
  | nil => exact (h rfl).elim
  | cons x l => simp only [least, List.cons_append, List.foldl_append, List.foldl_cons, List.foldl_nil]; rfl

theorem s46 {r : Int} {c : Nat} {S : St} {ps : Sl} {l : List Int} {k : Value → St → Prop} (h : At S c (.cells [.slice ps.a ps.len ps.cap] none false none)) (hp : Ints S ps l) (hk : k (intV (prio l r)) S) :
    WC E0 46 [intV r, .pointer (some ⟨c, 0, none⟩)] S k := by
  refine w46 r c ?_
  unfold c46
  refine ifW_dec (fun h0 => ?_) fun h0 => evV_of ps (loadV_one h.get inf37 agg37 rfl) (ifW_dec (fun h1 => ?_) fun h1 => evV_of ps (loadV_one h.get inf37 agg37 rfl) ?_)
  · rw [prio_neg h0] at hk; exact hk
  · rw [prio_out (by have := hp.len; omega)] at hk; exact hk
  · have hlt : r < (l.length : Int) := by have := hp.len; omega
    refine hp.get1 (g := intV) inf3 agg3 (by omega) hlt fun b o hl _ => evV_of _ (hl S rfl) ?_
    rw [prio_in (by omega) hlt] at hk
    exact hk
theorem s48 {a b : Int} {c c1 : Nat} {S : St} {ps : Sl} {l : List Int} {k : Value → St → Prop} (h : At S c1 (.cells [.slice ps.a ps.len ps.cap] none false none)) (hp : Ints S ps l)
    (hc : At S c (.cells [.func (.func 46) #[] #[.pointer (some ⟨c1, 0, none⟩)]] none false none)) (hk : ∀ S', Ext S S' → k (intV (cmpP l a b)) S') :
    WC E0 48 [intV a, intV b, .pointer (some ⟨c, 0, none⟩)] S k := by
  refine w48 a b c ?_
  unfold c48
  refine evV_of _ (loadV_one hc.get inf88 agg88 rfl) (setLowW_of fun S1 hS1 hn1 hl1 => ?_)
  have e1 : Ext S S1 := ⟨by omega, fun b _ _ => by rw [hS1], fun lim h1 h2 _ => by omega⟩
  refine evY_func (evC_of (s46 (e1.at h) (e1.slOf hp) ⟨prio l a, rfl, ?_⟩))
  refine ⟨Nat.ble_eq_true_of_le (by omega), setLowW_of fun S3 hS3 hn3 hl3 => ?_⟩
  have hl3 : S3.low = min S.low S.next := hl3
  have e3 : Ext S S3 := ⟨by omega, fun b _ _ => by rw [hS3, hS1], fun lim h1 h2 _ => by omega⟩
  refine needB_iff.2 ⟨by simpa [vlow, Nat.blt] using Nat.ble_eq_true_of_le hc.lt, evV_of _ (loadV_one (e3.at hc).get inf88 agg88 rfl) ?_⟩
  refine evY_func (evC_of (s46 (e3.at h) (e3.slOf hp) ⟨prio l b, rfl, ?_⟩))
  have hk := hk S3 e3
  have c1 : less l a b → k (intV (-1)) S3 := fun h => by rw [cmpP, if_pos h] at hk; exact hk
  have c2 : ¬ less l a b → prio l a = prio l b → a = b → k (intV 0) S3 := fun h h1 h2 => by rw [cmpP, if_neg h, if_pos ⟨h1, h2⟩] at hk; exact hk
  have c3 : ¬ less l a b → ¬ (prio l a = prio l b ∧ a = b) → k (intV 1) S3 := fun h h1 => by rw [cmpP, if_neg h, if_neg h1] at hk; exact hk
  intro k1 hk1
  refine ifW_dec (fun h0 => hk1 _ _ (c1 (.inl h0))) fun h0 => ifW_dec (fun h1 => hk1 _ _ ?_) fun h1 => hk1 _ _ ?_
  · refine ifW_dec (fun h2 => c1 (.inr ⟨h1, h2⟩)) fun h2 => ifW_pos h1 (ifW_dec (fun h3 => c2 ?_ h1 h3) fun h3 => c3 ?_ fun h => h3 h.2)
    · rintro (h | h)
      · exact h0 h
      · exact h2 h.2
    · rintro (h | h)
      · exact h0 h
      · exact h2 h.2
  · refine ifW_neg h1 (c3 ?_ fun h => h1 h.1)
    rintro (h | h)
    · exact h0 h
    · exact h1 h.1
theorem s47 {x : Sl} {f : Value} {S : St} {ps l : List Int} {k : Value → St → Prop} (hx : Ints S x l) (hl : l ≠ []) (hb : l.length ≤ 1000000)
    (hc : ∀ (a b : Int) (S' : St) (K : Int → St → Prop), Ext S S' → (∀ S'', Ext S' S'' → K (cmpP ps a b) S'') → evY E0 tI f [intV a, intV b] S' K) (hk : ∀ S', Ext S S' → k (intV (least ps l)) S') :
    WC E0 47 [.slice x.a x.len x.cap, f] S k := by
  refine w47 x f ?_
  unfold c47
  intro k2 hk2
  have hlen := hx.len
  have hpos : 0 < l.length := List.length_pos_iff.2 hl
  refine ifW_neg (by omega) (hk2 _ _ ?_)
  refine hx.get1 (g := intV) inf3 agg3 (by omega) (by omega) fun b o hld _ => evV_of _ (hld S rfl) ?_
  refine loopW_ind (fun m x S' => ∃ n : Nat, x.2 = n ∧ 1 ≤ n ∧ n ≤ l.length ∧ m = l.length - n ∧ x.1 = least ps (l.take n) ∧ Ext S S') (m := l.length - 1) ⟨1, rfl, by omega, by omega, rfl, ?_, Mod.refl _ _⟩ ?_
  · cases l with
    | nil => exact (hl rfl).elim
    | cons y l => simp [least]
  · rintro P m ⟨mv, i⟩ S' ⟨n, hi, h1, h2, rfl, hm, e⟩ hP
    dsimp only at hi hm ⊢
    subst hi hm
    refine ifW_dec (fun hlt => ?_) fun hlt => ?_
    · have hn : n < l.length := by omega
      have hx' := e.slOf hx
      have hsn : least ps (l.take (n + 1)) = if less ps l[n] (least ps (l.take n)) then l[n] else least ps (l.take n) := by
        rw [List.take_succ_eq_append_getElem hn, least_snoc]
        intro hh
        have := congrArg List.length hh
        rw [List.length_take, List.length_nil] at this
        omega
      refine hx'.get1n (g := intV) inf3 agg3 hn fun b o hld _ => evV_of _ (hld S' rfl) ?_
      refine hc _ _ _ _ e fun S'' e' => ?_
      have e2 := e.tr e'
      rw [wrap_succ (by omega)]
      refine ifW_dec (fun h3 => ?_) fun h3 => ?_
      · refine (e2.slOf hx).get1n (g := intV) inf3 agg3 hn fun b o hld _ => evV_of _ (hld S'' rfl) ?_
        refine hP (l.length - (n + 1)) _ _ (by omega) ⟨n + 1, rfl, by omega, by omega, rfl, ?_, e2⟩
        rw [hsn, if_pos (cmpP_neg.1 h3)]
      · refine hP (l.length - (n + 1)) _ _ (by omega) ⟨n + 1, rfl, by omega, by omega, rfl, ?_, e2⟩
        rw [hsn, if_neg fun hh => h3 (cmpP_neg.2 hh)]
    · have : n = l.length := by omega
      subst this
      rw [List.take_length]
      exact hk S' e
theorem s18 {ps rs : Sl} {S : St} {l m : List Int} {k : Value → St → Prop} (hp : Ints S ps l) (hr : Ints S rs m) (hb : m.length ≤ 1000000) (hk : ∀ S', Ext S S' → k (intV (least l m)) S') :
    WC E0 18 [.slice ps.a ps.len ps.cap, .slice rs.a rs.len rs.cap] S k := by
  refine w18 ps rs ?_
  unfold c18
  refine newW_of fun b1 S1 hb1 ha1 e1 hn1 => ?_
  have hlen := hr.len
  refine ifW_dec (fun h0 => ?_) fun h0 => newW_of fun b2 S2 hb2 ha2 e2 hn2 => ?_
  · have : m = [] := List.length_eq_zero_iff.1 (by omega)
    subst this
    exact hk S1 e1
  · refine evS_box ha2 inf88 (by kernel_rfl) (by simp) rfl rfl fun S3 ha3 e3 hn3 => ?_
    have e12 : Ext S S2 := e1.tr e2
    have e13 : Ext S1 S3 := e2.ext e3 fun b h => by omega
    have eS3 : Ext S S3 := e1.tr e13
    have h1 := e13.at ha1
    refine evC_of (s47 (ps := l) (eS3.slOf hr) (by rintro rfl; simp at hlen; omega) hb (fun a b S' K e hK => ?_) fun S' e => ⟨_, rfl, hk S' (eS3.tr e)⟩)
    exact evY_func (evC_of (s48 (e.at h1) ((eS3.tr e).slOf hp) (e.at ha3) fun S'' e' => ⟨_, rfl, hK S'' e'⟩))
theorem s19 {ps rs : Sl} {S : St} {l m : List Int} {k : Value → St → Prop} (hp : Ints S ps l) (hr : Ints S rs m) (hb : m.length ≤ 1000000) (hk : k (intV (least l m)) S) :
    WC E0 19 [.slice ps.a ps.len ps.cap, .slice rs.a rs.len rs.cap] S k := by
  refine w19 ps rs ?_
  unfold c19
  have hlen := hr.len
  have hlp := hp.len
  refine loopW_ind (fun q x S' => ∃ n : Nat, x.2.2 = n ∧ n ≤ m.length ∧ q = m.length - n ∧ x.1 = least l (m.take n) ∧ (n ≠ 0 → x.2.1 = prio l (least l (m.take n))) ∧ S' = S) (m := m.length) ⟨0, rfl, by omega, rfl, by simp [least], fun h => (h rfl).elim, rfl⟩ ?_
  rintro P q ⟨out, best, i⟩ S' ⟨n, hi, h1, rfl, ho, hbst, rfl⟩ hP
  dsimp only at hi ho hbst ⊢
  subst hi ho
  refine ifW_dec (fun hlt => ?_) fun hlt => ?_
  · have hn : n < m.length := by omega
    refine hr.get1n (g := intV) inf3 agg3 hn fun b o hld _ => evV_of _ (hld S' rfl) ?_
    rw [wrap_succ (by omega)]
    intro k2 hk2
    have key : k2 (prio l m[n]) S' := by
      refine hk2 _ _ ?_
      have fin : least l (m.take (n + 1)) = m[n] → P (m[n], prio l m[n], ((n + 1 : Nat) : Int)) S' := fun e =>
        hP (m.length - (n + 1)) _ _ (by omega) ⟨n + 1, rfl, by omega, rfl, e.symm, fun _ => by rw [e], rfl⟩
      by_cases h0 : n = 0
      · subst h0
        refine ifW_pos (by simp) (fin ?_)
        cases m with
        | nil => simp at hn
        | cons y m => simp [least]
      · have hsn : least l (m.take (n + 1)) = if less l m[n] (least l (m.take n)) then m[n] else least l (m.take n) := by
          rw [List.take_succ_eq_append_getElem hn, least_snoc]
          intro hh
          have := congrArg List.length hh
          rw [List.length_take, List.length_nil] at this
          omega
        have hbst := hbst h0
        subst hbst
        have stay : ¬ less l m[n] (least l (m.take n)) → P (least l (m.take n), prio l (least l (m.take n)), ((n + 1 : Nat) : Int)) S' := fun hh =>
          hP (m.length - (n + 1)) _ _ (by omega) ⟨n + 1, rfl, by omega, rfl, by rw [hsn, if_neg hh], fun _ => by rw [hsn, if_neg hh], rfl⟩
        have go : less l m[n] (least l (m.take n)) → least l (m.take (n + 1)) = m[n] := fun hh => by rw [hsn, if_pos hh]
        refine ifW_neg (by omega) (ifW_dec (fun h2 => fin (go (.inl h2))) fun h2 => ifW_dec (fun h3 => ifW_dec (fun h4 => fin (go (.inr ⟨h3, h4⟩))) fun h4 => stay ?_) fun h3 => stay ?_)
        · unfold less
          rintro (h | h)
          · exact h2 h
          · exact h4 h.2
        · unfold less
          rintro (h | h)
          · exact h2 h
          · exact h3 h.1
    intro k3 hk3
    have key2 : ∀ t, (t = true ↔ 0 ≤ m[n] ∧ m[n] < (l.length : Int)) → k3 t S' := by
      intro t ht
      refine hk3 _ _ (ifW_of (fun hh => ?_) fun hh => ?_)
      · have := ht.1 hh
        refine hp.get1 (g := intV) inf3 agg3 (by omega) (by omega) fun b o hld _ => evV_of _ (hld S' rfl) ?_
        rw [prio_in this.1 this.2] at key
        exact key
      · have hno : ¬ (0 ≤ m[n] ∧ m[n] < (l.length : Int)) := fun h => by rw [ht.2 h] at hh; cases hh
        have : prio l m[n] = 0 := by
          by_cases hz : m[n] < 0
          · exact prio_neg hz
          · exact prio_out (by omega)
        rw [this] at key
        exact key
    refine ifW_dec (fun h0 => key2 _ ?_) fun h0 => key2 _ ?_
    · rw [decide_eq_true_iff, hlp]; omega
    · simp; omega
  · have : n = m.length := by omega
    subst this
    rw [List.take_length]
    exact hk
end
end Go.Proofs.Ytcookjolkhcjhaa
