/- Parts of the proof, put together. -/
import Derived.Test.YtgdijpcopdgapaaDoorTB
import Derived.Test.YtgdijpcopdgapaaDoorCC
/- Tally: what may be a message, and a packet. -/
namespace Go.Proofs.YtgdijpcopdgapaaDoor
open Go Go.Proofs.YtgdijpcopdgapaaDoor.D
set_option linter.unusedVariables false
set_option linter.unusedSimpArgs false
noncomputable section

/-- A claim may stand where it stands. -/
def clmA (cl : List Clm) (i : Nat) : Prop := (0 ≤ (cl.getD i (0, 0)).1 ∧ (cl.getD i (0, 0)).1 ≤ 1023) ∧ (i = 0 ∨ (cl.getD (i - 1) (0, 0)).1 < (cl.getD i (0, 0)).1)
instance (cl : List Clm) (i : Nat) : Decidable (clmA cl i) := by unfold clmA; infer_instance
def numsP (m : Ms) (n : Nat) : Prop :=
  (0 ≤ m.2.1 ∧ m.2.1 ≤ 1023) ∧ (0 ≤ m.2.2.2.2.1 ∧ m.2.2.2.2.1 ≤ 15) ∧ (0 ≤ m.2.2.2.2.2.1 ∧ m.2.2.2.2.2.1 ≤ 64) ∧ (0 ≤ m.2.2.2.2.2.2.1 ∧ m.2.2.2.2.2.2.1 ≤ 63) ∧ (-1 ≤ m.2.2.2.2.2.2.2 ∧ m.2.2.2.2.2.2.2 ≤ 63) ∧ n ≤ 16
instance (m : Ms) (n : Nat) : Decidable (numsP m n) := by unfold numsP; infer_instance
/-- A message with nothing but what its kind names may be. -/
def mayM (m : Ms) (cl : List Clm) : Prop := numsP m cl.length ∧ ∀ i, i < cl.length → clmA cl i
instance (m : Ms) (cl : List Clm) : Decidable (mayM m cl) := by unfold mayM; infer_instance
def fineI (m : Ms) (cl : List Clm) (i : Nat) : Prop := numsP m cl.length ∧ ∀ j, j < i → clmA cl j
instance (m : Ms) (cl : List Clm) (i : Nat) : Decidable (fineI m cl i) := by unfold fineI; infer_instance
theorem fineI_succ {m : Ms} {cl : List Clm} {i : Nat} : fineI m cl (i + 1) ↔ fineI m cl i ∧ clmA cl i := by
  unfold fineI
  constructor
  · rintro ⟨h1, h2⟩
    exact ⟨⟨h1, fun j hj => h2 j (by omega)⟩, h2 i (by omega)⟩
  · rintro ⟨⟨h1, h2⟩, h3⟩
    refine ⟨h1, fun j hj => ?_⟩
    rcases Nat.lt_or_ge j i with h | h
    · exact h2 j h
    · rw [show j = i from by omega]; exact h3
theorem hld_tl {F : Nat → Prop} {S0 S : St} {p : Nat × DObj} {L : List (Nat × DObj)} (h : Hld F S0 S (p :: L)) : Hld F S0 S L := ⟨h.1, fun q hq => h.2 q (List.mem_cons_of_mem _ hq), (List.nodup_cons.1 (by simpa using h.3)).2⟩
theorem getD_at {α : Type} {l : List α} {i : Nat} {d : α} (h : i < l.length) : l.getD i d = l[i] := by simp [h]
set_option maxHeartbeats 2000000 in
theorem s40 {m : Ms} {s : Sl} {cl : List Clm} {S : St} (g : Gl S) (hc : SlOf encC 2 S s cl) (hl : cl.length ≤ 1000) (h1 : 1 ≤ m.1) (h2 : m.1 ≤ 11) (ho1 : (onlyP m s).1 = m) (ho2 : (onlyP m s).2 = s ∨ (onlyP m s).2 = ⟨none, 0, 0⟩ ∧ cl = []) {k : Value → St → Prop}
    (hk : ∀ S', Ext S S' → k (.int .i64 (if mayM m cl then 0 else 71)) S') : WC E0 40 [sv G53 (mv m s)] S k := by
  refine w40 (mv m s) ?_
  unfold c40
  have hL := Hld.start noB S
  refine hL.new fun b1 S1 hL _ _ => ?_
  refine ptrW_of ?_
  refine hL.ld 0 rfl (by kernel_rfl) m.1 rfl ?_
  refine evC_of (s28 ⟨_, rfl, ?_⟩)
  refine ifW_of (fun h => by simp at h; omega) fun _ => ?_
  refine hL.lda 0 rfl (by kernel_rfl) (mv m s) rfl ?_
  refine hL.lda 0 rfl (by kernel_rfl) (mv m s) rfl ?_
  refine evC_of (s54 (g.ext hL.mod) h1 h2 fun S3 e3 => ⟨_, rfl, ?_⟩)
  have hL := hL.ext e3
  refine hL.lda 0 rfl (by kernel_rfl) (mv m s) rfl ?_
  refine sameV_of ?_
  rw [ho1]
  have hs2 : SlOf encC 2 S3 (onlyP m s).2 cl := by
    rcases ho2 with h | ⟨h, rfl⟩
    · rw [h]; exact Ext.slOf hL.mod hc
    · rw [h]; exact ⟨rfl, fun h => (h rfl).elim⟩
  refine evC_of (s53 (Ext.slOf hL.mod hc) hs2 hl fun S4 e4 => ⟨true, rfl, ?_⟩)
  have hL := hL.ext e4
  refine ifW_of (fun h => by cases h) fun _ => ?_
  have hcl := hc.len
  intro k2 hk2
  have main : ∀ (t : Bool) S5, (t = true ↔ numsP m cl.length) → Hld noB S S5 [(b1, .cells (cellsM m s) none false none)] → k2 t S5 := by
    intro t S5 ht hL
    refine hk2 t S5 ?_
    refine ptrW_of ?_
    refine hL.ld 0 rfl (by kernel_rfl) s rfl ?_
    refine loopW_ind (fun q (x5 : Bool × Int) S' => ∃ i : Nat, x5.2 = i ∧ i ≤ cl.length ∧ q = cl.length - i ∧ (x5.1 = true ↔ fineI m cl i) ∧ Hld noB S S' [(b1, .cells (cellsM m s) none false none)]) (m := cl.length)
      ⟨0, rfl, by omega, rfl, ht.trans ⟨fun h => ⟨h, fun j hj => by omega⟩, fun h => h.1⟩, hL⟩ ?_
    rintro Pk q ⟨f, n1⟩ S6 ⟨i, hi0, hi, rfl, hf, hL⟩ hPk
    dsimp only at hi0 hf ⊢
    subst hi0
    refine ifW_dec (fun hlt => ?_) fun hlt => ?_
    · have hi' : i < cl.length := by omega
      have hL0 := hL
      refine (Ext.slOf hL.mod hc).idxL (f := encC) (sz := 2) (fun _ => rfl) hcl hi' fun b6 o6 cs mm ro fz hat _ hv => ?_
      refine ⟨cl[i], load_agg hat (by kernel_rfl) hv rfl, ?_⟩
      refine hL.new fun b8 S7 hL _ _ => ?_
      refine hL.st 0 2 rfl (by kernel_rfl) rfl (Nat.le_of_ble_eq_true rfl) rfl rfl fun S8 hL _ => ?_
      have hgi : cl.getD i (0, 0) = cl[i] := getD_at hi'
      have next : ∀ (t : Bool) S9 L, (t = true ↔ fineI m cl (i + 1)) → Hld noB S S9 (L :: [(b1, .cells (cellsM m s) none false none)]) → Pk (t, wrapI .i64 ((i : Int) + 1)) S9 := by
        intro t S9 L ht hL
        rw [wrap_succ (by omega)]
        exact hPk _ _ _ (by omega) ⟨i + 1, rfl, by omega, rfl, ht, hld_tl hL⟩
      refine ifW_of (fun hft => ?_) fun hff => ?_
      · refine ptrW_of ?_
        refine hL.ld 0 rfl (by kernel_rfl) cl[i].1 rfl ?_
        refine evC_of (s28 ⟨_, rfl, ?_⟩)
        refine ifW_of (fun hin => ?_) fun hin => ?_
        · have hin := of_decide_eq_true hin
          refine ifW_dec (fun h0 => ?_) fun h0 => ?_
          · refine next true S8 _ ?_ hL
            rw [fineI_succ]
            refine ⟨fun _ => ⟨hf.1 hft, ?_⟩, fun _ => rfl⟩
            unfold clmA
            rw [hgi]
            exact ⟨hin, .inl (by omega)⟩
          · refine ptrW_of ?_
            refine hL.ld 0 rfl (by kernel_rfl) cl[i].1 rfl ?_
            refine ptrW_of ?_
            refine hL.ld 1 rfl (by kernel_rfl) s rfl ?_
            have hi0 : ¬ i = 0 := fun h => h0 (by omega)
            rw [wrap_i64 (by omega) (by omega), show (i : Int) - 1 = ((i - 1 : Nat) : Int) from by omega]
            have hi1 : i - 1 < cl.length := by omega
            refine (Ext.slOf hL.mod hc).idxL (f := encC) (sz := 2) (fun _ => rfl) hcl hi1 fun b7 o7 cs7 m7 ro7 fz7 hat7 _ hv7 => ?_
            refine ptrW_of ?_
            refine evV_of (ty := tI) cl[i - 1].1 ((load_one hat7 (by kernel_rfl)).trans ((at_take hv7 (j := 0) (by omega)).trans rfl)) ?_
            refine next _ S8 _ ?_ hL
            have hgi1 : cl.getD (i - 1) (0, 0) = cl[i - 1] := getD_at hi1
            rw [fineI_succ, ltI_eq]
            unfold clmA
            rw [hgi, hgi1]
            simp only [decide_eq_true_eq]
            exact ⟨fun h => ⟨hf.1 hft, hin, .inr h⟩, fun h => h.2.2.resolve_left hi0⟩
        · refine next false S8 _ ?_ hL
          have hin := of_decide_eq_false hin
          rw [fineI_succ]
          refine ⟨(fun h => by cases h), fun h => ?_⟩
          have := h.2.1
          rw [hgi] at this
          exact (hin this).elim
      · refine next false S8 _ ?_ hL
        rw [fineI_succ]
        refine ⟨(fun h => by cases h), fun h => ?_⟩
        rw [hf.2 h.1] at hff
        cases hff
    · have e : i = cl.length := by omega
      subst e
      have hk := hk S6 hL.mod
      refine ifW_of (fun hff => ?_) fun hft => ?_
      · rw [if_neg (fun h : mayM m cl => by rw [hf.2 h] at hff; cases hff)] at hk
        exact hk
      · rw [if_pos (show mayM m cl from hf.1 (by simpa using hft))] at hk
        exact hk
  have no : ∀ {p : Prop}, ¬ p → (numsP m cl.length → p) → (false = true ↔ numsP m cl.length) := fun hn h => ⟨fun h => by (cases h), fun hh => (hn (h hh)).elim⟩
  refine ptrW_of ?_
  refine hL.ld 0 rfl (by kernel_rfl) m.2.1 rfl ?_
  refine evC_of (s28 ⟨_, rfl, ?_⟩)
  refine ifW_of (fun a1 => ?_) fun a1 => main false S4 (no (of_decide_eq_false a1) fun h => h.1) hL
  refine ptrW_of ?_
  refine hL.ld 0 rfl (by kernel_rfl) m.2.2.2.2.1 rfl ?_
  refine evC_of (s28 ⟨_, rfl, ?_⟩)
  refine ifW_of (fun a2 => ?_) fun a2 => main false S4 (no (of_decide_eq_false a2) fun h => h.2.1) hL
  refine ptrW_of ?_
  refine hL.ld 0 rfl (by kernel_rfl) m.2.2.2.2.2.1 rfl ?_
  refine evC_of (s28 ⟨_, rfl, ?_⟩)
  refine ifW_of (fun a3 => ?_) fun a3 => main false S4 (no (of_decide_eq_false a3) fun h => h.2.2.1) hL
  refine ptrW_of ?_
  refine hL.ld 0 rfl (by kernel_rfl) m.2.2.2.2.2.2.1 rfl ?_
  refine evC_of (s28 ⟨_, rfl, ?_⟩)
  refine ifW_of (fun a4 => ?_) fun a4 => main false S4 (no (of_decide_eq_false a4) fun h => h.2.2.2.1) hL
  refine ptrW_of ?_
  refine hL.ld 0 rfl (by kernel_rfl) m.2.2.2.2.2.2.2 rfl ?_
  refine evC_of (s28 ⟨_, rfl, ?_⟩)
  refine ifW_of (fun a5 => ?_) fun a5 => main false S4 (no (of_decide_eq_false a5) fun h => h.2.2.2.2.1) hL
  refine ptrW_of ?_
  refine hL.ld 0 rfl (by kernel_rfl) s rfl ?_
  refine main _ S4 ?_ hL
  rw [leI_eq, hcl]
  simp only [decide_eq_true_eq]
  exact ⟨fun h => ⟨of_decide_eq_true a1, of_decide_eq_true a2, of_decide_eq_true a3, of_decide_eq_true a4, of_decide_eq_true a5, by omega⟩, fun h => by have := h.2.2.2.2.2; omega⟩
end
end Go.Proofs.YtgdijpcopdgapaaDoor

/- Tally: bytes' packet. -/
namespace Go.Proofs.YtgdijpcopdgapaaDoor
open Go Go.Proofs.YtgdijpcopdgapaaDoor.D
set_option linter.unusedVariables false
set_option linter.unusedSimpArgs false
noncomputable section

abbrev Hd := Int × Int × Int × Int × Int × Int
abbrev PkV := Int × Int × Int × Int × Int × Int × Int × Int × Int × Int × Int × Int × Int × Int × Sl
abbrev pv (h : Hd) (m : Ms) (s : Sl) : PkV := (h.1, h.2.1, h.2.2.1, h.2.2.2.1, h.2.2.2.2.1, h.2.2.2.2.2, m.1, m.2.1, m.2.2.1, m.2.2.2.1, m.2.2.2.2.1, m.2.2.2.2.2.1, m.2.2.2.2.2.2.1, m.2.2.2.2.2.2.2, s)
abbrev cellsH (h : Hd) : List Value := [.int .i64 h.1, .int .i64 h.2.1, .int .u32 h.2.2.1, .int .u32 h.2.2.2.1, .int .u32 h.2.2.2.2.1, .int .u32 h.2.2.2.2.2]
abbrev zM : Ms := (0, 0, 0, 0, 0, 0, 0, 0)
abbrev zS : Sl := ⟨none, 0, 0⟩
def mayH (h : Hd) : Prop := (0 ≤ h.1 ∧ h.1 ≤ 63) ∧ (0 ≤ h.2.1 ∧ h.2.1 ≤ 63) ∧ ¬ h.1 = h.2.1
instance (h : Hd) : Decidable (mayH h) := by unfold mayH; infer_instance
def mayK (h : Hd) (m : Ms) (cl : List Clm) : Prop := mayH h ∧ (1 ≤ m.1 ∧ m.1 ≤ 11) ∧ mayM m cl
instance (h : Hd) (m : Ms) (cl : List Clm) : Decidable (mayK h m cl) := by unfold mayK; infer_instance
theorem s40z {m : Ms} {s : Sl} {S : St} (h : ¬ (1 ≤ m.1 ∧ m.1 ≤ 11)) {k : Value → St → Prop} (hk : ∀ S', Ext S S' → k (.int .i64 71) S') : WC E0 40 [sv G53 (mv m s)] S k := by
  refine w40 (mv m s) ?_
  unfold c40
  have hL := Hld.start noB S
  refine hL.new fun b1 S1 hL _ _ => ?_
  refine ptrW_of ?_
  refine hL.ld 0 rfl (by kernel_rfl) m.1 rfl ?_
  refine evC_of (s28 ⟨_, rfl, ?_⟩)
  exact ifW_of (fun _ => hk S1 hL.mod) fun hh => by simp at hh; exact (h hh).elim
theorem s30 {h : Hd} {m : Ms} {s : Sl} {cl : List Clm} {S : St} (g : Gl S) (hc : SlOf encC 2 S s cl) (hl : cl.length ≤ 1000) (ho : ¬ (1 ≤ m.1 ∧ m.1 ≤ 11) ∨ ((1 ≤ m.1 ∧ m.1 ≤ 11) ∧ (onlyP m s).1 = m ∧ ((onlyP m s).2 = s ∨ (onlyP m s).2 = zS ∧ cl = []))) {k : Value → St → Prop}
    (hk : ∀ S', Ext S S' → k (.int .i64 (if mayK h m cl then 0 else 71)) S') : WC E0 30 [sv G55 (pv h m s)] S k := by
  refine w30 (pv h m s) ?_
  unfold c30
  have hL := Hld.start noB S
  refine hL.new fun b1 S1 hL _ _ => ?_
  have hk1 := hk S1 hL.mod
  refine ptrW_of ?_
  refine hL.ld 0 rfl (by kernel_rfl) h.1 rfl ?_
  refine evC_of (s28 ⟨_, rfl, ?_⟩)
  refine ifW_of (fun a1 => ?_) fun a1 => ?_
  · rw [if_neg (fun hp : mayK h m cl => by have := hp.1.1; simp at a1; omega)] at hk1
    exact hk1
  refine ptrW_of ?_
  refine hL.ld 0 rfl (by kernel_rfl) h.2.1 rfl ?_
  refine evC_of (s28 ⟨_, rfl, ?_⟩)
  refine ifW_of (fun a2 => ?_) fun a2 => ?_
  · rw [if_neg (fun hp : mayK h m cl => by have := hp.1.2.1; simp at a2; omega)] at hk1
    exact hk1
  refine ptrW_of ?_
  refine hL.ld 0 rfl (by kernel_rfl) h.1 rfl ?_
  refine ptrW_of ?_
  refine hL.ld 0 rfl (by kernel_rfl) h.2.1 rfl ?_
  refine ifW_dec (fun a3 => ?_) fun a3 => ?_
  · rw [if_neg (fun hp : mayK h m cl => hp.1.2.2 a3)] at hk1
    exact hk1
  refine ptrW_of ?_
  refine hL.lda 0 rfl (by kernel_rfl) (mv m s) rfl ?_
  have hh : mayH h := ⟨by simpa using a1, by simpa using a2, a3⟩
  rcases ho with ho | ⟨ho, ho1, ho2⟩
  · refine evC_of (s40z ho fun S2 e2 => ⟨_, rfl, ?_⟩)
    have hk' := hk S2 (hL.mod.tr e2)
    rw [if_neg (fun hp : mayK h m cl => ho hp.2.1)] at hk'
    exact hk'
  · refine evC_of (s40 (g.ext hL.mod) (Ext.slOf hL.mod hc) hl ho.1 ho.2 ho1 ho2 fun S2 e2 => ⟨_, rfl, ?_⟩)
    have hk' := hk S2 (hL.mod.tr e2)
    by_cases hm : mayM m cl
    · rw [if_pos ⟨hh, ho, hm⟩] at hk'
      rw [if_pos hm]
      exact hk'
    · rw [if_neg fun hp : mayK h m cl => hm hp.2.2] at hk'
      rw [if_neg hm]
      exact hk'
/-- Bytes without their complements. -/
def unD : List UInt8 → Option (List UInt8)
  | [] => some []
  | [_] => none
  | a :: b :: r => if b = cp a then (unD r).map (a :: ·) else none
theorem unD_dbl : ∀ P : List UInt8, unD (dbl P) = some P
  | [] => rfl
  | a :: r => by simp [dbl, unD, unD_dbl r]
theorem unD_some : ∀ {l P : List UInt8}, unD l = some P → l = dbl P
  | [], P, h => by cases h; rfl
  | [_], P, h => by cases h
  | a :: b :: r, P, h => by
    unfold unD at h
    split at h
    · rename_i hb
      rw [Option.map_eq_some_iff] at h
      obtain ⟨Q, h1, rfl⟩ := h
      rw [unD_some h1, hb]
      rfl
    · cases h
def hdP (r : Rd) : Hd := ((tvR 1 r : Int), (tvR 1 (tkR 1 r) : Int), (tvR 4 (tkR 1 (tkR 1 r)) : Int), (tvR 4 (tkR 4 (tkR 1 (tkR 1 r))) : Int), (tvR 4 (tkR 4 (tkR 4 (tkR 1 (tkR 1 r)))) : Int), (tvR 4 (tkR 4 (tkR 4 (tkR 4 (tkR 1 (tkR 1 r))))) : Int))
def hdR (r : Rd) : Rd := tkR 4 (tkR 4 (tkR 4 (tkR 4 (tkR 1 (tkR 1 r)))))
/-- A message's kind, and what stands behind it. -/
def kdR (r : Rd) : Nat := tvR 1 (hdR r)
def bodyR (r : Rd) : Ms × List Clm × Rd := if 1 ≤ kdR r ∧ kdR r ≤ 11 then msgP (kdR r) (tkR 1 (hdR r)) else (zM, [], tkR 1 (hdR r))
def okR (r : Rd) : Prop := (bodyR r).2.2 = some [] ∧ mayK (hdP r) (bodyR r).1 (bodyR r).2.1
instance (r : Rd) : Decidable (okR r) := by unfold okR; infer_instance
end
end Go.Proofs.YtgdijpcopdgapaaDoor

/- Tally: bytes are read. -/
namespace Go.Proofs.YtgdijpcopdgapaaDoor
open Go Go.Proofs.YtgdijpcopdgapaaDoor.D
set_option linter.unusedVariables false
set_option linter.unusedSimpArgs false
noncomputable section

theorem s26u {b : Sl} {l : List UInt8} {S : St} {k : Value → St → Prop} (hb : Bs S b l) (hlc : b.len ≤ b.cap) (hci : b.cap < inex) (hlen : l.length ≤ 4000)
    (hk : ∀ s P S', Ext S S' → GB S' s P → (∀ c, slO s c → S.next ≤ c) → (∀ L, unD l = some L → L = P) → P.length ≤ 4000 → k (.tuple #[.slice s.a s.len s.cap, .bool (unD l).isSome]) S') : WC E0 26 [.slice b.a b.len b.cap] S k := by
  refine s26 hb hlc hci hlen (fun P s S' hP e g hs => ?_) fun hn S' e => ?_
  · have hu : unD l = some P := by rw [hP]; exact unD_dbl P
    have := hk s P S' e g hs (fun L h => by rw [hu] at h; cases h; rfl) (by have := dbl_len P; rw [← hP] at this; omega)
    rw [hu] at this
    exact this
  · have hu : unD l = none := by
      cases h : unD l with
      | none => rfl
      | some P => exact (hn P (unD_some h)).elim
    have := hk zS [] S' e GB.nil (fun c hc => by obtain ⟨o, hc⟩ := hc; cases hc) (fun L h => by rw [hu] at h; cases h) (by simp)
    rw [hu] at this
    exact this
theorem msg_claims {k : Int} (h1 : 1 ≤ k) (h2 : k ≤ 11) (r : Rd) : (msgP k r).2.1.length ≤ 255 := by
  have h0 : ∀ {n : Nat}, 0 ≤ n := Nat.zero_le _
  rcases kind_case h1 h2 with rfl | rfl | rfl | rfl | rfl | rfl | rfl | rfl | rfl | rfl | rfl <;> first | exact Nat.zero_le _ | skip
  show ([] ++ (clsP (tvR 1 r) (tkR 1 r)).1).length ≤ 255
  rw [List.nil_append, clsP_len]
  have := tvR_lt 1 r
  omega
abbrev LbR (b3 b2 b1 : Nat) : List (Nat × DObj) := [(b3, .cells [.bool false] none false none), (b2, .cells [.slice none 0 0] none false none), (b1, .cells (cellsH (0, 0, 0, 0, 0, 0) ++ cellsM zM zS) none false none)]
theorem slO_nil {c : Nat} : ¬ slO zS c := fun h => by obtain ⟨o, h⟩ := h; cases h
set_option maxHeartbeats 4000000 in
theorem s16 {b : Sl} {l : List UInt8} {S : St} (g : Gl S) (hb : Bs S b l) (hlc : b.len ≤ b.cap) (hci : b.cap < inex) (hlen : l.length ≤ 4000) {k : Value → St → Prop}
    (hk : ∀ (x : PkV) S', Ext S S' → (okR (unD l) → x.2.2.2.2.2.2.1 = (kdR (unD l) : Int)) → k (.tuple #[sv G55 x, .int .i64 (if okR (unD l) then 0 else 70)]) S') : WC E0 16 [.slice b.a b.len b.cap] S k := by
  refine w16 b ?_
  unfold c16
  have hL := Cx.start (S := S) noB (GB.nil (S := S)) GB.frm (fun c hc => GB.lt (GB.nil (S := S)) hc)
  refine hL.new fun b1 S1 hL _ _ => ?_
  refine evC_of (s26u (Ext.slOf hL.mod hb) hlc hci hlen fun s P S2 e2 g2 hs hr hPl => ⟨(s, (unD l).isSome), rfl, ?_⟩)
  have hL := hL.op e2 (fun _ h => h.elim) (fun _ h => h.elim) g2 GB.frm (fun c hc => .inr (hs c hc)) (fun c hc => GB.lt g2 hc)
  generalize unD l = r at hr hk ⊢
  have hlf : ∀ L, r = some L → ∀ S', GB S' s P → Lf S' s L := fun L h S' hp => by rw [hr L h]; exact hp.lf (by omega)
  refine hL.new fun b2 S3 hL _ _ => ?_
  refine hL.new fun b3 S4 hL _ _ => ?_
  refine hL.st 1 1 rfl (by kernel_rfl) rfl (Nat.le_of_ble_eq_true rfl) rfl rfl fun S5 hL _ => ?_
  refine hL.st 0 1 rfl (by kernel_rfl) rfl (Nat.le_of_ble_eq_true rfl) rfl rfl fun S6 hL _ => ?_
  have hR : RdI (LbR b3 b2 b1) 0 1 := ⟨by decide, by show 0 < 3; omega, by show 1 < 3; omega⟩
  have hL : Cx noB S S6 ([] ++ rdB (LbR b3 b2 b1) 0 1 b3 b2 r s) (slO s) (fun S => GB S s P) := hL
  refine s27p [] hR hL (fun _ h => h) hlf 1 (by omega) (by omega) fun s1 S7 hL hlf => ?_
  refine s27p [] hR hL (fun _ h => h) hlf 1 (by omega) (by omega) fun s2 S8 hL hlf => ?_
  refine s27p [] hR hL (fun _ h => h) hlf 4 (by omega) (by omega) fun s3 S9 hL hlf => ?_
  refine s27p [] hR hL (fun _ h => h) hlf 4 (by omega) (by omega) fun s4 S10 hL hlf => ?_
  refine s27p [] hR hL (fun _ h => h) hlf 4 (by omega) (by omega) fun s5 S11 hL hlf => ?_
  refine s27p [] hR hL (fun _ h => h) hlf 4 (by omega) (by omega) fun s6 S12 hL hlf => ?_
  have q1 := tvR_lt 1 r
  have q2 := tvR_lt 1 (tkR 1 r)
  have q3 := tvR_lt 4 (tkR 1 (tkR 1 r))
  have q4 := tvR_lt 4 (tkR 4 (tkR 1 (tkR 1 r)))
  have q5 := tvR_lt 4 (tkR 4 (tkR 4 (tkR 1 (tkR 1 r))))
  have q6 := tvR_lt 4 (tkR 4 (tkR 4 (tkR 4 (tkR 1 (tkR 1 r)))))
  rw [wrap_i64 (n := (tvR 1 r : Int)) (by omega) (by omega), wrap_i64 (n := (tvR 1 (tkR 1 r) : Int)) (by omega) (by omega), wrap_u32 (n := (tvR 4 (tkR 1 (tkR 1 r)) : Int)) (by omega) (by omega), wrap_u32 (n := (tvR 4 (tkR 4 (tkR 1 (tkR 1 r))) : Int)) (by omega) (by omega),
    wrap_u32 (n := (tvR 4 (tkR 4 (tkR 4 (tkR 1 (tkR 1 r)))) : Int)) (by omega) (by omega), wrap_u32 (n := (tvR 4 (tkR 4 (tkR 4 (tkR 4 (tkR 1 (tkR 1 r))))) : Int)) (by omega) (by omega)]
  refine hL.new fun b4 S13 hL _ _ => ?_
  refine hL.st 0 15 rfl (by kernel_rfl) rfl (Nat.le_of_ble_eq_true rfl) rfl rfl fun S14 hL _ => ?_
  have hL : Cx noB S S14 ([(b4, .cells (cellsH (hdP r) ++ cellsM zM zS) none false none)] ++ rdB (LbR b3 b2 b1) 0 1 b3 b2 (hdR r) s6) (slO s) (fun S => GB S s P) := hL
  have hlf : ∀ L, hdR r = some L → ∀ S', GB S' s P → Lf S' s6 L := hlf
  have eqs : tvR 1 (tkR 4 (tkR 4 (tkR 4 (tkR 4 (tkR 1 (tkR 1 r)))))) = kdR r := rfl
  generalize hh : hdP r = h at hL
  intro k1 hk1
  have main : ∀ (m : Ms) (sc : Sl) (cl : List Clm) (r8 : Rd) (s8 : Sl) S15, Cx noB S S15 ([(b4, .cells (cellsH h ++ cellsM m sc) none false none)] ++ rdB (LbR b3 b2 b1) 0 1 b3 b2 r8 s8) (fun c => slO s c ∨ slO sc c) (fun S => GB S s P ∧ GrX encC 2 0 S sc cl) →
      (∀ L, r8 = some L → ∀ S', GB S' s P → Lf S' s8 L) → bodyR r = (m, cl, r8) → cl.length ≤ 255 → (¬ (1 ≤ m.1 ∧ m.1 ≤ 11) ∨ ((1 ≤ m.1 ∧ m.1 ≤ 11) ∧ (onlyP m sc).1 = m ∧ ((onlyP m sc).2 = sc ∨ (onlyP m sc).2 = zS ∧ cl = []))) → ((1 ≤ m.1 ∧ m.1 ≤ 11) → m.1 = (kdR r : Int)) → k1 PUnit.unit S15 := by
    intro m sc cl r8 s8 S15 hL hlf8 hbody hcl ho hkd
    refine hk1 _ S15 ?_
    refine hL.ld 1 rfl (by kernel_rfl) r8.isSome rfl ?_
    have bad : ∀ {S16 L}, ¬ okR r → Cx noB S S16 L (fun c => slO s c ∨ slO sc c) (fun S => GB S s P ∧ GrX encC 2 0 S sc cl) → ∀ {o}, L[3]? = some (b1, .cells o none false none) → o.length = 15 →
        evS (storeV E0 S16 56 (.pointer (some ⟨b1, 0, none⟩)) (.agg #[.int .i64 0, .int .i64 0, .int .u32 0, .int .u32 0, .int .u32 0, .int .u32 0, .int .i64 0, .int .i64 0, .int .u32 0, .int .u64 0, .int .i64 0, .int .i64 0, .int .i64 0, .int .i64 0, .slice none 0 0])) fun S17 =>
          evV (TT.one (Ty.agg G55)) (loadV E0 S17 56 (.pointer (some ⟨b1, 0, none⟩))) fun (x3 : PkV) => k (.tuple #[sv G55 x3, .int .i64 70]) S17 := by
      intro S16 L hno hL o hi ho
      have hlen : 3 < L.length := by
        rcases Nat.lt_or_ge 3 L.length with h | h
        · exact h
        · rw [List.getElem?_eq_none h] at hi; cases hi
      refine hL.st 3 15 hi (by kernel_rfl) rfl (by omega) rfl (cs' := cellsH (0, 0, 0, 0, 0, 0) ++ cellsM zM zS) (by rw [List.take_zero, List.drop_of_length_le (by omega)]; rfl) fun S17 hL _ => ?_
      refine hL.lda 3 (by rw [List.getElem?_set_self hlen]) (by kernel_rfl) (pv (0, 0, 0, 0, 0, 0) zM zS) rfl ?_
      have := hk (pv (0, 0, 0, 0, 0, 0) zM zS) S17 hL.mod fun h => (hno h).elim
      rw [if_neg hno] at this
      exact this
    have hok : okR r ↔ r8 = some [] ∧ mayK h m cl := by unfold okR; rw [hbody, hh]
    cases r8 with
    | none => exact ifW_of (fun _ => bad (fun h => by have := (hok.1 h).1; cases this) hL rfl rfl) fun h => by cases h
    | some L =>
      refine ifW_of (fun h => by cases h) fun _ => ?_
      refine hL.ld 2 rfl (by kernel_rfl) s8 rfl ?_
      have hll := (hlf8 L rfl S15 hL.p.1).len
      refine ifW_dec (fun hlt => bad (fun h => by have := (hok.1 h).1; cases this; simp at hll; omega) hL rfl rfl) fun hlt => ?_
      have hLn : L = [] := List.length_eq_zero_iff.1 (by omega)
      subst hLn
      refine hL.lda 0 rfl (by kernel_rfl) (pv h m sc) rfl ?_
      refine evC_of (s30 (g.ext hL.mod) (GrX.of (f := encC) (sz := 2) (fun _ => rfl) hL.p.2) (by omega) ho fun S18 e18 => ⟨_, rfl, ?_⟩)
      have hL := hL.ext e18
      by_cases hm : mayK h m cl
      · rw [if_pos hm]
        refine ifW_ndec (fun h => (h rfl).elim) fun _ => ?_
        refine hL.lda 0 rfl (by kernel_rfl) (pv h m sc) rfl ?_
        refine hL.st 3 15 rfl (by kernel_rfl) rfl (Nat.le_of_ble_eq_true rfl) rfl rfl fun S20 hL _ => ?_
        refine hL.lda 3 rfl (by kernel_rfl) (pv h m sc) rfl ?_
        have := hk (pv h m sc) S20 hL.mod fun _ => hkd hm.2.1
        rw [if_pos (hok.2 ⟨rfl, hm⟩)] at this
        exact this
      · rw [if_neg hm]
        exact ifW_ndec (fun _ => bad (fun h => hm (hok.1 h).2) hL rfl rfl) fun h => by cases h
  refine s27p [(b4, .cells (cellsH h ++ cellsM zM zS) none false none)] hR hL (fun _ h => h) hlf 1 (by omega) (by omega) fun s7 S21 hL hlf => ?_
  rw [show tvR 1 (hdR r) = kdR r from rfl]
  have q7 : kdR r < 256 := tvR_lt 1 (hdR r)
  rw [wrap_i64 (by omega) (by omega)]
  refine evC_of (s28 ⟨_, rfl, ?_⟩)
  refine ifW_of (fun hin => ?_) fun hin => ?_
  · have hin := of_decide_eq_true hin
    have hR2 : RdI ((b4, .cells (cellsH h ++ cellsM zM zS) none false none) :: LbR b3 b2 b1) 1 2 := ⟨by decide, by show 1 < 4; omega, by show 2 < 4; omega⟩
    have hbody : bodyR r = msgP (kdR r) (tkR 1 (hdR r)) := if_pos (by omega)
    have honly := only_msg hin.1 hin.2 (tkR 1 (hdR r))
    have hcls := msg_claims hin.1 hin.2 (tkR 1 (hdR r))
    refine evC_of (s29 hR2 (show Cx noB S S21 (rdB ((b4, .cells (cellsH h ++ cellsM zM zS) none false none) :: LbR b3 b2 b1) 1 2 b3 b2 (tkR 1 (hdR r)) s7) (slO s) (fun S => GB S s P) from hL) (fun S' e => g.ext e) hlf hin.1 hin.2 fun s8 sc S22 hL hlf8 => ⟨_, rfl, ?_⟩)
    have honly := honly sc
    generalize msgP (kdR r) (tkR 1 (hdR r)) = y at hL hlf8 hbody honly hcls
    obtain ⟨m, cl, r8⟩ := y
    refine ptrW_of ?_
    refine hL.st 0 9 rfl (by kernel_rfl) rfl (Nat.le_of_ble_eq_true rfl) rfl rfl fun S23 hL _ => ?_
    have hm1 : m.1 = (kdR r : Int) := honly.1
    exact main m sc cl r8 s8 S23 hL hlf8 hbody hcls (.inr ⟨by rw [hm1]; exact hin, honly.2⟩) fun _ => hm1
  · have hin := of_decide_eq_false hin
    have hbody : bodyR r = (zM, [], tkR 1 (hdR r)) := if_neg (by omega)
    refine main zM zS [] (tkR 1 (hdR r)) s7 S21 ?_ hlf hbody (by simp) (.inl (by decide)) (fun h => absurd h (by decide))
    exact hL.as (O' := fun c => slO s c ∨ slO zS c) ⟨hL.p, nil_grX⟩ (GB.frm.and grX_frm) fun c hc => hc.elim id fun h => (slO_nil h).elim
end
end Go.Proofs.YtgdijpcopdgapaaDoor

/- Tally: the document's packets: what may be. -/
namespace Go.Proofs.YtgdijpcopdgapaaDoor
open Go Go.Proofs.YtgdijpcopdgapaaDoor.D
set_option linter.unusedVariables false
set_option linter.unusedSimpArgs false
noncomputable section

/-- The number of so many bytes at a place. -/
def gvR (P : List UInt8) (n at_ : Nat) : Nat := vl ((P.drop at_).take n)
theorem gvR_lt (P : List UInt8) (n a : Nat) : gvR P n a < 256 ^ n := by
  have h := vl_lt _ ((P.drop a).take n) rfl
  have hl : ((P.drop a).take n).length ≤ n := by rw [List.length_take]; omega
  exact Nat.lt_of_lt_of_le h (Nat.pow_le_pow_right (by omega) hl)
theorem s41 {b : Sl} {P : List UInt8} {S : St} (hb : Bs S b P) {a n : Nat} (ha : a ≤ 100000) (hn : n ≤ 8) {k : Value → St → Prop} (hk : k (.int .u64 (gvR P n a : Nat)) S) : WC E0 41 [.slice b.a b.len b.cap, .int .i64 (a : Int), .int .i64 (n : Int)] S k := by
  refine w41 b _ _ ?_
  unfold c41
  have hbl := hb.len
  refine loopW_ind (fun q (x1 : Int × Int) S' => ∃ i : Nat, x1 = (((vl ((P.drop a).take i) : Nat) : Int), (i : Int)) ∧ i ≤ n ∧ i ≤ (P.drop a).length ∧ q = n - i ∧ S' = S) (m := n) ⟨0, rfl, by omega, by omega, rfl, rfl⟩ ?_
  rintro Pk q x1 S1 ⟨i, rfl, hi, hil, rfl, rfl⟩ hP
  dsimp only
  have hdl : (P.drop a).length = P.length - a := List.length_drop
  refine ifW_dec (fun hlt => ?_) fun hlt => ?_
  · rw [wrap_i64 (n := (a : Int) + i) (by omega) (by omega)]
    refine ifW_dec (fun hlt2 => ?_) fun hlt2 => ?_
    · have hi' : i < (P.drop a).length := by omega
      rw [show (a : Int) + i = ((a + i : Nat) : Int) from by omega]
      refine hb.get1n (n := a + i) (g := byV) inf5 agg5 (by omega) fun b1 o1 hld _ => evV_of _ (hld _ rfl) ?_
      have hv := vl_lt i ((P.drop a).take i) (by rw [List.length_take]; omega)
      have h7 : 256 ^ i ≤ 256 ^ 7 := Nat.pow_le_pow_right (by omega) (by omega)
      have h7' : (256 : Nat) ^ 7 = 72057594037927936 := by decide
      have hc := (P[a + i]'(by omega)).toNat_lt
      have hx : (P.drop a)[i] = P[a + i]'(by omega) := List.getElem_drop ..
      rw [wrap_u64 (n := ((vl ((P.drop a).take i) : Nat) : Int) * 256) (by omega) (by omega), wrap_u64 (n := (((P[a + i]'(by omega)).toNat : Nat) : Int)) (by omega) (by omega), wrap_u64 (by omega) (by omega), wrap_succ (by omega)]
      have e : ((vl ((P.drop a).take i) : Nat) : Int) * 256 + ((P[a + i]'(by omega)).toNat : Int) = ((vl ((P.drop a).take (i + 1)) : Nat) : Int) := by
        rw [List.take_succ_eq_append_getElem hi', vl_snoc, hx]; omega
      rw [e]
      exact hP _ _ _ (by omega) ⟨i + 1, rfl, by omega, by omega, rfl, rfl⟩
    · have e : gvR P n a = vl ((P.drop a).take i) := by
        unfold gvR
        rw [List.take_of_length_le (by omega), List.take_of_length_le (by omega)]
      rw [e] at hk
      exact hk
  · have e : i = n := by omega
    subst e
    exact hk
theorem s63 {s : List UInt8} {c : UInt8} {S : St} (hs : s.length ≤ 1000) {k : Value → St → Prop} (hk : k (.bool (s.contains c)) S) : WC E0 63 [strV s, .int .u8 (c.toNat : Int)] S k := by
  refine w63 s _ ?_
  unfold c63
  refine loopW_ind (fun q (n1 : Int) S' => ∃ i : Nat, n1 = i ∧ i ≤ s.length ∧ q = s.length - i ∧ c ∉ s.take i ∧ S' = S) (m := s.length) ⟨0, rfl, by omega, rfl, by simp, rfl⟩ ?_
  rintro P q n1 S1 ⟨i, rfl, hi, rfl, hno, rfl⟩ hP
  refine ifW_dec (fun hlt => ?_) fun hlt => ?_
  · have hi' : i < s.length := by omega
    refine evV_of (ty := tU8) _ (indexD_str und9 hi') ?_
    refine ifW_dec (fun h => ?_) fun h => ?_
    · have e : s[i] = c := UInt8.toNat_inj.1 (by omega)
      rw [show s.contains c = true from List.contains_iff_mem.2 (e ▸ List.getElem_mem hi')] at hk
      exact hk
    · rw [wrap_succ (by omega)]
      refine hP _ _ _ (by omega) ⟨i + 1, rfl, by omega, rfl, ?_, rfl⟩
      rw [List.take_succ_eq_append_getElem hi', List.mem_append, List.mem_singleton]
      rintro (h1 | h1)
      · exact hno h1
      · exact h (by rw [h1])
  · rw [List.take_of_length_le (by omega)] at hno
    rw [show s.contains c = false from by rw [Bool.eq_false_iff]; exact fun h => hno (List.contains_iff_mem.1 h)] at hk
    exact hk
/-- A field's letter. -/
def ltr (f : Int) : UInt8 := if f = 1 then 99 else if f = 2 then 103 else if f = 3 then 115 else if f = 4 then 112 else if f = 5 then 104 else if f = 6 then 111 else if f = 7 then 119 else 108
def ltrs (k : Int) : List UInt8 := if 1 ≤ k ∧ k ≤ 11 then (fldK k).map ltr else []
def wordK (k : Int) : List UInt8 := if 1 ≤ k ∧ k ≤ 11 then (kindW.getD (k.toNat - 1) ([], 0, 0, 0, 0, 0)).1 else []
theorem kind_or (k : Int) : (k = 1 ∨ k = 2 ∨ k = 3 ∨ k = 4 ∨ k = 5 ∨ k = 6 ∨ k = 7 ∨ k = 8 ∨ k = 9 ∨ k = 10 ∨ k = 11) ∨ ¬ (1 ≤ k ∧ k ≤ 11) := by omega
theorem s42 {kd : Int} {S : St} {k : Value → St → Prop} (hk : k (strV (ltrs kd)) S) : WC E0 42 [.int .i64 kd] S k := by
  refine w42 kd ?_
  unfold c42
  rcases kind_or kd with h | h
  · rcases h with rfl | rfl | rfl | rfl | rfl | rfl | rfl | rfl | rfl | rfl | rfl
    · exact ifW_pos rfl hk
    · exact ifW_neg (by decide) (ifW_pos rfl hk)
    · exact ifW_neg (by decide) (ifW_neg (by decide) fun k1 h1 => ifW_pos rfl (h1 _ _ (ifW_of (fun _ => hk) fun h => by cases h)))
    · exact ifW_neg (by decide) (ifW_neg (by decide) fun k1 h1 => ifW_neg (by decide) (h1 _ _ (ifW_neg (by decide) (ifW_neg (by decide) (ifW_neg (by decide) (ifW_neg (by decide) (ifW_neg (by decide) (ifW_neg (by decide) hk))))))))
    · exact ifW_neg (by decide) (ifW_neg (by decide) fun k1 h1 => ifW_neg (by decide) (h1 _ _ (ifW_neg (by decide) (ifW_pos rfl hk))))
    · exact ifW_neg (by decide) (ifW_neg (by decide) fun k1 h1 => ifW_neg (by decide) (h1 _ _ (ifW_neg (by decide) (ifW_neg (by decide) (ifW_pos rfl hk)))))
    · exact ifW_neg (by decide) (ifW_neg (by decide) fun k1 h1 => ifW_neg (by decide) (h1 _ _ (ifW_neg (by decide) (ifW_neg (by decide) (ifW_neg (by decide) (ifW_pos rfl hk))))))
    · exact ifW_neg (by decide) (ifW_neg (by decide) fun k1 h1 => ifW_neg (by decide) (h1 _ _ (ifW_neg (by decide) (ifW_neg (by decide) (ifW_neg (by decide) (ifW_neg (by decide) (ifW_pos rfl hk)))))))
    · exact ifW_neg (by decide) (ifW_neg (by decide) fun k1 h1 => ifW_neg (by decide) (h1 _ _ (ifW_neg (by decide) (ifW_neg (by decide) (ifW_neg (by decide) (ifW_neg (by decide) (ifW_neg (by decide) (ifW_neg (by decide) hk))))))))
    · exact ifW_neg (by decide) (ifW_neg (by decide) fun k1 h1 => ifW_neg (by decide) (h1 _ _ (ifW_pos rfl hk)))
    · exact ifW_neg (by decide) (ifW_neg (by decide) fun k1 h1 => ifW_neg (by decide) (h1 _ _ (ifW_neg (by decide) (ifW_neg (by decide) (ifW_neg (by decide) (ifW_neg (by decide) (ifW_neg (by decide) (ifW_pos rfl hk))))))))
  · rw [show ltrs kd = [] from if_neg h] at hk
    exact ifW_neg (by omega) (ifW_neg (by omega) fun k1 h1 => ifW_neg (by omega) (h1 _ _ (ifW_neg (by omega) (ifW_neg (by omega) (ifW_neg (by omega) (ifW_neg (by omega) (ifW_neg (by omega) (ifW_neg (by omega) hk))))))))
end
end Go.Proofs.YtgdijpcopdgapaaDoor

/- Tally: the document's packets: what may be (2). -/
namespace Go.Proofs.YtgdijpcopdgapaaDoor
open Go Go.Proofs.YtgdijpcopdgapaaDoor.D
set_option linter.unusedVariables false
set_option linter.unusedSimpArgs false
noncomputable section

theorem s20 {kd : Int} {S : St} {k : Value → St → Prop} (hk : k (strV (wordK kd)) S) : WC E0 20 [.int .i64 kd] S k := by
  refine w20 kd ?_
  unfold c20
  rcases kind_or kd with h | h
  · rcases h with rfl | rfl | rfl | rfl | rfl | rfl | rfl | rfl | rfl | rfl | rfl
    · exact ifW_pos rfl hk
    · exact ifW_neg (by decide) (ifW_pos rfl hk)
    · exact ifW_neg (by decide) (ifW_neg (by decide) (ifW_pos rfl hk))
    · exact ifW_neg (by decide) (ifW_neg (by decide) (ifW_neg (by decide) (ifW_pos rfl hk)))
    · exact ifW_neg (by decide) (ifW_neg (by decide) (ifW_neg (by decide) (ifW_neg (by decide) (ifW_pos rfl hk))))
    · exact ifW_neg (by decide) (ifW_neg (by decide) (ifW_neg (by decide) (ifW_neg (by decide) (ifW_neg (by decide) (ifW_pos rfl hk)))))
    · exact ifW_neg (by decide) (ifW_neg (by decide) (ifW_neg (by decide) (ifW_neg (by decide) (ifW_neg (by decide) (ifW_neg (by decide) (ifW_pos rfl hk))))))
    · exact ifW_neg (by decide) (ifW_neg (by decide) (ifW_neg (by decide) (ifW_neg (by decide) (ifW_neg (by decide) (ifW_neg (by decide) (ifW_neg (by decide) (ifW_pos rfl hk)))))))
    · exact ifW_neg (by decide) (ifW_neg (by decide) (ifW_neg (by decide) (ifW_neg (by decide) (ifW_neg (by decide) (ifW_neg (by decide) (ifW_neg (by decide) (ifW_neg (by decide) (ifW_pos rfl hk))))))))
    · exact ifW_neg (by decide) (ifW_neg (by decide) (ifW_neg (by decide) (ifW_neg (by decide) (ifW_neg (by decide) (ifW_neg (by decide) (ifW_neg (by decide) (ifW_neg (by decide) (ifW_neg (by decide) (ifW_pos rfl hk)))))))))
    · exact ifW_neg (by decide) (ifW_neg (by decide) (ifW_neg (by decide) (ifW_neg (by decide) (ifW_neg (by decide) (ifW_neg (by decide) (ifW_neg (by decide) (ifW_neg (by decide) (ifW_neg (by decide) (ifW_neg (by decide) (ifW_pos rfl hk))))))))))
  · rw [show wordK kd = [] from if_neg h] at hk
    exact ifW_neg (by omega) (ifW_neg (by omega) (ifW_neg (by omega) (ifW_neg (by omega) (ifW_neg (by omega) (ifW_neg (by omega) (ifW_neg (by omega) (ifW_neg (by omega) (ifW_neg (by omega) (ifW_neg (by omega) (ifW_neg (by omega) (hk)))))))))))
theorem wordK_ne {kd : Int} (h : 1 ≤ kd ∧ kd ≤ 11) : wordK kd ≠ [] := by
  rcases kind_case h.1 h.2 with rfl | rfl | rfl | rfl | rfl | rfl | rfl | rfl | rfl | rfl | rfl <;> decide
theorem ltrs_len (kd : Int) : (ltrs kd).length ≤ 5 := by
  rcases kind_or kd with h | h
  · rcases h with rfl | rfl | rfl | rfl | rfl | rfl | rfl | rfl | rfl | rfl | rfl <;> decide
  · rw [show ltrs kd = [] from if_neg h]; decide
/-- What a kind does not name is nothing. -/
def zok (m : Ms) (cl : List Clm) : Prop :=
  ((ltrs m.1).contains 99 = true ∨ m.2.1 = 0) ∧ ((ltrs m.1).contains 103 = true ∨ m.2.2.1 = 0) ∧ ((ltrs m.1).contains 115 = true ∨ m.2.2.2.1 = 0) ∧ ((ltrs m.1).contains 112 = true ∨ m.2.2.2.2.1 = 0) ∧
  ((ltrs m.1).contains 104 = true ∨ m.2.2.2.2.2.1 = 0) ∧ ((ltrs m.1).contains 111 = true ∨ m.2.2.2.2.2.2.1 = 0) ∧ ((ltrs m.1).contains 119 = true ∨ m.2.2.2.2.2.2.2 = 0) ∧ ((ltrs m.1).contains 108 = true ∨ cl = [])
theorem or_join {K : Bool → St → Prop} {a c : Bool} {S : St} {X : (Bool → St → Prop) → Prop} (hX : ∀ k : Bool → St → Prop, k c S → X k) (hK : K (a || c) S) : joinW K fun k => ifW a (k true S) (X k) :=
  fun k hk => ifW_of (fun h => hk true S (by subst h; simpa using hK)) fun h => hX k (hk c S (by subst h; simpa using hK))
theorem has_X {l : List UInt8} {c : UInt8} {S : St} (hl : l.length ≤ 5) {n : Int} {c' : Bool} {Y : St → (Int → Prop) → Prop} (hY : ∀ q : Int → Prop, q n → Y S q) (hz : l.contains c = true ∨ n = 0) :
    ∀ k : Bool → St → Prop, k false S → evC E0 tB 63 [.string { data := List.toArray l }, .int .u8 (c.toNat : Int)] S fun t S' => ifW (!t) (Y S' fun n => k (!eqI n 0) S') (k false S') := by
  intro k hk
  refine evC_of (s63 (s := l) (by omega) ⟨_, rfl, ?_⟩)
  refine ifW_of (fun h => hY _ ?_) fun h => hk
  have hn : n = 0 := hz.resolve_left (by simpa using h)
  rw [hn, eqI_eq]
  exact hk
set_option maxHeartbeats 4000000 in
theorem s55 {m : Ms} {s : Sl} {cl : List Clm} {S : St} (hc : SlOf encC 2 S s cl) (hl : cl.length ≤ 1000) (hz : 1 ≤ m.1 ∧ m.1 ≤ 11 → zok m cl) {k : Value → St → Prop}
    (hk : ∀ S', Ext S S' → k (.bool (decide ((1 ≤ m.1 ∧ m.1 ≤ 11) ∧ mayM m cl))) S') : WC E0 55 [sv G53 (mv m s)] S k := by
  refine w55 (mv m s) ?_
  unfold c55
  have hL := Hld.start noB S
  refine hL.new fun b1 S1 hL _ _ => ?_
  have hk := hk S1 hL.mod
  refine ptrW_of ?_
  refine hL.ld 0 rfl (by kernel_rfl) m.1 rfl ?_
  refine evC_of (s20 ⟨_, rfl, ?_⟩)
  by_cases hkn : ¬ (1 ≤ m.1 ∧ m.1 ≤ 11)
  · have hkd := hkn
    rw [show wordK m.1 = [] from if_neg hkd]
    rw [show decide ((1 ≤ m.1 ∧ m.1 ≤ 11) ∧ mayM m cl) = false from decide_eq_false fun h => hkd h.1] at hk
    exact ifW_of (fun _ => hk) fun h => by cases h
  have hkd : 1 ≤ m.1 ∧ m.1 ≤ 11 := Decidable.not_not.1 hkn
  refine ifW_of (fun h => by simp at h; exact (wordK_ne hkd h).elim) fun _ => ?_
  have hz := hz hkd
  refine ptrW_of ?_
  refine hL.ld 0 rfl (by kernel_rfl) m.1 rfl ?_
  refine evC_of (s42 ⟨_, rfl, ?_⟩)
  have hll := ltrs_len m.1
  have hcl := hc.len
  have yes : (mayM m cl) → k (.bool true) S1 := fun h => by rw [show decide ((1 ≤ m.1 ∧ m.1 ≤ 11) ∧ mayM m cl) = true from decide_eq_true ⟨hkd, h⟩] at hk; exact hk
  have no : ¬ mayM m cl → k (.bool false) S1 := fun h => by rw [show decide ((1 ≤ m.1 ∧ m.1 ≤ 11) ∧ mayM m cl) = false from decide_eq_false fun hh => h hh.2] at hk; exact hk
  have ld : ∀ {ty : TT} {t o : Nat} {K : ty.T → Prop} (z : ty.T), ldOk E0 t = true → (cellsM m s)[o]? = some (ty.enc z) → K z → ptrW (some ⟨b1, 0, none⟩) fun b2 b3 => evV ty (loadV E0 S1 t (.pointer (some ⟨b2, b3 + o, none⟩))) K := by
    intro ty t o K z ht hv hK
    refine ptrW_of ?_
    rw [Nat.zero_add]
    exact evV_of z ((load_one (hL.at 0 rfl) ht).trans hv) hK
  intro k18 hk18
  refine ld (ty := tI) m.2.1 (by kernel_rfl) rfl ?_
  refine (fun (H : k18 (decide (m.2.1 < 0) || decide (1023 < m.2.1)) S1) => ?_) ?_
  · refine ifW_dec (fun h => by simpa [h] using H) fun h => ?_
    refine ld (ty := tI) m.2.1 (by kernel_rfl) rfl ?_
    rw [ltI_eq]
    simpa [h] using H
  refine hk18 _ _ ?_
  refine or_join (c := decide (m.2.2.2.2.1 < 0)) (fun k1 h1 => ld (ty := tI) m.2.2.2.2.1 (by kernel_rfl) rfl (by rw [ltI_eq]; exact h1)) ?_
  refine or_join (c := decide (15 < m.2.2.2.2.1)) (fun k1 h1 => ld (ty := tI) m.2.2.2.2.1 (by kernel_rfl) rfl (by rw [ltI_eq]; exact h1)) ?_
  refine or_join (c := decide (m.2.2.2.2.2.1 < 0)) (fun k1 h1 => ld (ty := tI) m.2.2.2.2.2.1 (by kernel_rfl) rfl (by rw [ltI_eq]; exact h1)) ?_
  refine or_join (c := decide (64 < m.2.2.2.2.2.1)) (fun k1 h1 => ld (ty := tI) m.2.2.2.2.2.1 (by kernel_rfl) rfl (by rw [ltI_eq]; exact h1)) ?_
  refine or_join (c := decide (m.2.2.2.2.2.2.1 < 0)) (fun k1 h1 => ld (ty := tI) m.2.2.2.2.2.2.1 (by kernel_rfl) rfl (by rw [ltI_eq]; exact h1)) ?_
  refine or_join (c := decide (63 < m.2.2.2.2.2.2.1)) (fun k1 h1 => ld (ty := tI) m.2.2.2.2.2.2.1 (by kernel_rfl) rfl (by rw [ltI_eq]; exact h1)) ?_
  refine or_join (c := decide (m.2.2.2.2.2.2.2 < (-1))) (fun k1 h1 => ld (ty := tI) m.2.2.2.2.2.2.2 (by kernel_rfl) rfl (by rw [ltI_eq]; exact h1)) ?_
  refine or_join (c := decide (63 < m.2.2.2.2.2.2.2)) (fun k1 h1 => ld (ty := tI) m.2.2.2.2.2.2.2 (by kernel_rfl) rfl (by rw [ltI_eq]; exact h1)) ?_
  refine ifW_of (fun ht => ?_) fun ht => ?_
  · refine no fun hm => ?_
    have h1 := hm.1
    unfold numsP at h1
    simp at ht
    omega
  refine ld (ty := tS) s (by kernel_rfl) rfl ?_
  refine ifW_dec (fun hlt => ?_) fun hlt => ?_
  · exact no fun hm => by have := hm.1.2.2.2.2.2; omega
  have hnums : numsP m cl.length := by
    unfold numsP
    simp at ht
    omega
  obtain ⟨z1, z2, z3, z4, z5, z6, z7, z8⟩ := hz
  intro k9 hk9
  refine has_X (c := 99) hll (c' := false) (Y := fun S' q => ptrW (some ⟨b1, 0, none⟩) fun b2 b3 => evV tI (loadV E0 S' 3 (.pointer (some ⟨b2, b3 + 1, none⟩))) q) (fun q hq => ld (ty := tI) m.2.1 (by kernel_rfl) rfl hq) z1 k9 (hk9 _ _ ?_)
  refine or_join (c := false) (fun k1 h1 => has_X (c := 103) hll (c' := false) (Y := fun S' q => ptrW (some ⟨b1, 0, none⟩) fun b2 b3 => evV tU32 (loadV E0 S' 51 (.pointer (some ⟨b2, b3 + 2, none⟩))) q) (fun q hq => ld (ty := tU32) m.2.2.1 (by kernel_rfl) rfl hq) z2 k1 h1) ?_
  refine or_join (c := false) (fun k1 h1 => has_X (c := 115) hll (c' := false) (Y := fun S' q => ptrW (some ⟨b1, 0, none⟩) fun b2 b3 => evV tU (loadV E0 S' 28 (.pointer (some ⟨b2, b3 + 3, none⟩))) q) (fun q hq => ld (ty := tU) m.2.2.2.1 (by kernel_rfl) rfl hq) z3 k1 h1) ?_
  refine or_join (c := false) (fun k1 h1 => has_X (c := 112) hll (c' := false) (Y := fun S' q => ptrW (some ⟨b1, 0, none⟩) fun b2 b3 => evV tI (loadV E0 S' 3 (.pointer (some ⟨b2, b3 + 4, none⟩))) q) (fun q hq => ld (ty := tI) m.2.2.2.2.1 (by kernel_rfl) rfl hq) z4 k1 h1) ?_
  refine or_join (c := false) (fun k1 h1 => has_X (c := 104) hll (c' := false) (Y := fun S' q => ptrW (some ⟨b1, 0, none⟩) fun b2 b3 => evV tI (loadV E0 S' 3 (.pointer (some ⟨b2, b3 + 5, none⟩))) q) (fun q hq => ld (ty := tI) m.2.2.2.2.2.1 (by kernel_rfl) rfl hq) z5 k1 h1) ?_
  refine or_join (c := false) (fun k1 h1 => has_X (c := 111) hll (c' := false) (Y := fun S' q => ptrW (some ⟨b1, 0, none⟩) fun b2 b3 => evV tI (loadV E0 S' 3 (.pointer (some ⟨b2, b3 + 6, none⟩))) q) (fun q hq => ld (ty := tI) m.2.2.2.2.2.2.1 (by kernel_rfl) rfl hq) z6 k1 h1) ?_
  refine or_join (c := false) (fun k1 h1 => has_X (c := 119) hll (c' := false) (Y := fun S' q => ptrW (some ⟨b1, 0, none⟩) fun b2 b3 => evV tI (loadV E0 S' 3 (.pointer (some ⟨b2, b3 + 7, none⟩))) q) (fun q hq => ld (ty := tI) m.2.2.2.2.2.2.2 (by kernel_rfl) rfl hq) z7 k1 h1) ?_
  refine ifW_of (fun h => by simp at h) fun _ => ?_
  refine evC_of (s63 (c := 108) (s := ltrs m.1) (by omega) ⟨_, rfl, ?_⟩)
  have loop : loopW
      (fun (k2 : Int → St → Prop) (n6 : Int) (S22 : St) =>
        ptrW (some ⟨b1, 0, none⟩) fun (b24 b25 : Nat) =>
          evV tS (loadV E0 S22 52 (.pointer (some ⟨b24, b25 + 8, none⟩))) fun (s6 : Sl) =>
            ifW (ltI n6 (↑s6.len : Int))
              (ptrW (some ⟨b1, 0, none⟩) fun (b26 b27 : Nat) =>
                evV tS (loadV E0 S22 52 (.pointer (some ⟨b26, b27 + 8, none⟩))) fun (s7 : Sl) =>
                  idxW s7.a s7.len n6 fun (b28 b29 : Nat) =>
                    ptrW (some ⟨b28, b29 + Int.toNat n6 * 2, none⟩) fun (b30 b31 : Nat) =>
                      evV tI (loadV E0 S22 3 (.pointer (some ⟨b30, b31 + 0, none⟩))) fun (n7 : Int) =>
                        ifW (ltI n7 0) (k (.bool false) S22)
                          (ifW (ltI 1023 n7) (k (.bool false) S22)
                            (ifW (ltI 0 n6)
                              (ptrW (some ⟨b1, 0, none⟩) fun (b32 b33 : Nat) =>
                                evV tS (loadV E0 S22 52 (.pointer (some ⟨b32, b33 + 8, none⟩))) fun (s8 : Sl) =>
                                  idxW s8.a s8.len (wrapI .i64 (n6 - 1)) fun (b34 b35 : Nat) =>
                                    ptrW (some ⟨b34, b35 + Int.toNat (wrapI .i64 (n6 - 1)) * 2, none⟩) fun (b36 b37 : Nat) =>
                                      evV tI (loadV E0 S22 3 (.pointer (some ⟨b36, b37 + 0, none⟩))) fun (n8 : Int) =>
                                        ifW (leI n7 n8) (k (.bool false) S22) (k2 (wrapI .i64 (n6 + 1)) S22))
                              (k2 (wrapI .i64 (n6 + 1)) S22))))
              (k (.bool true) S22))
      0 S1 := by
    refine loopW_ind (fun q (n6 : Int) S' => ∃ i : Nat, n6 = i ∧ i ≤ cl.length ∧ q = cl.length - i ∧ (∀ j, j < i → clmA cl j) ∧ S' = S1) (m := cl.length) ⟨0, rfl, by omega, rfl, fun j hj => by omega, rfl⟩ ?_
    rintro Pk q n6 S2 ⟨i, rfl, hi, rfl, hok, rfl⟩ hPk
    refine ld (ty := tS) s (by kernel_rfl) rfl ?_
    refine ifW_dec (fun hlt => ?_) fun hlt => ?_
    · have hi' : i < cl.length := by omega
      have hgi : cl.getD i (0, 0) = cl[i] := getD_at hi'
      refine ld (ty := tS) s (by kernel_rfl) rfl ?_
      refine (Ext.slOf hL.mod hc).idxL (f := encC) (sz := 2) (fun _ => rfl) hcl hi' fun b6 o6 cs mm ro fz hat _ hv => ?_
      refine ptrW_of ?_
      refine evV_of (ty := tI) cl[i].1 ((load_one hat (by kernel_rfl)).trans ((at_take hv (j := 0) (by omega)).trans rfl)) ?_
      refine ifW_dec (fun h => no fun hm => ?_) fun h => ?_
      · have := (hm.2 i hi').1
        rw [hgi] at this
        omega
      refine ifW_dec (fun h2 => no fun hm => ?_) fun h2 => ?_
      · have := (hm.2 i hi').1
        rw [hgi] at this
        omega
      have next : clmA cl i → Pk (wrapI .i64 ((i : Int) + 1)) S2 := fun hcl => by
        rw [wrap_succ (by omega)]
        refine hPk _ _ _ (by omega) ⟨i + 1, rfl, by omega, rfl, fun j hj => ?_, rfl⟩
        rcases Nat.lt_or_ge j i with h | h
        · exact hok j h
        · rw [show j = i from by omega]; exact hcl
      refine ifW_dec (fun h0 => ?_) fun h0 => ?_
      · refine ld (ty := tS) s (by kernel_rfl) rfl ?_
        rw [wrap_i64 (n := (i : Int) - 1) (by omega) (by omega), show (i : Int) - 1 = ((i - 1 : Nat) : Int) from by omega]
        have hi1 : i - 1 < cl.length := by omega
        have hgi1 : cl.getD (i - 1) (0, 0) = cl[i - 1] := getD_at hi1
        refine (Ext.slOf hL.mod hc).idxL (f := encC) (sz := 2) (fun _ => rfl) hcl hi1 fun b7 o7 cs7 m7 ro7 fz7 hat7 _ hv7 => ?_
        refine ptrW_of ?_
        refine evV_of (ty := tI) cl[i - 1].1 ((load_one hat7 (by kernel_rfl)).trans ((at_take hv7 (j := 0) (by omega)).trans rfl)) ?_
        rw [leI_eq]
        refine ifW_of (fun h3 => no fun hm => ?_) fun h3 => next ?_
        · have := (hm.2 i hi').2
          rw [hgi, hgi1] at this
          have h3 := of_decide_eq_true h3
          omega
        · have h3 := of_decide_eq_false h3
          unfold clmA
          rw [hgi, hgi1]
          omega
      · refine next ?_
        unfold clmA
        rw [hgi]
        omega
    · have e : i = cl.length := by omega
      subst e
      exact yes ⟨hnums, hok⟩
  refine ifW_of (fun h => ?_) fun _ => loop
  refine ld (ty := tS) s (by kernel_rfl) rfl ?_
  have hnil : cl = [] := z8.resolve_left (by simpa using h)
  refine ifW_neg (by rw [hcl, hnil]; simp) loop
end
end Go.Proofs.YtgdijpcopdgapaaDoor

/- Tally: numbers as bytes; what may be a packet. -/
namespace Go.Proofs.YtgdijpcopdgapaaDoor
open Go Go.Proofs.YtgdijpcopdgapaaDoor.D
set_option linter.unusedVariables false
set_option linter.unusedSimpArgs false
noncomputable section

/-- A number in so many bytes, the highest first. -/
def nb (n : Nat) : Nat → List UInt8
  | 0 => []
  | m + 1 => nb (n / 256) m ++ [UInt8.ofNat (n % 256)]
theorem nb_len (m : Nat) : ∀ n, (nb n m).length = m := by
  induction m with
  | zero => intro n; rfl
  | succ m ih => intro n; simp [nb, ih]
theorem mk2 (S : St) : makeSliceD E0 S 36 (.int .i64 ((2 : Nat) : Int)) (.int .i64 ((2 : Nat) : Int)) = some (.slice (some ⟨S.next, 0, none⟩) 2 2, (S.alloc (.cells (List.replicate 2 (.int .u8 0)) none false none)).2) := by kernel_rfl
theorem mk4 (S : St) : makeSliceD E0 S 36 (.int .i64 ((4 : Nat) : Int)) (.int .i64 ((4 : Nat) : Int)) = some (.slice (some ⟨S.next, 0, none⟩) 4 4, (S.alloc (.cells (List.replicate 4 (.int .u8 0)) none false none)).2) := by kernel_rfl
theorem mk8 (S : St) : makeSliceD E0 S 36 (.int .i64 ((8 : Nat) : Int)) (.int .i64 ((8 : Nat) : Int)) = some (.slice (some ⟨S.next, 0, none⟩) 8 8, (S.alloc (.cells (List.replicate 8 (.int .u8 0)) none false none)).2) := by kernel_rfl
theorem by_ofNat {n : Nat} (h : n < 256) : Value.int .u8 (n : Int) = byV (UInt8.ofNat n) := by rw [byV, ofNat_toNat h]
theorem s44 {n m : Nat} (hm : m = 2 ∨ m = 4 ∨ m = 8) (hn : n < 18446744073709551616) {S : St} {k : Value → St → Prop}
    (hk : ∀ s S', Ext S S' → Bs S' s (nb n m) → s.len = m → (∀ a, s.a = some a → a.spot = none) → k (.slice s.a s.len s.cap) S') : WC E0 44 [.int .u64 (n : Int), .int .i64 (m : Int)] S k := by
  refine w44 _ _ ?_
  unfold c44
  have hmk : makeSliceD E0 S 36 (.int .i64 (m : Int)) (.int .i64 (m : Int)) = some (.slice (some ⟨S.next, 0, none⟩) m m, (S.alloc (.cells (List.replicate m (.int .u8 0)) none false none)).2) := by
    rcases hm with rfl | rfl | rfl
    · exact mk2 S
    · exact mk4 S
    · exact mk8 S
  refine ⟨⟨some ⟨S.next, 0, none⟩, m, m⟩, _, hmk, ?_⟩
  have hL := (Hld.start noB S).record (o := .cells (List.replicate m (.int .u8 0)) none false none)
  generalize (S.alloc (.cells (List.replicate m (.int .u8 0)) none false none)).2 = S1 at hL ⊢
  generalize S.next = b at hL ⊢
  have hm8 : m ≤ 8 := by omega
  rw [wrap_i64 (n := (m : Int) - 1) (by omega) (by omega)]
  refine loopW_ind (fun q (x1 : Int × Int) S' => ∃ (i z : Nat) (tl : List UInt8), x1 = ((z : Int), (i : Int) - 1) ∧ z ≤ n ∧ i ≤ m ∧ q = i ∧ nb n m = nb z i ++ tl ∧ Hld noB S S' [(b, .cells (List.replicate i (.int .u8 0) ++ tl.map byV) none false none)]) (m := m)
    ⟨m, n, [], rfl, by omega, by omega, rfl, by simp, by simpa using hL⟩ ?_
  rintro Pk q x1 S2 ⟨i, z, tl, rfl, hz, hi, hq, hnb, hL⟩ hP
  dsimp only
  have htl : i + tl.length = m := by
    have := congrArg List.length hnb
    rw [nb_len, List.length_append, nb_len] at this
    omega
  refine ifW_dec (fun hle => ⟨rfl, ?_⟩) fun hle => ?_
  · obtain ⟨j, rfl⟩ : ∃ j, i = j + 1 := ⟨i - 1, by omega⟩
    refine ⟨b, 0, rfl, by omega, by omega, ?_⟩
    dsimp only
    rw [show 0 + Int.toNat (((j + 1 : Nat) : Int) - 1) * 1 = j from by omega]
    have hmod : z % 256 < 256 := Nat.mod_lt _ (by omega)
    have e1 : wrapI .u8 (Int.tmod (z : Int) 256) = ((z % 256 : Nat) : Int) := by
      rw [Int.tmod_eq_emod_of_nonneg (by omega), show (z : Int) % 256 = ((z % 256 : Nat) : Int) from by omega]
      exact wrap_u8 (by omega) (by omega)
    have e2 : wrapI .u64 (Int.tdiv (z : Int) 256) = ((z / 256 : Nat) : Int) := by
      rw [Int.tdiv_eq_ediv_of_nonneg (by omega), show (z : Int) / 256 = ((z / 256 : Nat) : Int) from by omega]
      exact wrap_u64 (by omega) (by omega)
    rw [e1, e2, by_ofNat hmod]
    refine hL.st 0 1 rfl (by kernel_rfl) rfl (by simp) rfl (cs' := List.replicate j (.int .u8 0) ++ (UInt8.ofNat (z % 256) :: tl).map byV) ?_ fun S3 hL _ => ?_
    · rw [List.take_append_of_le_length (by simp), List.take_replicate, Nat.min_eq_left (by omega), List.drop_append_of_le_length (by simp), List.drop_replicate, Nat.sub_self]
      rfl
    · refine ⟨rfl, ?_⟩
      rw [wrap_i64 (by omega) (by omega)]
      refine hP _ _ _ (by omega) ⟨j, z / 256, UInt8.ofNat (z % 256) :: tl, ?_, Nat.le_trans (Nat.div_le_self _ _) hz, by omega, rfl, ?_, hL⟩
      · rw [show ((j + 1 : Nat) : Int) - 1 - 1 = (j : Int) - 1 from by omega]
      · rw [hnb]
        show (nb (z / 256) j ++ [UInt8.ofNat (z % 256)]) ++ tl = _
        simp
  · have h0 : i = 0 := by omega
    subst h0
    refine hk ⟨some ⟨b, 0, none⟩, m, m⟩ S2 hL.mod ⟨(nb_len m n).symm, fun _ => ⟨b, 0, _, _, _, _, rfl, hL.at 0 rfl, ?_⟩⟩ rfl fun a h => by cases h; rfl
    rw [hnb]
    simp [nb, flat_by]
    exact List.take_of_length_le (by simp)
/-- Bytes behind a literal's. -/
theorem app_lit {S : St} {b : Nat} {l v : List UInt8} {cap : Nat} {x : Value} (hat : At S b (.cells (l.map byV) none false none)) (hl0 : l ≠ []) (hcap : cap = l.length) (hn : lenOfD x = some v.length) (hx : firstD S 1 v.length x = some (v.map byV)) (hv : v ≠ [])
    (hl : l.length + v.length ≤ 1000000) {k : Sl → St → Prop} (hk : ∀ s' S', GB S' s' (l ++ v) → Ext S S' → (∀ c, slO s' c → S.next ≤ c) → k s' S') : evP tS (appendD E0 S 36 36 (.slice (some ⟨b, 0, none⟩) l.length cap) x) k := by
  subst hcap
  have hv0 : ¬ v.length = 0 := fun hh => hv (List.length_eq_zero_iff.1 hh)
  have hl00 : ¬ l.length = 0 := fun hh => hl0 (List.length_eq_zero_iff.1 hh)
  have g0 : Nat.beq v.length 0 = false := Bool.eq_false_iff.2 fun hh => hv0 (Nat.eq_of_beq_eq_true hh)
  have g1 : Nat.beq (cellsOf (.int .u8 0)).length 1 = true := rfl
  have g2 : Nat.blt 0 1 = true := rfl
  have g3 : Nat.beq (v.map byV).length (v.length * 1) = true := by rw [List.length_map, Nat.mul_one, Nat.beq_refl]
  have g6 : Nat.blt 1 TB = true := by decide
  have g7 : Nat.blt 5 TB = true := by decide
  have g4 : Nat.ble ((l.length + v.length) * 1) 17592186044416 = true := Nat.ble_eq_true_of_le (by omega)
  have g5 : Nat.ble (l.length + v.length) 17592186044416 = true := Nat.ble_eq_true_of_le (by omega)
  have hlt : l.length < 4000000000 := by omega
  have g8 : Nat.beq l.length inex = false := Bool.eq_false_iff.2 fun hh => by have := Nat.eq_of_beq_eq_true hh; have h := lt_inex; omega
  have g9 : Nat.ble (l.length + v.length) l.length = false := Bool.eq_false_iff.2 fun hh => by have := Nat.le_of_ble_eq_true hh; omega
  have g10 : S.loadN b 0 (l.length * 1) = some (l.map byV) := loadN_of hat (by rw [List.drop_zero, List.take_of_length_le (by simp)]) (by simp)
  refine ⟨⟨some ⟨S.next, 0, none⟩, l.length + v.length, inex⟩, (S.alloc (.cells (l.map byV ++ v.map byV) (some 1) false none)).2, ?_, hk _ _ ?_ alloc_ext fun c hc => ?_⟩
  · simp only [appendD, und36, inf5, siz5, bytes5, zer5, tag5, apK, cond_true, Option.bind_some, hn, hx, g0, g1, g2, g3, g4, g5, g6, g7, Bool.and_true, cond_false, g8, g9, g10, Option.map_some]
    rfl
  · refine .inr ⟨S.next, 1, .inl rfl, by rw [List.length_append], ?_⟩
    rw [List.map_append]
    exact alloc_at
  · obtain ⟨o, hc⟩ := hc; cases hc; exact Nat.le_refl _
theorem first_nb {S : St} {s : Sl} {v : List UInt8} (h : Bs S s v) (hsp : ∀ a, s.a = some a → a.spot = none) : firstD S 1 v.length (.slice s.a s.len s.cap) = some (v.map byV) := by
  have := SlOf.first (f := byC) (sz := 1) (fun _ => rfl) h hsp
  rw [flat_by] at this
  exact this
theorem s43 {h : Hd} {m : Ms} {s : Sl} {cl : List Clm} {S : St} (hc : SlOf encC 2 S s cl) (hl : cl.length ≤ 1000) (hz : 1 ≤ m.1 ∧ m.1 ≤ 11 → zok m cl) {k : Value → St → Prop}
    (hk : ∀ S', Ext S S' → k (.bool (decide (mayK h m cl))) S') : WC E0 43 [sv G55 (pv h m s)] S k := by
  refine w43 (pv h m s) ?_
  unfold c43
  have hL := Hld.start noB S
  refine hL.new fun b1 S1 hL _ _ => ?_
  have no : ¬ mayH h → k (.bool false) S1 := fun hn => by
    have := hk S1 hL.mod
    rw [show decide (mayK h m cl) = false from decide_eq_false fun hh => hn hh.1] at this
    exact this
  refine ptrW_of ?_
  refine hL.ld 0 rfl (by kernel_rfl) h.1 rfl ?_
  rw [leI_eq]
  refine ifW_of (fun a1 => ?_) fun a1 => no fun hh => by have := hh.1; simp at a1; omega
  refine ptrW_of ?_
  refine hL.ld 0 rfl (by kernel_rfl) h.1 rfl ?_
  refine ifW_dec (fun a2 => ?_) fun a2 => no fun hh => by have := hh.1; omega
  refine ptrW_of ?_
  refine hL.ld 0 rfl (by kernel_rfl) h.2.1 rfl ?_
  rw [leI_eq]
  refine ifW_of (fun a3 => ?_) fun a3 => no fun hh => by have := hh.2.1; simp at a3; omega
  refine ptrW_of ?_
  refine hL.ld 0 rfl (by kernel_rfl) h.2.1 rfl ?_
  refine ifW_dec (fun a4 => ?_) fun a4 => no fun hh => by have := hh.2.1; omega
  refine ptrW_of ?_
  refine hL.ld 0 rfl (by kernel_rfl) h.1 rfl ?_
  refine ptrW_of ?_
  refine hL.ld 0 rfl (by kernel_rfl) h.2.1 rfl ?_
  refine ifW_ndec (fun a5 => ?_) fun a5 => no fun hh => hh.2.2 a5
  refine ptrW_of ?_
  refine hL.lda 0 rfl (by kernel_rfl) (mv m s) rfl ?_
  refine evC_of (s55 (Ext.slOf hL.mod hc) hl hz fun S2 e2 => ⟨_, rfl, ?_⟩)
  have hh : mayH h := by
    unfold mayH
    simp at a1 a3
    omega
  have := hk S2 (hL.mod.tr e2)
  rw [show decide (mayK h m cl) = decide ((1 ≤ m.1 ∧ m.1 ≤ 11) ∧ mayM m cl) from by simp [mayK, hh]] at this
  exact this
end
end Go.Proofs.YtgdijpcopdgapaaDoor
