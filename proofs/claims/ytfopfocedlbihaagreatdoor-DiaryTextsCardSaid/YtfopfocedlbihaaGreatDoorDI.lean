/- Parts of the proof, put together. -/
import Derived.Test.YtfopfocedlbihaaGreatDoorOC
import Derived.Test.YtfopfocedlbihaaGreatDoorCB
/- Pages: what may be. -/
namespace Go.Proofs.YtfopfocedlbihaaGreatDoor
open Go Go.Proofs.YtfopfocedlbihaaGreatDoor.D
set_option linter.unusedVariables false
set_option linter.unusedSimpArgs false
noncomputable section

/-- A step: kind, robot, cell. -/
abbrev Stp := Int × Int × Int
abbrev cellsS (y : Stp) : List Value := [.int .i64 y.1, .int .i64 y.2.1, .int .i64 y.2.2]
def mayS (y : Stp) : Prop := (1 ≤ y.1 ∧ y.1 ≤ 3) ∧ (0 ≤ y.2.1 ∧ y.2.1 ≤ 63) ∧ 0 ≤ y.2.2 ∧ y.2.2 ≤ 1023
instance (y : Stp) : Decidable (mayS y) := by unfold mayS; infer_instance
/-- A page as the code has it. -/
abbrev Pg := Int × Int × Int × Int × Int × Int × Int × Sl
abbrev pO (x : Pg) : Ord := (x.1, x.2.1, x.2.2.1, x.2.2.2.1, x.2.2.2.2.1, x.2.2.2.2.2.1)
abbrev pE (x : Pg) : Int := x.2.2.2.2.2.2.1
abbrev pS (x : Pg) : Sl := x.2.2.2.2.2.2.2
abbrev cellsG (x : Pg) : List Value := [.int .i64 x.1, .int .i64 x.2.1, .int .i64 x.2.2.1, .int .i64 x.2.2.2.1, .int .i64 x.2.2.2.2.1, .int .u64 x.2.2.2.2.2.1, .int .i64 x.2.2.2.2.2.2.1, .slice x.2.2.2.2.2.2.2.a x.2.2.2.2.2.2.2.len x.2.2.2.2.2.2.2.cap]
abbrev Sts (S : St) (s : Sl) (l : List Stp) : Prop := SlOf cellsS 3 S s l
/-- May a page be? -/
def mayG (o : Ord) (e : Int) (l : List Stp) : Prop := mayP o ∧ (0 ≤ e ∧ e ≤ 999) ∧ l.length ≤ 1000 ∧ (e ≠ 0 → l = []) ∧ ∀ y ∈ l, mayS y
instance (o : Ord) (e : Int) (l : List Stp) : Decidable (mayG o e l) := by unfold mayG; infer_instance
def chkG (o : Ord) (e : Int) (l : List Stp) : Int := if mayG o e l then 0 else 280
theorem SlOf.stp {S : St} {s : Sl} {l : List Stp} (h : Sts S s l) {n : Nat} (hn : n < l.length) {k : Stp → Prop} (hk : k l[n]) : idxW s.a s.len (n : Int) fun b1 b2 => evV (TT.one (Ty.agg G40)) (loadV E0 S 41 (.pointer (some ⟨b1, b2 + Int.toNat (n : Int) * 3, none⟩))) k := by
  refine h.idxL (f := cellsS) (sz := 3) (fun _ => rfl) h.len hn fun b o cs m ro fz hat _ hv => ?_
  exact ⟨l[n], load_agg hat (by kernel_rfl) hv rfl, hk⟩
theorem s29 {S : St} {y : Stp} {k : Value → St → Prop} (hk : ∀ S', Ext S S' → k (.bool (decide (mayS y))) S') : WC E0 29 [sv G40 y] S k := by
  refine w29 y ?_
  unfold c29
  have hL := Hld.start noB S
  refine hL.new fun b1 S1 hL _ _ => ?_
  have hk := hk S1 hL.mod
  have no : ¬ mayS y → k (.bool false) S1 := fun h => by rw [decide_eq_false h] at hk; exact hk
  unfold mayS at no hk
  repeat (first | refine ptrW_of ?_ | refine sameV_of ?_ | (first | refine hL.ld 0 rfl (by kernel_rfl) _ rfl ?_ | refine hL.ld 1 rfl (by kernel_rfl) _ rfl ?_ | refine hL.ld 2 rfl (by kernel_rfl) _ rfl ?_ | refine hL.ld 3 rfl (by kernel_rfl) _ rfl ?_ | refine hL.ld 4 rfl (by kernel_rfl) _ rfl ?_ | refine hL.ld 5 rfl (by kernel_rfl) _ rfl ?_ | refine hL.ld 6 rfl (by kernel_rfl) _ rfl ?_ | refine hL.ld 7 rfl (by kernel_rfl) _ rfl ?_ | refine hL.lda 0 rfl (by kernel_rfl) _ rfl ?_ | refine hL.lda 1 rfl (by kernel_rfl) _ rfl ?_ | refine hL.lda 2 rfl (by kernel_rfl) _ rfl ?_ | refine hL.lda 3 rfl (by kernel_rfl) _ rfl ?_ | refine hL.lda 4 rfl (by kernel_rfl) _ rfl ?_ | refine hL.lda 5 rfl (by kernel_rfl) _ rfl ?_ | refine hL.lda 6 rfl (by kernel_rfl) _ rfl ?_ | refine hL.lda 7 rfl (by kernel_rfl) _ rfl ?_) | (first | refine hLo.ld 0 rfl (by kernel_rfl) _ rfl ?_ | refine hLo.ld 1 rfl (by kernel_rfl) _ rfl ?_ | refine hLo.ld 2 rfl (by kernel_rfl) _ rfl ?_ | refine hLo.ld 3 rfl (by kernel_rfl) _ rfl ?_ | refine hLo.ld 4 rfl (by kernel_rfl) _ rfl ?_ | refine hLo.ld 5 rfl (by kernel_rfl) _ rfl ?_ | refine hLo.ld 6 rfl (by kernel_rfl) _ rfl ?_ | refine hLo.ld 7 rfl (by kernel_rfl) _ rfl ?_ | refine hLo.lda 0 rfl (by kernel_rfl) _ rfl ?_ | refine hLo.lda 1 rfl (by kernel_rfl) _ rfl ?_ | refine hLo.lda 2 rfl (by kernel_rfl) _ rfl ?_ | refine hLo.lda 3 rfl (by kernel_rfl) _ rfl ?_ | refine hLo.lda 4 rfl (by kernel_rfl) _ rfl ?_ | refine hLo.lda 5 rfl (by kernel_rfl) _ rfl ?_ | refine hLo.lda 6 rfl (by kernel_rfl) _ rfl ?_ | refine hLo.lda 7 rfl (by kernel_rfl) _ rfl ?_))
  refine ifW_dec (fun h1 => ?_) fun h1 => no (fun h => by omega)
  repeat (first | refine ptrW_of ?_ | refine sameV_of ?_ | (first | refine hL.ld 0 rfl (by kernel_rfl) _ rfl ?_ | refine hL.ld 1 rfl (by kernel_rfl) _ rfl ?_ | refine hL.ld 2 rfl (by kernel_rfl) _ rfl ?_ | refine hL.ld 3 rfl (by kernel_rfl) _ rfl ?_ | refine hL.ld 4 rfl (by kernel_rfl) _ rfl ?_ | refine hL.ld 5 rfl (by kernel_rfl) _ rfl ?_ | refine hL.ld 6 rfl (by kernel_rfl) _ rfl ?_ | refine hL.ld 7 rfl (by kernel_rfl) _ rfl ?_ | refine hL.lda 0 rfl (by kernel_rfl) _ rfl ?_ | refine hL.lda 1 rfl (by kernel_rfl) _ rfl ?_ | refine hL.lda 2 rfl (by kernel_rfl) _ rfl ?_ | refine hL.lda 3 rfl (by kernel_rfl) _ rfl ?_ | refine hL.lda 4 rfl (by kernel_rfl) _ rfl ?_ | refine hL.lda 5 rfl (by kernel_rfl) _ rfl ?_ | refine hL.lda 6 rfl (by kernel_rfl) _ rfl ?_ | refine hL.lda 7 rfl (by kernel_rfl) _ rfl ?_) | (first | refine hLo.ld 0 rfl (by kernel_rfl) _ rfl ?_ | refine hLo.ld 1 rfl (by kernel_rfl) _ rfl ?_ | refine hLo.ld 2 rfl (by kernel_rfl) _ rfl ?_ | refine hLo.ld 3 rfl (by kernel_rfl) _ rfl ?_ | refine hLo.ld 4 rfl (by kernel_rfl) _ rfl ?_ | refine hLo.ld 5 rfl (by kernel_rfl) _ rfl ?_ | refine hLo.ld 6 rfl (by kernel_rfl) _ rfl ?_ | refine hLo.ld 7 rfl (by kernel_rfl) _ rfl ?_ | refine hLo.lda 0 rfl (by kernel_rfl) _ rfl ?_ | refine hLo.lda 1 rfl (by kernel_rfl) _ rfl ?_ | refine hLo.lda 2 rfl (by kernel_rfl) _ rfl ?_ | refine hLo.lda 3 rfl (by kernel_rfl) _ rfl ?_ | refine hLo.lda 4 rfl (by kernel_rfl) _ rfl ?_ | refine hLo.lda 5 rfl (by kernel_rfl) _ rfl ?_ | refine hLo.lda 6 rfl (by kernel_rfl) _ rfl ?_ | refine hLo.lda 7 rfl (by kernel_rfl) _ rfl ?_))
  refine ifW_dec (fun h2 => ?_) fun h2 => no (fun h => by omega)
  repeat (first | refine ptrW_of ?_ | refine sameV_of ?_ | (first | refine hL.ld 0 rfl (by kernel_rfl) _ rfl ?_ | refine hL.ld 1 rfl (by kernel_rfl) _ rfl ?_ | refine hL.ld 2 rfl (by kernel_rfl) _ rfl ?_ | refine hL.ld 3 rfl (by kernel_rfl) _ rfl ?_ | refine hL.ld 4 rfl (by kernel_rfl) _ rfl ?_ | refine hL.ld 5 rfl (by kernel_rfl) _ rfl ?_ | refine hL.ld 6 rfl (by kernel_rfl) _ rfl ?_ | refine hL.ld 7 rfl (by kernel_rfl) _ rfl ?_ | refine hL.lda 0 rfl (by kernel_rfl) _ rfl ?_ | refine hL.lda 1 rfl (by kernel_rfl) _ rfl ?_ | refine hL.lda 2 rfl (by kernel_rfl) _ rfl ?_ | refine hL.lda 3 rfl (by kernel_rfl) _ rfl ?_ | refine hL.lda 4 rfl (by kernel_rfl) _ rfl ?_ | refine hL.lda 5 rfl (by kernel_rfl) _ rfl ?_ | refine hL.lda 6 rfl (by kernel_rfl) _ rfl ?_ | refine hL.lda 7 rfl (by kernel_rfl) _ rfl ?_) | (first | refine hLo.ld 0 rfl (by kernel_rfl) _ rfl ?_ | refine hLo.ld 1 rfl (by kernel_rfl) _ rfl ?_ | refine hLo.ld 2 rfl (by kernel_rfl) _ rfl ?_ | refine hLo.ld 3 rfl (by kernel_rfl) _ rfl ?_ | refine hLo.ld 4 rfl (by kernel_rfl) _ rfl ?_ | refine hLo.ld 5 rfl (by kernel_rfl) _ rfl ?_ | refine hLo.ld 6 rfl (by kernel_rfl) _ rfl ?_ | refine hLo.ld 7 rfl (by kernel_rfl) _ rfl ?_ | refine hLo.lda 0 rfl (by kernel_rfl) _ rfl ?_ | refine hLo.lda 1 rfl (by kernel_rfl) _ rfl ?_ | refine hLo.lda 2 rfl (by kernel_rfl) _ rfl ?_ | refine hLo.lda 3 rfl (by kernel_rfl) _ rfl ?_ | refine hLo.lda 4 rfl (by kernel_rfl) _ rfl ?_ | refine hLo.lda 5 rfl (by kernel_rfl) _ rfl ?_ | refine hLo.lda 6 rfl (by kernel_rfl) _ rfl ?_ | refine hLo.lda 7 rfl (by kernel_rfl) _ rfl ?_))
  refine ifW_dec (fun h3 => ?_) fun h3 => no (fun h => by omega)
  repeat (first | refine ptrW_of ?_ | refine sameV_of ?_ | (first | refine hL.ld 0 rfl (by kernel_rfl) _ rfl ?_ | refine hL.ld 1 rfl (by kernel_rfl) _ rfl ?_ | refine hL.ld 2 rfl (by kernel_rfl) _ rfl ?_ | refine hL.ld 3 rfl (by kernel_rfl) _ rfl ?_ | refine hL.ld 4 rfl (by kernel_rfl) _ rfl ?_ | refine hL.ld 5 rfl (by kernel_rfl) _ rfl ?_ | refine hL.ld 6 rfl (by kernel_rfl) _ rfl ?_ | refine hL.ld 7 rfl (by kernel_rfl) _ rfl ?_ | refine hL.lda 0 rfl (by kernel_rfl) _ rfl ?_ | refine hL.lda 1 rfl (by kernel_rfl) _ rfl ?_ | refine hL.lda 2 rfl (by kernel_rfl) _ rfl ?_ | refine hL.lda 3 rfl (by kernel_rfl) _ rfl ?_ | refine hL.lda 4 rfl (by kernel_rfl) _ rfl ?_ | refine hL.lda 5 rfl (by kernel_rfl) _ rfl ?_ | refine hL.lda 6 rfl (by kernel_rfl) _ rfl ?_ | refine hL.lda 7 rfl (by kernel_rfl) _ rfl ?_) | (first | refine hLo.ld 0 rfl (by kernel_rfl) _ rfl ?_ | refine hLo.ld 1 rfl (by kernel_rfl) _ rfl ?_ | refine hLo.ld 2 rfl (by kernel_rfl) _ rfl ?_ | refine hLo.ld 3 rfl (by kernel_rfl) _ rfl ?_ | refine hLo.ld 4 rfl (by kernel_rfl) _ rfl ?_ | refine hLo.ld 5 rfl (by kernel_rfl) _ rfl ?_ | refine hLo.ld 6 rfl (by kernel_rfl) _ rfl ?_ | refine hLo.ld 7 rfl (by kernel_rfl) _ rfl ?_ | refine hLo.lda 0 rfl (by kernel_rfl) _ rfl ?_ | refine hLo.lda 1 rfl (by kernel_rfl) _ rfl ?_ | refine hLo.lda 2 rfl (by kernel_rfl) _ rfl ?_ | refine hLo.lda 3 rfl (by kernel_rfl) _ rfl ?_ | refine hLo.lda 4 rfl (by kernel_rfl) _ rfl ?_ | refine hLo.lda 5 rfl (by kernel_rfl) _ rfl ?_ | refine hLo.lda 6 rfl (by kernel_rfl) _ rfl ?_ | refine hLo.lda 7 rfl (by kernel_rfl) _ rfl ?_))
  refine ifW_dec (fun h4 => ?_) fun h4 => no (fun h => by omega)
  repeat (first | refine ptrW_of ?_ | refine sameV_of ?_ | (first | refine hL.ld 0 rfl (by kernel_rfl) _ rfl ?_ | refine hL.ld 1 rfl (by kernel_rfl) _ rfl ?_ | refine hL.ld 2 rfl (by kernel_rfl) _ rfl ?_ | refine hL.ld 3 rfl (by kernel_rfl) _ rfl ?_ | refine hL.ld 4 rfl (by kernel_rfl) _ rfl ?_ | refine hL.ld 5 rfl (by kernel_rfl) _ rfl ?_ | refine hL.ld 6 rfl (by kernel_rfl) _ rfl ?_ | refine hL.ld 7 rfl (by kernel_rfl) _ rfl ?_ | refine hL.lda 0 rfl (by kernel_rfl) _ rfl ?_ | refine hL.lda 1 rfl (by kernel_rfl) _ rfl ?_ | refine hL.lda 2 rfl (by kernel_rfl) _ rfl ?_ | refine hL.lda 3 rfl (by kernel_rfl) _ rfl ?_ | refine hL.lda 4 rfl (by kernel_rfl) _ rfl ?_ | refine hL.lda 5 rfl (by kernel_rfl) _ rfl ?_ | refine hL.lda 6 rfl (by kernel_rfl) _ rfl ?_ | refine hL.lda 7 rfl (by kernel_rfl) _ rfl ?_) | (first | refine hLo.ld 0 rfl (by kernel_rfl) _ rfl ?_ | refine hLo.ld 1 rfl (by kernel_rfl) _ rfl ?_ | refine hLo.ld 2 rfl (by kernel_rfl) _ rfl ?_ | refine hLo.ld 3 rfl (by kernel_rfl) _ rfl ?_ | refine hLo.ld 4 rfl (by kernel_rfl) _ rfl ?_ | refine hLo.ld 5 rfl (by kernel_rfl) _ rfl ?_ | refine hLo.ld 6 rfl (by kernel_rfl) _ rfl ?_ | refine hLo.ld 7 rfl (by kernel_rfl) _ rfl ?_ | refine hLo.lda 0 rfl (by kernel_rfl) _ rfl ?_ | refine hLo.lda 1 rfl (by kernel_rfl) _ rfl ?_ | refine hLo.lda 2 rfl (by kernel_rfl) _ rfl ?_ | refine hLo.lda 3 rfl (by kernel_rfl) _ rfl ?_ | refine hLo.lda 4 rfl (by kernel_rfl) _ rfl ?_ | refine hLo.lda 5 rfl (by kernel_rfl) _ rfl ?_ | refine hLo.lda 6 rfl (by kernel_rfl) _ rfl ?_ | refine hLo.lda 7 rfl (by kernel_rfl) _ rfl ?_))
  refine ifW_dec (fun h5 => ?_) fun h5 => no (fun h => by omega)
  repeat (first | refine ptrW_of ?_ | refine sameV_of ?_ | (first | refine hL.ld 0 rfl (by kernel_rfl) _ rfl ?_ | refine hL.ld 1 rfl (by kernel_rfl) _ rfl ?_ | refine hL.ld 2 rfl (by kernel_rfl) _ rfl ?_ | refine hL.ld 3 rfl (by kernel_rfl) _ rfl ?_ | refine hL.ld 4 rfl (by kernel_rfl) _ rfl ?_ | refine hL.ld 5 rfl (by kernel_rfl) _ rfl ?_ | refine hL.ld 6 rfl (by kernel_rfl) _ rfl ?_ | refine hL.ld 7 rfl (by kernel_rfl) _ rfl ?_ | refine hL.lda 0 rfl (by kernel_rfl) _ rfl ?_ | refine hL.lda 1 rfl (by kernel_rfl) _ rfl ?_ | refine hL.lda 2 rfl (by kernel_rfl) _ rfl ?_ | refine hL.lda 3 rfl (by kernel_rfl) _ rfl ?_ | refine hL.lda 4 rfl (by kernel_rfl) _ rfl ?_ | refine hL.lda 5 rfl (by kernel_rfl) _ rfl ?_ | refine hL.lda 6 rfl (by kernel_rfl) _ rfl ?_ | refine hL.lda 7 rfl (by kernel_rfl) _ rfl ?_) | (first | refine hLo.ld 0 rfl (by kernel_rfl) _ rfl ?_ | refine hLo.ld 1 rfl (by kernel_rfl) _ rfl ?_ | refine hLo.ld 2 rfl (by kernel_rfl) _ rfl ?_ | refine hLo.ld 3 rfl (by kernel_rfl) _ rfl ?_ | refine hLo.ld 4 rfl (by kernel_rfl) _ rfl ?_ | refine hLo.ld 5 rfl (by kernel_rfl) _ rfl ?_ | refine hLo.ld 6 rfl (by kernel_rfl) _ rfl ?_ | refine hLo.ld 7 rfl (by kernel_rfl) _ rfl ?_ | refine hLo.lda 0 rfl (by kernel_rfl) _ rfl ?_ | refine hLo.lda 1 rfl (by kernel_rfl) _ rfl ?_ | refine hLo.lda 2 rfl (by kernel_rfl) _ rfl ?_ | refine hLo.lda 3 rfl (by kernel_rfl) _ rfl ?_ | refine hLo.lda 4 rfl (by kernel_rfl) _ rfl ?_ | refine hLo.lda 5 rfl (by kernel_rfl) _ rfl ?_ | refine hLo.lda 6 rfl (by kernel_rfl) _ rfl ?_ | refine hLo.lda 7 rfl (by kernel_rfl) _ rfl ?_))
  have e : ltI y.2.2 1024 = decide ((1 ≤ y.1 ∧ y.1 ≤ 3) ∧ (0 ≤ y.2.1 ∧ y.2.1 ≤ 63) ∧ 0 ≤ y.2.2 ∧ y.2.2 ≤ 1023) := by
    rw [ltI_eq]
    exact decide_eq_decide.2 (by omega)
  rw [e]
  exact hk
theorem s28 {S : St} {y : Stp} {k : Value → St → Prop} (hk : ∀ S', Ext S S' → k (.bool (!decide (mayS y))) S') : WC E0 28 [sv G40 y] S k := by
  refine w28 y ?_
  unfold c28
  have hL := Hld.start noB S
  refine hL.new fun b1 S1 hL _ _ => ?_
  (first | refine hL.ld 0 rfl (by kernel_rfl) _ rfl ?_ | refine hL.ld 1 rfl (by kernel_rfl) _ rfl ?_ | refine hL.ld 2 rfl (by kernel_rfl) _ rfl ?_ | refine hL.ld 3 rfl (by kernel_rfl) _ rfl ?_ | refine hL.ld 4 rfl (by kernel_rfl) _ rfl ?_ | refine hL.ld 5 rfl (by kernel_rfl) _ rfl ?_ | refine hL.ld 6 rfl (by kernel_rfl) _ rfl ?_ | refine hL.ld 7 rfl (by kernel_rfl) _ rfl ?_ | refine hL.lda 0 rfl (by kernel_rfl) _ rfl ?_ | refine hL.lda 1 rfl (by kernel_rfl) _ rfl ?_ | refine hL.lda 2 rfl (by kernel_rfl) _ rfl ?_ | refine hL.lda 3 rfl (by kernel_rfl) _ rfl ?_ | refine hL.lda 4 rfl (by kernel_rfl) _ rfl ?_ | refine hL.lda 5 rfl (by kernel_rfl) _ rfl ?_ | refine hL.lda 6 rfl (by kernel_rfl) _ rfl ?_ | refine hL.lda 7 rfl (by kernel_rfl) _ rfl ?_)
  refine evC_of (s29 fun S2 e2 => ⟨_, rfl, ?_⟩)
  exact hk _ (hL.ext e2).mod
theorem s55 {S : St} {s : Sl} {l : List Stp} {k : Value → St → Prop} (h : Sts S s l) (hlen : l.length ≤ 100000000) (hk : ∀ i S', Ext S S' → (0 ≤ i ↔ ∃ y ∈ l, ¬ mayS y) → k (.int .i64 i) S') :
    WC E0 55 [.slice s.a s.len s.cap, .func (.func 28) #[] #[]] S k := by
  refine w55 s _ ?_
  unfold c55
  refine loopW_ind (fun q (n1 : Int) S' => ∃ n : Nat, n1 = n ∧ n ≤ l.length ∧ q = l.length - n ∧ Ext S S' ∧ ∀ y ∈ l.take n, mayS y) (m := l.length) ⟨0, rfl, by omega, rfl, Mod.refl _ _, by simp⟩ ?_
  rintro P q n1 S1 ⟨n, rfl, hn, rfl, e1, hm⟩ hP
  have hl := h.len
  refine ifW_dec (fun hlt => ?_) fun hlt => ?_
  · have hn' : n < l.length := by rw [hl] at hlt; omega
    refine SlOf.stp (Ext.slOf e1 h) hn' ?_
    refine evY_func (evC_of (s28 fun S2 e2 => ⟨_, rfl, ?_⟩))
    refine ifW_ndec (fun hb => ?_) fun hb => ?_
    · exact hk _ _ (e1.tr e2) ⟨fun _ => ⟨l[n], List.getElem_mem hn', hb⟩, fun _ => by omega⟩
    · rw [wrap_succ (by omega)]
      refine hP _ _ _ (by omega) ⟨n + 1, rfl, by omega, rfl, e1.tr e2, ?_⟩
      rw [take_snoc hn']
      intro x hx
      rcases List.mem_append.1 hx with hx | hx
      · exact hm x hx
      · rw [List.mem_singleton.1 hx]; exact hb
  · have hn' : n = l.length := by rw [hl] at hlt; omega
    refine hk _ _ e1 ⟨fun hh => by omega, fun ⟨x, hx, hb⟩ => ?_⟩
    rw [hn', List.take_length] at hm
    exact (hb (hm x hx)).elim
theorem s31 {S : St} {s : Sl} {l : List Stp} {k : Value → St → Prop} (h : Sts S s l) (hlen : l.length ≤ 100000000) (hk : ∀ t S', Ext S S' → (t = true ↔ ∃ y ∈ l, ¬ mayS y) → k (.bool t) S') :
    WC E0 31 [.slice s.a s.len s.cap, .func (.func 28) #[] #[]] S k := by
  refine w31 s _ ?_
  unfold c31
  refine evC_of (s55 h hlen fun i S1 e1 hi => ⟨_, rfl, ?_⟩)
  exact hk _ _ e1 (by rw [leI_eq, decide_eq_true_iff]; exact hi)
/-- Check. -/
theorem s16 {S : St} {x : Pg} {l : List Stp} {k : Value → St → Prop} (g : Gl S) (h : Sts S (pS x) l) (hk : ∀ S', Ext S S' → k (.int .i64 (chkG (pO x) (pE x) l)) S') : WC E0 16 [sv G38 x] S k := by
  refine w16 x ?_
  unfold c16
  have hL := Hld.start noB S
  refine hL.new fun b1 S1 hL _ _ => ?_
  have hl := h.len
  unfold chkG at hk
  have no : ∀ {S'}, ¬ mayG (pO x) (pE x) l → Ext S S' → k (.int .i64 280) S' := fun h e => by have := hk _ e; rw [if_neg h] at this; exact this
  have yes : ∀ {S'}, mayG (pO x) (pE x) l → Ext S S' → k (.int .i64 0) S' := fun h e => by have := hk _ e; rw [if_pos h] at this; exact this
  unfold mayG at no yes
  refine ptrW_of ?_
  refine hL.lda 0 rfl (by kernel_rfl) (pO x) rfl ?_
  refine evC_of (s30 (g.ext hL.mod) fun S2 e2 => ⟨_, rfl, ?_⟩)
  have hL := hL.ext e2
  refine ifW_ndec (fun hc => ?_) fun hc => ?_
  · exact no (fun h => hc (if_pos h.1)) hL.mod
  have hm : mayP (pO x) := by
    by_cases h' : mayP (pO x)
    · exact h'
    · unfold chkE at hc; rw [if_neg h'] at hc; cases hc
  refine ptrW_of ?_
  refine hL.ld 0 rfl (by kernel_rfl) (pE x) rfl ?_
  refine ifW_dec (fun h1 => no (fun h => by omega) hL.mod) fun h1 => ?_
  refine ptrW_of ?_
  refine hL.ld 0 rfl (by kernel_rfl) (pE x) rfl ?_
  refine ifW_dec (fun h2 => no (fun h => by omega) hL.mod) fun h2 => ?_
  refine ptrW_of ?_
  refine hL.ld 0 rfl (by kernel_rfl) (pS x) rfl ?_
  refine ifW_dec (fun h3 => no (fun h => by omega) hL.mod) fun h3 => ?_
  have hlen : l.length ≤ 1000 := by omega
  have rest : ((pE x) ≠ 0 → l = []) → evC E0 tB 31 [.slice (pS x).a (pS x).len (pS x).cap, .func (Fn.func 28) #[] #[]] S2 fun t S3 => ifW t (k (.int .i64 280) S3) (k (.int .i64 0) S3) := by
    intro hz
    refine evC_of (s31 (Ext.slOf hL.mod h) (by omega) fun t S3 e3 ht => ⟨t, rfl, ?_⟩)
    refine ifW_of (fun hb => ?_) fun hb => ?_
    · obtain ⟨y, hy, hn⟩ := ht.1 hb
      exact no (fun h => hn (h.2.2.2.2 y hy)) (hL.ext e3).mod
    · refine yes ⟨hm, ⟨by omega, by omega⟩, hlen, hz, fun y hy => ?_⟩ (hL.ext e3).mod
      by_cases hmy : mayS y
      · exact hmy
      · rw [ht.2 ⟨y, hy, hmy⟩] at hb; cases hb
  refine ptrW_of ?_
  refine hL.ld 0 rfl (by kernel_rfl) (pE x) rfl ?_
  refine ifW_ndec (fun h4 => ?_) fun h4 => ?_
  · refine ptrW_of ?_
    refine hL.ld 0 rfl (by kernel_rfl) (pS x) rfl ?_
    refine ifW_dec (fun h5 => no (fun h => ?_) hL.mod) fun h5 => ?_
    · have := h.2.2.2.1 h4
      rw [this] at hl; simp at hl; omega
    refine ptrW_of ?_
    refine hL.ld 0 rfl (by kernel_rfl) (pS x) rfl ?_
    exact rest fun _ => List.length_eq_zero_iff.1 (by omega)
  · refine ptrW_of ?_
    refine hL.ld 0 rfl (by kernel_rfl) (pS x) rfl ?_
    exact rest fun h => (h h4).elim
end
end Go.Proofs.YtfopfocedlbihaaGreatDoor

/- Pages: lines. -/
namespace Go.Proofs.YtfopfocedlbihaaGreatDoor
open Go Go.Proofs.YtfopfocedlbihaaGreatDoor.D
set_option linter.unusedVariables false
set_option linter.unusedSimpArgs false
noncomputable section

/-! ### The law -/
abbrev tabD : List (List UInt8) := [[], [103, 114, 97, 110, 116], [114, 101, 108, 101, 97, 115, 101], [109, 111, 118, 101]]
def nmS (k : Int) : List UInt8 := if 0 ≤ k ∧ k < 4 then tabD.getD k.toNat [] else []
def stepL (y : Stp) : List UInt8 := nmS y.1 ++ [58] ++ Lib.itoa y.2.1 ++ [58] ++ Lib.itoa y.2.2
def lineG (o : Ord) (e : Int) (l : List Stp) : List UInt8 := lineL o ++ [32, 61, 32] ++ Lib.itoa e ++ l.flatMap fun y => 32 :: stepL y
def lineGP (o : Ord) (e : Int) (l : List Stp) : List UInt8 × Int := if mayG o e l then (lineG o e l, 0) else ([], 280)
theorem jn_flat : ∀ (r : List (List UInt8)) (w : List UInt8), jn (w :: r) = w ++ r.flatMap fun v => 32 :: v
  | [], w => by rw [jn_one]; simp
  | v :: r, w => by rw [jn_cons, jn_flat r v]; simp
theorem lineG_jn (o : Ord) (e : Int) (l : List Stp) : lineG o e l = jn (lineL o :: [61] :: Lib.itoa e :: l.map stepL) := by
  rw [jn_flat]
  unfold lineG
  simp [List.flatMap_map]
/-- What of the package variables is known, the diary's words too. -/
structure Gd (S : St) : Prop where
  g : Gl S
  d : ∃ more ro fz, At S 0 (.cells (tabD.map strV) more ro fz)
theorem Gd.ext {S S' : St} (h : Gd S) (e : Ext S S') : Gd S' := by
  obtain ⟨g, a, b, c, hd⟩ := h
  exact ⟨g.ext e, a, b, c, e.at hd⟩
theorem tabD_get {k : Int} (h0 : 0 ≤ k) (h1 : k < 4) : (tabD.map strV)[0 + Int.toNat k * 1]? = some (strV (nmS k)) := by
  have hk : k.toNat < tabD.length := by show k.toNat < 4; omega
  rw [Nat.zero_add, Nat.mul_one, List.getElem?_map, List.getElem?_eq_getElem hk]
  unfold nmS
  rw [if_pos ⟨h0, h1⟩, List.getD_eq_getElem?_getD, List.getElem?_eq_getElem hk]
  rfl
theorem nmS_len (k : Int) : (nmS k).length ≤ 7 := by
  unfold nmS
  split
  · rename_i h
    have : ∀ n : Nat, n < 4 → (tabD.getD n []).length ≤ 7 := by decide
    exact this k.toNat (by omega)
  · simp
theorem itoa_len {n : Int} (h : i64 n) : (Lib.itoa n).length ≤ 21 := by
  unfold i64 at h
  unfold Lib.itoa
  split
  · have h1 : (Lib.decDigits n.natAbs).length ≤ 20 := dec_len (u := n.natAbs) (by omega)
    rw [List.length_cons]; omega
  · have h1 : (Lib.decDigits n.toNat).length ≤ 20 := dec_len (u := n.toNat) (by omega)
    omega
theorem stepL_len {y : Stp} (h : mayS y) : (stepL y).length ≤ 60 := by
  unfold mayS at h
  have h1 := nmS_len y.1
  have h2 := itoa_len (n := y.2.1) (by unfold i64; omega)
  have h3 := itoa_len (n := y.2.2) (by unfold i64; omega)
  unfold stepL
  simp only [List.length_append, List.length_cons, List.length_nil]
  omega
theorem flat_le {l : List Stp} (h : ∀ y ∈ l, mayS y) : (l.flatMap fun y => 32 :: stepL y).length ≤ 61 * l.length := by
  induction l with
  | nil => simp
  | cons y l ih =>
    have h1 := stepL_len (h y List.mem_cons_self)
    have h2 := ih fun z hz => h z (List.mem_cons_of_mem _ hz)
    rw [List.flatMap_cons, List.length_append, List.length_cons, List.length_cons]
    omega
theorem SlOf.blk {α : Type} {f : α → List Value} {sz : Nat} {S : St} {s : Sl} {l : List α} (hf : ∀ x, (f x).length = sz) (h : SlOf f sz S s l) {n : Nat} (hn : n < l.length) :
    ∃ b o cs more ro fz, s.a = some ⟨b, o, none⟩ ∧ At S b (.cells cs more ro fz) ∧ (cs.drop (o + (n : Int).toNat * sz)).take sz = f l[n] := by
  obtain ⟨b, o, _, _, _, cs, more, ro, fz, h1, h2, h3⟩ := h.idxL hf h.len hn (k := fun b o => ∃ cs more ro fz, s.a = some ⟨b, o, none⟩ ∧ At S b (.cells cs more ro fz) ∧ (cs.drop (o + (n : Int).toNat * sz)).take sz = f l[n]) (fun b o cs more ro fz ha e hv => ⟨cs, more, ro, fz, e, ha, hv⟩)
  exact ⟨b, o, cs, more, ro, fz, h1, h2, h3⟩
/-! ### The document's -/
theorem s36 {S : St} {x : Pg} {l : List Stp} {k : Value → St → Prop} (h : Sts S (pS x) l) (hk : ∀ S', Ext S S' → k (.bool (decide (mayG (pO x) (pE x) l))) S') : WC E0 36 [sv G38 x] S k := by
  refine w36 x ?_
  unfold c36
  have hL := Cx.start (S := S) (P := fun _ => True) noB trivial Frm.true (fun _ h => h.elim)
  refine hL.new fun b1 S1 hL _ _ => ?_
  have hl := h.len
  have no : ∀ {S'}, ¬ mayG (pO x) (pE x) l → Ext S S' → k (.bool false) S' := fun h e => by have := hk _ e; rw [decide_eq_false h] at this; exact this
  have yes : ∀ {S'}, mayG (pO x) (pE x) l → Ext S S' → k (.bool true) S' := fun h e => by have := hk _ e; rw [decide_eq_true h] at this; exact this
  unfold mayG at no yes
  refine ptrW_of ?_
  refine hL.lda 0 rfl (by kernel_rfl) (pO x) rfl ?_
  refine evC_of (s60 fun S2 e2 t ht => ⟨t, rfl, ?_⟩)
  have hL := hL.ext e2
  refine ifW_of (fun hc => ?_) fun hc => ?_
  · exact no (fun h => by rw [ht.2 h.1] at hc; cases hc) hL.mod
  have hm : mayP (pO x) := ht.1 (by simpa using hc)
  refine ptrW_of ?_
  refine hL.ld 0 rfl (by kernel_rfl) (pE x) rfl ?_
  refine ifW_dec (fun h1 => no (fun h => by omega) hL.mod) fun h1 => ?_
  refine ptrW_of ?_
  refine hL.ld 0 rfl (by kernel_rfl) (pE x) rfl ?_
  refine ifW_dec (fun h2 => no (fun h => by omega) hL.mod) fun h2 => ?_
  refine ptrW_of ?_
  refine hL.ld 0 rfl (by kernel_rfl) (pS x) rfl ?_
  refine ifW_dec (fun h3 => no (fun h => by omega) hL.mod) fun h3 => ?_
  have hlen : l.length ≤ 1000 := by omega
  refine ptrW_of ?_
  refine hL.ld 0 rfl (by kernel_rfl) (pE x) rfl ?_
  have hL0 := hL
  refine ifW_dec (fun h4 => ?_) fun h4 => ?_
  · refine ptrW_of ?_
    refine hL.ld 0 rfl (by kernel_rfl) (pS x) rfl ?_
    refine ifW_dec (fun h5 => no (fun h => ?_) hL.mod) fun h5 => ?_
    · have := h.2.2.2.1 (by omega)
      rw [this] at hl; simp at hl; omega
    have hz : (pE x) ≠ 0 → l = [] := fun _ => List.length_eq_zero_iff.1 (by omega)
    have hl0 : l = [] := List.length_eq_zero_iff.1 (by omega)
    refine loopW_ind (fun q (n1 : Int) S' => n1 = 0 ∧ S' = S2) (m := 0) ⟨rfl, rfl⟩ ?_
    rintro P q n1 S3 ⟨rfl, rfl⟩ hP
    refine ptrW_of ?_
    refine hL.ld 0 rfl (by kernel_rfl) (pS x) rfl ?_
    refine ifW_dec (fun h6 => (h5 h6).elim) fun h6 => ?_
    exact yes ⟨hm, ⟨by omega, by omega⟩, hlen, hz, by rw [hl0]; simp⟩ hL.mod
  · have hz : (pE x) ≠ 0 → l = [] := fun hh => by omega
    refine loopW_ind (fun q (n1 : Int) S' => ∃ n : Nat, n1 = n ∧ n ≤ l.length ∧ q = l.length - n ∧ Cx noB S S' [(b1, .cells (cellsG x) none false none)] noB (fun _ => True) ∧ ∀ y ∈ l.take n, mayS y) (m := l.length) ⟨0, rfl, by omega, rfl, hL, by simp⟩ ?_
    rintro P q n1 S3 ⟨n, rfl, hn, rfl, hL, hms⟩ hP
    refine ptrW_of ?_
    refine hL.ld 0 rfl (by kernel_rfl) (pS x) rfl ?_
    refine ifW_dec (fun hlt => ?_) fun hlt => ?_
    · have hn' : n < l.length := by omega
      refine ptrW_of ?_
      refine hL.ld 0 rfl (by kernel_rfl) (pS x) rfl ?_
      refine SlOf.stp (Ext.slOf hL.mod h) hn' ?_
      have hmem := List.getElem_mem hn'
      have hsn := take_snoc hn'
      generalize l[n] = y at hmem hsn ⊢
      refine hL.new fun b20 S4 hL hb20 hn20 => ?_
      (first | refine hL.st 0 _ rfl (by kernel_rfl) rfl (Nat.le_of_ble_eq_true rfl) rfl rfl fun S5 hL hn5 => ?_ | refine hL.st 1 _ rfl (by kernel_rfl) rfl (Nat.le_of_ble_eq_true rfl) rfl rfl fun S5 hL hn5 => ?_ | refine hL.st 2 _ rfl (by kernel_rfl) rfl (Nat.le_of_ble_eq_true rfl) rfl rfl fun S5 hL hn5 => ?_ | refine hL.st 3 _ rfl (by kernel_rfl) rfl (Nat.le_of_ble_eq_true rfl) rfl rfl fun S5 hL hn5 => ?_ | refine hL.st 4 _ rfl (by kernel_rfl) rfl (Nat.le_of_ble_eq_true rfl) rfl rfl fun S5 hL hn5 => ?_ | refine hL.st 5 _ rfl (by kernel_rfl) rfl (Nat.le_of_ble_eq_true rfl) rfl rfl fun S5 hL hn5 => ?_ | refine hL.st 6 _ rfl (by kernel_rfl) rfl (Nat.le_of_ble_eq_true rfl) rfl rfl fun S5 hL hn5 => ?_ | refine hL.st 7 _ rfl (by kernel_rfl) rfl (Nat.le_of_ble_eq_true rfl) rfl rfl fun S5 hL hn5 => ?_)
      have bad : ¬ mayS y → k (.bool false) S5 := fun hy => no (fun h => hy (h.2.2.2.2 y hmem)) hL.mod
      unfold mayS at bad
      repeat (first | refine ptrW_of ?_ | refine sameV_of ?_ | (first | refine hL.ld 0 rfl (by kernel_rfl) _ rfl ?_ | refine hL.ld 1 rfl (by kernel_rfl) _ rfl ?_ | refine hL.ld 2 rfl (by kernel_rfl) _ rfl ?_ | refine hL.ld 3 rfl (by kernel_rfl) _ rfl ?_ | refine hL.ld 4 rfl (by kernel_rfl) _ rfl ?_ | refine hL.ld 5 rfl (by kernel_rfl) _ rfl ?_ | refine hL.ld 6 rfl (by kernel_rfl) _ rfl ?_ | refine hL.ld 7 rfl (by kernel_rfl) _ rfl ?_ | refine hL.lda 0 rfl (by kernel_rfl) _ rfl ?_ | refine hL.lda 1 rfl (by kernel_rfl) _ rfl ?_ | refine hL.lda 2 rfl (by kernel_rfl) _ rfl ?_ | refine hL.lda 3 rfl (by kernel_rfl) _ rfl ?_ | refine hL.lda 4 rfl (by kernel_rfl) _ rfl ?_ | refine hL.lda 5 rfl (by kernel_rfl) _ rfl ?_ | refine hL.lda 6 rfl (by kernel_rfl) _ rfl ?_ | refine hL.lda 7 rfl (by kernel_rfl) _ rfl ?_) | (first | refine hLo.ld 0 rfl (by kernel_rfl) _ rfl ?_ | refine hLo.ld 1 rfl (by kernel_rfl) _ rfl ?_ | refine hLo.ld 2 rfl (by kernel_rfl) _ rfl ?_ | refine hLo.ld 3 rfl (by kernel_rfl) _ rfl ?_ | refine hLo.ld 4 rfl (by kernel_rfl) _ rfl ?_ | refine hLo.ld 5 rfl (by kernel_rfl) _ rfl ?_ | refine hLo.ld 6 rfl (by kernel_rfl) _ rfl ?_ | refine hLo.ld 7 rfl (by kernel_rfl) _ rfl ?_ | refine hLo.lda 0 rfl (by kernel_rfl) _ rfl ?_ | refine hLo.lda 1 rfl (by kernel_rfl) _ rfl ?_ | refine hLo.lda 2 rfl (by kernel_rfl) _ rfl ?_ | refine hLo.lda 3 rfl (by kernel_rfl) _ rfl ?_ | refine hLo.lda 4 rfl (by kernel_rfl) _ rfl ?_ | refine hLo.lda 5 rfl (by kernel_rfl) _ rfl ?_ | refine hLo.lda 6 rfl (by kernel_rfl) _ rfl ?_ | refine hLo.lda 7 rfl (by kernel_rfl) _ rfl ?_))
      refine ifW_dec (fun q1 => bad (fun h => by omega)) fun q1 => ?_
      repeat (first | refine ptrW_of ?_ | refine sameV_of ?_ | (first | refine hL.ld 0 rfl (by kernel_rfl) _ rfl ?_ | refine hL.ld 1 rfl (by kernel_rfl) _ rfl ?_ | refine hL.ld 2 rfl (by kernel_rfl) _ rfl ?_ | refine hL.ld 3 rfl (by kernel_rfl) _ rfl ?_ | refine hL.ld 4 rfl (by kernel_rfl) _ rfl ?_ | refine hL.ld 5 rfl (by kernel_rfl) _ rfl ?_ | refine hL.ld 6 rfl (by kernel_rfl) _ rfl ?_ | refine hL.ld 7 rfl (by kernel_rfl) _ rfl ?_ | refine hL.lda 0 rfl (by kernel_rfl) _ rfl ?_ | refine hL.lda 1 rfl (by kernel_rfl) _ rfl ?_ | refine hL.lda 2 rfl (by kernel_rfl) _ rfl ?_ | refine hL.lda 3 rfl (by kernel_rfl) _ rfl ?_ | refine hL.lda 4 rfl (by kernel_rfl) _ rfl ?_ | refine hL.lda 5 rfl (by kernel_rfl) _ rfl ?_ | refine hL.lda 6 rfl (by kernel_rfl) _ rfl ?_ | refine hL.lda 7 rfl (by kernel_rfl) _ rfl ?_) | (first | refine hLo.ld 0 rfl (by kernel_rfl) _ rfl ?_ | refine hLo.ld 1 rfl (by kernel_rfl) _ rfl ?_ | refine hLo.ld 2 rfl (by kernel_rfl) _ rfl ?_ | refine hLo.ld 3 rfl (by kernel_rfl) _ rfl ?_ | refine hLo.ld 4 rfl (by kernel_rfl) _ rfl ?_ | refine hLo.ld 5 rfl (by kernel_rfl) _ rfl ?_ | refine hLo.ld 6 rfl (by kernel_rfl) _ rfl ?_ | refine hLo.ld 7 rfl (by kernel_rfl) _ rfl ?_ | refine hLo.lda 0 rfl (by kernel_rfl) _ rfl ?_ | refine hLo.lda 1 rfl (by kernel_rfl) _ rfl ?_ | refine hLo.lda 2 rfl (by kernel_rfl) _ rfl ?_ | refine hLo.lda 3 rfl (by kernel_rfl) _ rfl ?_ | refine hLo.lda 4 rfl (by kernel_rfl) _ rfl ?_ | refine hLo.lda 5 rfl (by kernel_rfl) _ rfl ?_ | refine hLo.lda 6 rfl (by kernel_rfl) _ rfl ?_ | refine hLo.lda 7 rfl (by kernel_rfl) _ rfl ?_))
      refine ifW_dec (fun q2 => bad (fun h => by omega)) fun q2 => ?_
      repeat (first | refine ptrW_of ?_ | refine sameV_of ?_ | (first | refine hL.ld 0 rfl (by kernel_rfl) _ rfl ?_ | refine hL.ld 1 rfl (by kernel_rfl) _ rfl ?_ | refine hL.ld 2 rfl (by kernel_rfl) _ rfl ?_ | refine hL.ld 3 rfl (by kernel_rfl) _ rfl ?_ | refine hL.ld 4 rfl (by kernel_rfl) _ rfl ?_ | refine hL.ld 5 rfl (by kernel_rfl) _ rfl ?_ | refine hL.ld 6 rfl (by kernel_rfl) _ rfl ?_ | refine hL.ld 7 rfl (by kernel_rfl) _ rfl ?_ | refine hL.lda 0 rfl (by kernel_rfl) _ rfl ?_ | refine hL.lda 1 rfl (by kernel_rfl) _ rfl ?_ | refine hL.lda 2 rfl (by kernel_rfl) _ rfl ?_ | refine hL.lda 3 rfl (by kernel_rfl) _ rfl ?_ | refine hL.lda 4 rfl (by kernel_rfl) _ rfl ?_ | refine hL.lda 5 rfl (by kernel_rfl) _ rfl ?_ | refine hL.lda 6 rfl (by kernel_rfl) _ rfl ?_ | refine hL.lda 7 rfl (by kernel_rfl) _ rfl ?_) | (first | refine hLo.ld 0 rfl (by kernel_rfl) _ rfl ?_ | refine hLo.ld 1 rfl (by kernel_rfl) _ rfl ?_ | refine hLo.ld 2 rfl (by kernel_rfl) _ rfl ?_ | refine hLo.ld 3 rfl (by kernel_rfl) _ rfl ?_ | refine hLo.ld 4 rfl (by kernel_rfl) _ rfl ?_ | refine hLo.ld 5 rfl (by kernel_rfl) _ rfl ?_ | refine hLo.ld 6 rfl (by kernel_rfl) _ rfl ?_ | refine hLo.ld 7 rfl (by kernel_rfl) _ rfl ?_ | refine hLo.lda 0 rfl (by kernel_rfl) _ rfl ?_ | refine hLo.lda 1 rfl (by kernel_rfl) _ rfl ?_ | refine hLo.lda 2 rfl (by kernel_rfl) _ rfl ?_ | refine hLo.lda 3 rfl (by kernel_rfl) _ rfl ?_ | refine hLo.lda 4 rfl (by kernel_rfl) _ rfl ?_ | refine hLo.lda 5 rfl (by kernel_rfl) _ rfl ?_ | refine hLo.lda 6 rfl (by kernel_rfl) _ rfl ?_ | refine hLo.lda 7 rfl (by kernel_rfl) _ rfl ?_))
      refine ifW_dec (fun q3 => bad (fun h => by omega)) fun q3 => ?_
      repeat (first | refine ptrW_of ?_ | refine sameV_of ?_ | (first | refine hL.ld 0 rfl (by kernel_rfl) _ rfl ?_ | refine hL.ld 1 rfl (by kernel_rfl) _ rfl ?_ | refine hL.ld 2 rfl (by kernel_rfl) _ rfl ?_ | refine hL.ld 3 rfl (by kernel_rfl) _ rfl ?_ | refine hL.ld 4 rfl (by kernel_rfl) _ rfl ?_ | refine hL.ld 5 rfl (by kernel_rfl) _ rfl ?_ | refine hL.ld 6 rfl (by kernel_rfl) _ rfl ?_ | refine hL.ld 7 rfl (by kernel_rfl) _ rfl ?_ | refine hL.lda 0 rfl (by kernel_rfl) _ rfl ?_ | refine hL.lda 1 rfl (by kernel_rfl) _ rfl ?_ | refine hL.lda 2 rfl (by kernel_rfl) _ rfl ?_ | refine hL.lda 3 rfl (by kernel_rfl) _ rfl ?_ | refine hL.lda 4 rfl (by kernel_rfl) _ rfl ?_ | refine hL.lda 5 rfl (by kernel_rfl) _ rfl ?_ | refine hL.lda 6 rfl (by kernel_rfl) _ rfl ?_ | refine hL.lda 7 rfl (by kernel_rfl) _ rfl ?_) | (first | refine hLo.ld 0 rfl (by kernel_rfl) _ rfl ?_ | refine hLo.ld 1 rfl (by kernel_rfl) _ rfl ?_ | refine hLo.ld 2 rfl (by kernel_rfl) _ rfl ?_ | refine hLo.ld 3 rfl (by kernel_rfl) _ rfl ?_ | refine hLo.ld 4 rfl (by kernel_rfl) _ rfl ?_ | refine hLo.ld 5 rfl (by kernel_rfl) _ rfl ?_ | refine hLo.ld 6 rfl (by kernel_rfl) _ rfl ?_ | refine hLo.ld 7 rfl (by kernel_rfl) _ rfl ?_ | refine hLo.lda 0 rfl (by kernel_rfl) _ rfl ?_ | refine hLo.lda 1 rfl (by kernel_rfl) _ rfl ?_ | refine hLo.lda 2 rfl (by kernel_rfl) _ rfl ?_ | refine hLo.lda 3 rfl (by kernel_rfl) _ rfl ?_ | refine hLo.lda 4 rfl (by kernel_rfl) _ rfl ?_ | refine hLo.lda 5 rfl (by kernel_rfl) _ rfl ?_ | refine hLo.lda 6 rfl (by kernel_rfl) _ rfl ?_ | refine hLo.lda 7 rfl (by kernel_rfl) _ rfl ?_))
      refine ifW_dec (fun q4 => bad (fun h => by omega)) fun q4 => ?_
      repeat (first | refine ptrW_of ?_ | refine sameV_of ?_ | (first | refine hL.ld 0 rfl (by kernel_rfl) _ rfl ?_ | refine hL.ld 1 rfl (by kernel_rfl) _ rfl ?_ | refine hL.ld 2 rfl (by kernel_rfl) _ rfl ?_ | refine hL.ld 3 rfl (by kernel_rfl) _ rfl ?_ | refine hL.ld 4 rfl (by kernel_rfl) _ rfl ?_ | refine hL.ld 5 rfl (by kernel_rfl) _ rfl ?_ | refine hL.ld 6 rfl (by kernel_rfl) _ rfl ?_ | refine hL.ld 7 rfl (by kernel_rfl) _ rfl ?_ | refine hL.lda 0 rfl (by kernel_rfl) _ rfl ?_ | refine hL.lda 1 rfl (by kernel_rfl) _ rfl ?_ | refine hL.lda 2 rfl (by kernel_rfl) _ rfl ?_ | refine hL.lda 3 rfl (by kernel_rfl) _ rfl ?_ | refine hL.lda 4 rfl (by kernel_rfl) _ rfl ?_ | refine hL.lda 5 rfl (by kernel_rfl) _ rfl ?_ | refine hL.lda 6 rfl (by kernel_rfl) _ rfl ?_ | refine hL.lda 7 rfl (by kernel_rfl) _ rfl ?_) | (first | refine hLo.ld 0 rfl (by kernel_rfl) _ rfl ?_ | refine hLo.ld 1 rfl (by kernel_rfl) _ rfl ?_ | refine hLo.ld 2 rfl (by kernel_rfl) _ rfl ?_ | refine hLo.ld 3 rfl (by kernel_rfl) _ rfl ?_ | refine hLo.ld 4 rfl (by kernel_rfl) _ rfl ?_ | refine hLo.ld 5 rfl (by kernel_rfl) _ rfl ?_ | refine hLo.ld 6 rfl (by kernel_rfl) _ rfl ?_ | refine hLo.ld 7 rfl (by kernel_rfl) _ rfl ?_ | refine hLo.lda 0 rfl (by kernel_rfl) _ rfl ?_ | refine hLo.lda 1 rfl (by kernel_rfl) _ rfl ?_ | refine hLo.lda 2 rfl (by kernel_rfl) _ rfl ?_ | refine hLo.lda 3 rfl (by kernel_rfl) _ rfl ?_ | refine hLo.lda 4 rfl (by kernel_rfl) _ rfl ?_ | refine hLo.lda 5 rfl (by kernel_rfl) _ rfl ?_ | refine hLo.lda 6 rfl (by kernel_rfl) _ rfl ?_ | refine hLo.lda 7 rfl (by kernel_rfl) _ rfl ?_))
      refine ifW_dec (fun q5 => bad (fun h => by omega)) fun q5 => ?_
      repeat (first | refine ptrW_of ?_ | refine sameV_of ?_ | (first | refine hL.ld 0 rfl (by kernel_rfl) _ rfl ?_ | refine hL.ld 1 rfl (by kernel_rfl) _ rfl ?_ | refine hL.ld 2 rfl (by kernel_rfl) _ rfl ?_ | refine hL.ld 3 rfl (by kernel_rfl) _ rfl ?_ | refine hL.ld 4 rfl (by kernel_rfl) _ rfl ?_ | refine hL.ld 5 rfl (by kernel_rfl) _ rfl ?_ | refine hL.ld 6 rfl (by kernel_rfl) _ rfl ?_ | refine hL.ld 7 rfl (by kernel_rfl) _ rfl ?_ | refine hL.lda 0 rfl (by kernel_rfl) _ rfl ?_ | refine hL.lda 1 rfl (by kernel_rfl) _ rfl ?_ | refine hL.lda 2 rfl (by kernel_rfl) _ rfl ?_ | refine hL.lda 3 rfl (by kernel_rfl) _ rfl ?_ | refine hL.lda 4 rfl (by kernel_rfl) _ rfl ?_ | refine hL.lda 5 rfl (by kernel_rfl) _ rfl ?_ | refine hL.lda 6 rfl (by kernel_rfl) _ rfl ?_ | refine hL.lda 7 rfl (by kernel_rfl) _ rfl ?_) | (first | refine hLo.ld 0 rfl (by kernel_rfl) _ rfl ?_ | refine hLo.ld 1 rfl (by kernel_rfl) _ rfl ?_ | refine hLo.ld 2 rfl (by kernel_rfl) _ rfl ?_ | refine hLo.ld 3 rfl (by kernel_rfl) _ rfl ?_ | refine hLo.ld 4 rfl (by kernel_rfl) _ rfl ?_ | refine hLo.ld 5 rfl (by kernel_rfl) _ rfl ?_ | refine hLo.ld 6 rfl (by kernel_rfl) _ rfl ?_ | refine hLo.ld 7 rfl (by kernel_rfl) _ rfl ?_ | refine hLo.lda 0 rfl (by kernel_rfl) _ rfl ?_ | refine hLo.lda 1 rfl (by kernel_rfl) _ rfl ?_ | refine hLo.lda 2 rfl (by kernel_rfl) _ rfl ?_ | refine hLo.lda 3 rfl (by kernel_rfl) _ rfl ?_ | refine hLo.lda 4 rfl (by kernel_rfl) _ rfl ?_ | refine hLo.lda 5 rfl (by kernel_rfl) _ rfl ?_ | refine hLo.lda 6 rfl (by kernel_rfl) _ rfl ?_ | refine hLo.lda 7 rfl (by kernel_rfl) _ rfl ?_))
      refine ifW_dec (fun q6 => bad (fun h => by omega)) fun q6 => ?_
      rw [wrap_succ (by omega)]
      refine hP _ _ _ (by omega) ⟨n + 1, rfl, by omega, rfl, hL.tl 1, ?_⟩
      · rw [hsn]
        intro z hz
        rcases List.mem_append.1 hz with hz | hz
        · exact hms z hz
        · rw [List.mem_singleton.1 hz]; exact ⟨⟨by omega, by omega⟩, ⟨by omega, by omega⟩, by omega, by omega⟩
    · have hn' : n = l.length := by omega
      rw [hn', List.take_length] at hms
      exact yes ⟨hm, ⟨by omega, by omega⟩, hlen, hz, hms⟩ hL.mod
end
end Go.Proofs.YtfopfocedlbihaaGreatDoor

/- Pages: the document's line, the code's. -/
namespace Go.Proofs.YtfopfocedlbihaaGreatDoor
open Go Go.Proofs.YtfopfocedlbihaaGreatDoor.D
set_option linter.unusedVariables false
set_option linter.unusedSimpArgs false
noncomputable section

theorem dig_wrapI (m : Nat) (hm : m < 9223372036854775808) : Value.int .u8 (wrapI .u8 (wrapI .i64 (48 + Int.tmod (m : Int) 10))) = byV (UInt8.ofNat (48 + m % 10)) := by
  have h1 : Int.tmod (m : Int) 10 = ((m % 10 : Nat) : Int) := by rw [Int.tmod_eq_emod_of_nonneg (by omega)]; omega
  have h2 : m % 10 < 10 := Nat.mod_lt _ (by omega)
  rw [h1, wrap_i64 (by omega) (by omega), wrap_u8 (by omega) (by omega), byV, ofNat_toNat (by omega)]
  congr 1
theorem s38 {S : St} {u : Nat} {k : Value → St → Prop} (hu : u < 9223372036854775808) (hk : ∀ S', Ext S S' → k (strV (dec u)) S') : WC E0 38 [.int .i64 (u : Int)] S k := by
  refine w38 _ ?_
  unfold c38
  refine ⟨rfl, ?_⟩
  rw [dig_wrapI u hu]
  refine newW_of fun b1 S1 hb1 ha1 e1 hn1 => ?_
  refine ⟨[UInt8.ofNat (48 + u % 10)], S1, one_str ha1, ?_⟩
  refine loopW_ind (fun q (x : Int × List UInt8) S' => ∃ m : Nat, x.1 = m ∧ q = m ∧ m ≤ u ∧ dec u = dHead m ++ x.2 ∧ Ext S S') (m := u) ⟨u, rfl, rfl, Nat.le_refl _, dec_head u, e1⟩ ?_
  rintro P q ⟨y, s⟩ S2 ⟨m, hy, hq, hm, hd, e2⟩ hP
  dsimp only at hy hd ⊢
  subst hy
  refine ifW_dec (fun h => ?_) fun h => ?_
  · refine ⟨rfl, ⟨rfl, ?_⟩⟩
    have hw : wrapI .i64 (Int.tdiv (m : Int) 10) = ((m / 10 : Nat) : Int) := by
      rw [Int.tdiv_eq_ediv_of_nonneg (by omega), wrap_i64 (by omega) (by omega)]
      omega
    rw [hw, dig_wrapI (m / 10) (by omega)]
    refine newW_of fun b2 S3 hb2 ha2 e3 hn3 => ?_
    refine ⟨[UInt8.ofNat (48 + m / 10 % 10)], S3, one_str ha2, ?_⟩
    have hl := dec_len (u := u) (by omega)
    have hsl : s.length ≤ 20 := by rw [hd, List.length_append] at hl; omega
    refine evV_of (ty := tT) _ (cat_eq (by simp; omega)) ?_
    refine hP _ _ _ (by omega) ⟨m / 10, rfl, rfl, by omega, ?_, e2.tr e3⟩
    rw [hd]
    have h1 : dHead m = dec (m / 10) := by unfold dHead; rw [if_neg (by omega)]
    rw [h1, dec_head (m / 10)]
    simp
  · have h1 : dHead m = [] := by unfold dHead; rw [if_pos (by omega)]
    rw [h1, List.nil_append] at hd
    rw [← hd]
    exact hk S2 e2
theorem s39 {S : St} {kd : Int} {k : Value → St → Prop} (hk : ∀ S', Ext S S' → k (strV (nmS kd)) S') : WC E0 39 [.int .i64 kd] S k := by
  refine w39 kd ?_
  unfold c39
  refine ifW_dec (fun h => ?_) fun h => ?_
  · have hk := hk S (Mod.refl _ _)
    by_cases h0 : kd = 0
    · subst h0; exact hk
    · rw [show nmS kd = [] by unfold nmS; rw [if_neg (by omega)]] at hk
      exact hk
  refine ifW_dec (fun h2 => ?_) fun h2 => ?_
  · have hk := hk S (Mod.refl _ _)
    rw [show nmS kd = [] by unfold nmS; rw [if_neg (by omega)]] at hk
    exact hk
  refine newW_of fun b1 S1 hb ha e hn => ?_
  have hat : At S1 b1 (.cells (tabD.map strV) none false none) := ha
  refine ⟨b1, 0, rfl, by omega, by omega, ?_⟩
  refine evV_of (ty := tT) (nmS kd) ((load_one hat (by kernel_rfl)).trans (tabD_get (by omega) (by omega))) ?_
  exact hk S1 e
theorem itoa_of {n : Int} (h : 0 ≤ n) : Lib.itoa n = dec n.toNat := itoa_nn h
/-- What stands of a line behind n steps. -/
def accG (o : Ord) (e : Int) (l : List Stp) (n : Nat) : List UInt8 := lineL o ++ [32, 61, 32] ++ Lib.itoa e ++ (l.take n).flatMap fun y => 32 :: stepL y
theorem accG_succ {o : Ord} {e : Int} {l : List Stp} {n : Nat} (h : n < l.length) : accG o e l (n + 1) = accG o e l n ++ [32] ++ nmS l[n].1 ++ [58] ++ Lib.itoa l[n].2.1 ++ [58] ++ Lib.itoa l[n].2.2 := by
  unfold accG
  rw [take_snoc h, List.flatMap_append]
  simp [stepL]
theorem accG_len {o : Ord} {e : Int} {l : List Stp} (hw : OrdW o) (hm : mayG o e l) (n : Nat) : (accG o e l n).length ≤ 10000000 := by
  have h1 := line_len hw
  have h2 := itoa_len (n := e) (by unfold i64; have := hm.2.1; omega)
  have h3 := flat_le (l := l.take n) fun y hy => hm.2.2.2.2 y (List.mem_of_mem_take hy)
  have h4 : (l.take n).length ≤ l.length := by rw [List.length_take]; omega
  have h5 := hm.2.2.1
  unfold accG
  simp only [List.length_append, List.length_cons, List.length_nil]
  omega
theorem s20 {S : St} {x : Pg} {l : List Stp} {k : Value → St → Prop} (hw : OrdW (pO x)) (h : Sts S (pS x) l) (hk : ∀ S', Ext S S' → k (.tuple #[strV (lineGP (pO x) (pE x) l).1, .int .i64 (lineGP (pO x) (pE x) l).2]) S') : WC E0 20 [sv G38 x] S k := by
  refine w20 x ?_
  unfold c20
  have hL := Cx.start (S := S) (P := fun _ => True) noB trivial Frm.true (fun _ h => h.elim)
  refine hL.new fun b1 S1 hL _ _ => ?_
  refine hL.lda 0 rfl (by kernel_rfl) x rfl ?_
  refine evC_of (s36 (Ext.slOf hL.mod h) fun S2 e2 => ⟨_, rfl, ?_⟩)
  have hL := hL.ext e2
  unfold lineGP at hk
  refine ifW_ndec (fun hm => ?_) fun hm => ?_
  · rw [if_neg hm] at hk
    exact hk S2 hL.mod
  rw [if_pos hm] at hk
  have hlen := h.len
  have hacc := fun n => accG_len hw hm n
  obtain ⟨hmp, he, hl1000, hez, hms⟩ := id hm
  refine ptrW_of ?_
  refine hL.lda 0 rfl (by kernel_rfl) (pO x) rfl ?_
  refine evC_of (s37 hw fun S3 e3 => ⟨((lineP (pO x)).1, (lineP (pO x)).2), rfl, ?_⟩)
  have hL := hL.ext e3
  have hlp : lineP (pO x) = (lineL (pO x), 0) := if_pos hmp
  rw [hlp]
  have hll := line_len hw
  refine evV_of (ty := tT) (lineL (pO x) ++ [32, 61, 32]) (cat_eq (by simp; omega)) ?_
  refine ptrW_of ?_
  obtain ⟨ne, hne⟩ : ∃ ne : Nat, pE x = ne := ⟨(pE x).toNat, by omega⟩
  have hie : Lib.itoa (pE x) = dec ne := by rw [itoa_of he.1, hne]; rfl
  have hdl := dec_len (u := ne) (by omega)
  refine hL.ld 0 rfl (by kernel_rfl) (pE x) rfl ?_
  rw [hne]
  refine evC_of (s38 (by omega) fun S4 e4 => ⟨_, rfl, ?_⟩)
  have hL := hL.ext e4
  refine evV_of (ty := tT) (lineL (pO x) ++ [32, 61, 32] ++ dec ne) (cat_eq (by simp; omega)) ?_
  refine loopW_ind (fun q (z : List UInt8 × Int) S' => ∃ n : Nat, z = (accG (pO x) (pE x) l n, (n : Int)) ∧ n ≤ l.length ∧ q = l.length - n ∧ Cx noB S S' [(b1, .cells (cellsG x) none false none)] noB (fun _ => True)) (m := l.length)
    ⟨0, by simp [accG, hie], by omega, rfl, hL⟩ ?_
  rintro P q z S5 ⟨n, rfl, hn, rfl, hL⟩ hP
  refine ptrW_of ?_
  refine hL.ld 0 rfl (by kernel_rfl) (pS x) rfl ?_
  refine ifW_dec (fun hlt => ?_) fun hlt => ?_
  · have hn' : n < l.length := by
      have hlt : (n : Int) < ((pS x).len : Int) := hlt
      omega
    have hsucc := accG_succ (o := pO x) (e := pE x) hn'
    have hy := hms l[n] (List.getElem_mem hn')
    obtain ⟨b, o, cs, more, ro, fz, ea, hat, hv⟩ := SlOf.blk (f := cellsS) (sz := 3) (fun _ => rfl) (Ext.slOf hL.mod h) hn'
    have ld : ∀ {S' : St} {j : Nat} {v : Int} {k : Int → Prop}, At S' b (.cells cs more ro fz) → j < 3 → (cellsS l[n])[j]? = some (.int .i64 v) → k v → evV tI (loadV E0 S' 3 (.pointer (some ⟨b, o + (n : Int).toNat * 3 + j, none⟩))) k :=
      fun ha hj hv' hk => evV_of (ty := tI) _ ((load_one ha (by kernel_rfl)).trans ((at_take hv hj).trans hv')) hk
    have hacn := hacc n
    generalize accG (pO x) (pE x) l n = acc at hacn hsucc ⊢
    generalize l[n] = y at hy hsucc ld
    obtain ⟨yk, yr, yc⟩ := y
    unfold mayS at hy
    dsimp only at hy hsucc ld
    obtain ⟨nr, hnr⟩ : ∃ nr : Nat, yr = nr := ⟨yr.toNat, by omega⟩
    obtain ⟨nc, hnc⟩ : ∃ nc : Nat, yc = nc := ⟨yc.toNat, by omega⟩
    subst hnr hnc
    rw [itoa_of (n := ((nr : Nat) : Int)) (by omega), itoa_of (n := ((nc : Nat) : Int)) (by omega)] at hsucc
    have hnm := nmS_len yk
    have hd1 := dec_len (u := nr) (by omega)
    have hd2 := dec_len (u := nc) (by omega)
    have hidx : ∀ {S' : St} {k : Nat → Nat → Prop}, k b o → idxW (pS x).a (pS x).len (n : Int) k := fun hk => ⟨b, o, ea, by omega, by omega, hk⟩
    refine evV_of (ty := tT) (acc ++ [32]) (cat_eq (by simp; omega)) ?_
    refine ptrW_of ?_
    refine hL.ld 0 rfl (by kernel_rfl) (pS x) rfl ?_
    refine hidx (S' := S5) ?_
    refine ptrW_of ?_
    refine ld (j := 0) hat (by omega) rfl ?_
    refine evC_of (s39 fun S6 e6 => ⟨_, rfl, ?_⟩)
    have hLo := hL
    have hL := hL.ext e6
    have hat6 := e6.at hat
    refine evV_of (ty := tT) (acc ++ [32] ++ nmS yk) (cat_eq (by simp; omega)) ?_
    refine evV_of (ty := tT) (acc ++ [32] ++ nmS yk ++ [58]) (cat_eq (by simp; omega)) ?_
    refine ptrW_of ?_
    refine hL.ld 0 rfl (by kernel_rfl) (pS x) rfl ?_
    refine hLo.ld 0 rfl (by kernel_rfl) (pS x) rfl ?_
    refine sameV_of ?_
    refine hidx (S' := S6) ?_
    refine ptrW_of ?_
    refine ld (j := 1) hat6 (by omega) rfl ?_
    refine ld (j := 1) hat (by omega) rfl ?_
    refine sameV_of ?_
    refine evC_of (s38 (by omega) fun S7 e7 => ⟨_, rfl, ?_⟩)
    have hLoo := hL
    have hL := hL.ext e7
    have hat7 := e7.at hat6
    refine evV_of (ty := tT) (acc ++ [32] ++ nmS yk ++ [58] ++ dec nr) (cat_eq (by simp; omega)) ?_
    refine evV_of (ty := tT) (acc ++ [32] ++ nmS yk ++ [58] ++ dec nr ++ [58]) (cat_eq (by simp; omega)) ?_
    refine ptrW_of ?_
    refine hL.ld 0 rfl (by kernel_rfl) (pS x) rfl ?_
    refine hLoo.ld 0 rfl (by kernel_rfl) (pS x) rfl ?_
    refine sameV_of ?_
    refine hLo.ld 0 rfl (by kernel_rfl) (pS x) rfl ?_
    refine sameV_of ?_
    refine hidx (S' := S7) ?_
    refine ptrW_of ?_
    refine ld (j := 2) hat7 (by omega) rfl ?_
    refine ld (j := 2) hat6 (by omega) rfl ?_
    refine sameV_of ?_
    refine ld (j := 2) hat (by omega) rfl ?_
    refine sameV_of ?_
    refine evC_of (s38 (by omega) fun S8 e8 => ⟨_, rfl, ?_⟩)
    have hL := hL.ext e8
    refine evV_of (ty := tT) (acc ++ [32] ++ nmS yk ++ [58] ++ dec nr ++ [58] ++ dec nc) (cat_eq (by simp; omega)) ?_
    have hwr : wrapI .i64 ((n : Int) + 1) = ((n + 1 : Nat) : Int) := wrap_succ (by omega)
    refine hP _ _ _ (by omega) ⟨n + 1, ?_, by omega, rfl, hL⟩
    rw [hsucc]
    show (_, wrapI .i64 ((n : Int) + 1)) = _
    rw [hwr]
    rfl
  · have hn' : n = l.length := by
      have hlt : ¬ (n : Int) < ((pS x).len : Int) := hlt
      omega
    have e : accG (pO x) (pE x) l n = lineG (pO x) (pE x) l := by
      unfold accG lineG
      rw [hn', List.take_length]
    rw [e]
    exact hk S5 hL.mod
end
end Go.Proofs.YtfopfocedlbihaaGreatDoor

/- Pages: the code's line. -/
namespace Go.Proofs.YtfopfocedlbihaaGreatDoor
open Go Go.Proofs.YtfopfocedlbihaaGreatDoor.D
set_option linter.unusedVariables false
set_option linter.unusedSimpArgs false
noncomputable section

def wordsG (o : Ord) (e : Int) (l : List Stp) : List (List UInt8) := lineL o :: [61] :: Lib.itoa e :: l.map stepL
theorem wordsG_succ {o : Ord} {e : Int} {l : List Stp} {n : Nat} (h : n < l.length) : wordsG o e (l.take (n + 1)) = wordsG o e (l.take n) ++ [stepL l[n]] := by
  unfold wordsG
  rw [take_snoc h, List.map_append]
  rfl
theorem wordsG_len {o : Ord} {e : Int} {l : List Stp} : (wordsG o e l).length = l.length + 3 := by simp [wordsG]
theorem s17 {S : St} {x : Pg} {l : List Stp} {k : Value → St → Prop} (g : Gd S) (hw : OrdW (pO x)) (h : Sts S (pS x) l) (hk : ∀ S', Ext S S' → k (.tuple #[strV (lineGP (pO x) (pE x) l).1, .int .i64 (lineGP (pO x) (pE x) l).2]) S') : WC E0 17 [sv G38 x] S k := by
  refine w17 x ?_
  unfold c17
  have hL := Cx.start (S := S) (P := fun _ => True) noB trivial Frm.true (fun _ h => h.elim)
  refine hL.new fun b1 S1 hL _ _ => ?_
  refine hL.lda 0 rfl (by kernel_rfl) x rfl ?_
  refine evC_of (s16 (g.ext hL.mod).g (Ext.slOf hL.mod h) fun S2 e2 => ⟨_, rfl, ?_⟩)
  have hL := hL.ext e2
  unfold lineGP at hk
  by_cases hm : mayG (pO x) (pE x) l
  case neg =>
    have hc : chkG (pO x) (pE x) l = 280 := if_neg hm
    rw [if_neg hm] at hk
    rw [hc]
    refine ifW_ndec (fun _ => ?_) fun h => by cases h
    exact hk S2 hL.mod
  have hc : chkG (pO x) (pE x) l = 0 := if_pos hm
  rw [if_pos hm] at hk
  rw [hc]
  refine ifW_ndec (fun h => (h rfl).elim) fun _ => ?_
  have hlen := h.len
  obtain ⟨hmp, he, hl1000, hez, hms⟩ := id hm
  refine ptrW_of ?_
  refine hL.lda 0 rfl (by kernel_rfl) (pO x) rfl ?_
  refine evC_of (s32 (g.ext hL.mod).g hw fun S3 e3 => ⟨((lineP (pO x)).1, (lineP (pO x)).2), rfl, ?_⟩)
  have hL := hL.ext e3
  have hlp : lineP (pO x) = (lineL (pO x), 0) := if_pos hmp
  rw [hlp]
  have hll := line_len hw
  refine ptrW_of ?_
  refine hL.ld 0 rfl (by kernel_rfl) (pE x) rfl ?_
  refine evC_of (s33 (g.ext hL.mod).g (by unfold i64; omega) fun S4 e4 => ⟨_, rfl, ?_⟩)
  have hL := hL.ext e4
  refine newW_of fun b6 S5 hb6 ha6 e5 hn5 => ?_
  have hnx := hL.mod.next
  have hO : Ow strC 1 S5 ⟨some ⟨b6, 0, none⟩, 3, 3⟩ (wordsG (pO x) (pE x) (l.take 0)) := ⟨b6, [], 3, none, rfl, ha6, .inr ⟨rfl, rfl, by decide⟩⟩
  have hL : Cx noB S S5 [(b1, .cells (cellsG x) none false none)] (slO ⟨some ⟨b6, 0, none⟩, 3, 3⟩) (fun S => Ow strC 1 S ⟨some ⟨b6, 0, none⟩, 3, 3⟩ (wordsG (pO x) (pE x) (l.take 0))) :=
    hL.op e5 (fun _ h => h.elim) (fun _ h => h.elim) hO Ow.frm (fun c hc => .inr (by obtain ⟨o, hc⟩ := hc; cases hc; omega)) (fun c hc => hO.lt hc)
  refine ptrW_of ?_
  refine hL.ld 0 rfl (by kernel_rfl) (pS x) rfl ?_
  refine loopW_ind (fun q (z : Sl × Int) S' => ∃ (n : Nat) (sl : Sl), z = (sl, (n : Int)) ∧ n ≤ l.length ∧ q = l.length - n ∧ Cx noB S S' [(b1, .cells (cellsG x) none false none)] (slO sl) (fun S => Ow strC 1 S sl (wordsG (pO x) (pE x) (l.take n))) ∧ ∀ c, slO sl c → S.next ≤ c) (m := l.length)
    ⟨0, _, rfl, by omega, rfl, hL, fun c hc => by obtain ⟨o, hc⟩ := hc; cases hc; omega⟩ ?_
  rintro P q z S6 ⟨n, sl, rfl, hn, rfl, hL, hs⟩ hP
  refine ifW_dec (fun hlt => ?_) fun hlt => ?_
  · have hn' : n < l.length := by
      have hlt : (n : Int) < ((pS x).len : Int) := hlt
      omega
    have hsucc := wordsG_succ (o := pO x) (e := pE x) hn'
    have hy := hms l[n] (List.getElem_mem hn')
    refine SlOf.stp (Ext.slOf hL.mod h) hn' ?_
    generalize l[n] = y at hy hsucc ⊢
    have hsl := stepL_len hy
    unfold mayS at hy
    have hnm := nmS_len y.1
    have hd1 := itoa_len (n := y.2.1) (by unfold i64; omega)
    have hd2 := itoa_len (n := y.2.2) (by unfold i64; omega)
    refine hL.new fun b11 S7 hL _ _ => ?_
    refine hL.st 0 _ rfl (by kernel_rfl) rfl (Nat.le_of_ble_eq_true rfl) rfl rfl fun S8 hL _ => ?_
    have words : ∀ {S' : St} {k : List UInt8 → Prop}, Gd S' → k (nmS y.1) → evV tT (loadV E0 S' 9 (.pointer (some ⟨0, 0 + Int.toNat y.1 * 1, none⟩))) k := fun gd hk => by
      obtain ⟨more, ro, fz, hat⟩ := gd.d
      exact evV_of (ty := tT) _ ((load_one hat (by kernel_rfl)).trans (tabD_get (by omega) (by omega))) hk
    refine ptrW_of ?_
    refine hL.ld 0 rfl (by kernel_rfl) y.1 rfl ?_
    refine ⟨0, 0, rfl, by omega, by omega, ?_⟩
    refine words (g.ext hL.mod) ?_
    refine evV_of (ty := tT) (nmS y.1 ++ [58]) (cat_eq (by simp; omega)) ?_
    refine ptrW_of ?_
    refine hL.ld 0 rfl (by kernel_rfl) y.2.1 rfl ?_
    refine evC_of (s33 (g.ext hL.mod).g (by unfold i64; omega) fun S9 e9 => ⟨_, rfl, ?_⟩)
    have hLo := hL
    have hL := hL.ext e9
    refine words (g.ext hL.mod) ?_
    refine sameV_of ?_
    refine hL.ld 0 rfl (by kernel_rfl) y.1 rfl ?_
    refine sameV_of ?_
    refine evV_of (ty := tT) (nmS y.1 ++ [58] ++ Lib.itoa y.2.1) (cat_eq (by simp; omega)) ?_
    refine evV_of (ty := tT) (nmS y.1 ++ [58] ++ Lib.itoa y.2.1 ++ [58]) (cat_eq (by simp; omega)) ?_
    refine ptrW_of ?_
    refine hL.ld 0 rfl (by kernel_rfl) y.2.2 rfl ?_
    refine hLo.ld 0 rfl (by kernel_rfl) y.2.2 rfl ?_
    refine sameV_of ?_
    refine evC_of (s33 (g.ext hL.mod).g (by unfold i64; omega) fun S10 e10 => ⟨_, rfl, ?_⟩)
    have hL := hL.ext e10
    refine words (g.ext hL.mod) ?_
    refine sameV_of ?_
    refine hL.ld 0 rfl (by kernel_rfl) y.1 rfl ?_
    refine sameV_of ?_
    refine evV_of (ty := tT) (stepL y) (cat_eq (by simp; omega)) ?_
    refine newW_of fun b20 S11 hb20 ha20 e11 hn11 => ?_
    have hL := hL.ext e11
    have hnx := hL.mod.next
    have hwl : (wordsG (pO x) (pE x) (l.take n)).length ≤ 1003 := by rw [wordsG_len, List.length_take]; omega
    have hn10 := (hL.mod).next
    refine app_str hL.p ha20 (by omega) fun s' S12 g' m hs' => ?_
    have hwr : wrapI .i64 ((n : Int) + 1) = ((n + 1 : Nat) : Int) := wrap_succ (by omega)
    have hL2 := Cx.tl (hL.op m (fun _ h => h) (fun c hc hlt => by have := hs c hc; omega) g' Ow.frm hs' (fun c hc => g'.lt hc)) 1
    refine hP _ _ _ (by omega) ⟨n + 1, s', ?_, by omega, rfl, ?_, fun c hc => (hs' c hc).elim (hs c) fun h => by omega⟩
    · show (_, wrapI .i64 ((n : Int) + 1)) = _
      rw [hwr]
    · rw [hsucc]; exact hL2
  · have hn' : n = l.length := by
      have hlt : ¬ (n : Int) < ((pS x).len : Int) := hlt
      omega
    have hp := hL.p
    rw [hn', List.take_length] at hp
    have hjl : (jn (wordsG (pO x) (pE x) l)).length ≤ 10000000 := by
      have := accG_len hw hm l.length
      unfold accG at this
      rw [List.take_length] at this
      unfold wordsG
      rw [← lineG_jn]
      exact this
    refine evC_of (s34 (hp.of fun _ => rfl) (by simp [wordsG]) (by rw [wordsG_len]; omega) (by omega) ⟨_, rfl, ?_⟩)
    have e : jn (wordsG (pO x) (pE x) l) = lineG (pO x) (pE x) l := (lineG_jn _ _ _).symm
    rw [e]
    exact hk S6 hL.mod
end
end Go.Proofs.YtfopfocedlbihaaGreatDoor
