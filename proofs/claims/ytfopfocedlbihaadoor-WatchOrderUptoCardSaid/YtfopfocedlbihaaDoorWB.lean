/- Parts of the proof, put together. -/
import Derived.Test.YtfopfocedlbihaaDoorOA
/- Views in memory; small functions. -/
namespace Go.Proofs.YtfopfocedlbihaaDoor
open Go Go.Proofs.YtfopfocedlbihaaDoor.D
set_option linter.unusedVariables false
set_option linter.unusedSimpArgs false
noncomputable section

theorem take_snoc {α : Type} {l : List α} {n : Nat} (h : n < l.length) : l.take (n + 1) = l.take n ++ [l[n]] := by simp
abbrev encI (z : Int) : List Value := [.int .i64 z]
abbrev encU (z : Int) : List Value := [.int .u32 z]
abbrev encC (c : Clm) : List Value := [.int .i64 c.1, .int .u32 c.2]
abbrev PVx := Sl × Sl × Sl × Sl × Sl × Sl × Sl × Sl × Int
abbrev CL := Sl × List Clm
abbrev fCL (p : CL) : List Value := [.slice p.1.a p.1.len p.1.cap]
abbrev IL := Sl × List Int
abbrev fIL (p : IL) : List Value := [.slice p.1.a p.1.len p.1.cap]
structure Vw (S : St) (x : PVx) (v : PV) (cs : List CL) (os : List IL) : Prop where
  at_ : SlOf encI 1 S x.1 v.at_
  cl : SlOf fCL 1 S x.2.1 cs
  cli : ∀ p ∈ cs, SlOf encC 2 S p.1 p.2
  clv : v.claims = cs.map (·.2)
  goals : SlOf encI 1 S x.2.2.1 v.goals
  op : SlOf fIL 1 S x.2.2.2.1 os
  opi : ∀ p ∈ os, SlOf encI 1 S p.1 p.2
  opv : v.opn = os.map (·.2)
  recs : SlOf encI 1 S x.2.2.2.2.1 v.records
  ep : SlOf encU 1 S x.2.2.2.2.2.1 v.epochs
  hold : SlOf encI 1 S x.2.2.2.2.2.2.1 v.holders
  gens : SlOf encU 1 S x.2.2.2.2.2.2.2.1 v.gens
  fl : x.2.2.2.2.2.2.2.2 = v.flights
  atc : x.1.len ≤ x.1.cap ∧ x.1.cap < inex
theorem Vw.ext {S S' : St} {x : PVx} {v : PV} {cs : List CL} {os : List IL} (h : Vw S x v cs os) (e : Ext S S') : Vw S' x v cs os :=
  ⟨Ext.slOf e h.at_, Ext.slOf e h.cl, fun p hp => Ext.slOf e (h.cli p hp), h.clv, Ext.slOf e h.goals, Ext.slOf e h.op, fun p hp => Ext.slOf e (h.opi p hp), h.opv, Ext.slOf e h.recs, Ext.slOf e h.ep, Ext.slOf e h.hold, Ext.slOf e h.gens, h.fl, h.atc⟩
/-- What it holds is not much. -/
structure Sm (v : PV) : Prop where
  at_ : v.at_.length ≤ 1000
  claims : v.claims.length ≤ 1000
  cli : ∀ l ∈ v.claims, l.length ≤ 1000
  opn : v.opn.length ≤ 1000
  opi : ∀ l ∈ v.opn, l.length ≤ 1000
  hold : v.holders.length ≤ 1000
theorem SlOf.int {S : St} {s : Sl} {l : List Int} (h : SlOf encI 1 S s l) {n : Nat} (hn : n < l.length) {k : Int → Prop} (hk : k l[n]) : idxW s.a s.len (n : Int) fun b1 b2 => evV tI (loadV E0 S 3 (.pointer (some ⟨b1, b2 + Int.toNat (n : Int) * 1, none⟩))) k := by
  refine h.idxL (f := encI) (sz := 1) (fun _ => rfl) h.len hn fun b o cs m ro fz hat _ hv => ?_
  exact evV_of (ty := tI) l[n] ((load_one hat (by kernel_rfl)).trans ((at_take hv (j := 0) (by omega)).trans rfl)) hk
theorem SlOf.u32 {S : St} {s : Sl} {l : List Int} (h : SlOf encU 1 S s l) {n : Nat} (hn : n < l.length) {k : Int → Prop} (hk : k l[n]) : idxW s.a s.len (n : Int) fun b1 b2 => evV tU32 (loadV E0 S 36 (.pointer (some ⟨b1, b2 + Int.toNat (n : Int) * 1, none⟩))) k := by
  refine h.idxL (f := encU) (sz := 1) (fun _ => rfl) h.len hn fun b o cs m ro fz hat _ hv => ?_
  exact evV_of (ty := tU32) l[n] ((load_one hat (by kernel_rfl)).trans ((at_take hv (j := 0) (by omega)).trans rfl)) hk
theorem SlOf.clm {S : St} {s : Sl} {l : List Clm} (h : SlOf encC 2 S s l) {n : Nat} (hn : n < l.length) {k : Clm → Prop} (hk : k l[n]) : idxW s.a s.len (n : Int) fun b1 b2 => evV (TT.one (Ty.agg G37)) (loadV E0 S 38 (.pointer (some ⟨b1, b2 + Int.toNat (n : Int) * 2, none⟩))) k := by
  refine h.idxL (f := encC) (sz := 2) (fun _ => rfl) h.len hn fun b o cs m ro fz hat _ hv => ?_
  exact ⟨l[n], load_agg hat (by kernel_rfl) hv rfl, hk⟩
theorem SlOf.tri {S : St} {s : Sl} {l : List Tri} (h : SlOf encT 3 S s l) {n : Nat} (hn : n < l.length) {k : Tri → Prop} (hk : k l[n]) : idxW s.a s.len (n : Int) fun b1 b2 => evV (TT.one (Ty.agg G32)) (loadV E0 S 33 (.pointer (some ⟨b1, b2 + Int.toNat (n : Int) * 3, none⟩))) k := by
  refine h.idxL (f := encT) (sz := 3) (fun _ => rfl) h.len hn fun b o cs m ro fz hat _ hv => ?_
  exact ⟨l[n], load_agg hat (by kernel_rfl) hv rfl, hk⟩
theorem SlOf.cls {S : St} {s : Sl} {l : List CL} (h : SlOf fCL 1 S s l) {n : Nat} (hn : n < l.length) {k : Sl → Prop} (hk : k l[n].1) : idxW s.a s.len (n : Int) fun b1 b2 => evV tS (loadV E0 S 35 (.pointer (some ⟨b1, b2 + Int.toNat (n : Int) * 1, none⟩))) k := by
  refine h.idxL (f := fCL) (sz := 1) (fun _ => rfl) h.len hn fun b o cs m ro fz hat _ hv => ?_
  exact evV_of (ty := tS) l[n].1 ((load_one hat (by kernel_rfl)).trans ((at_take hv (j := 0) (by omega)).trans rfl)) hk
theorem SlOf.ils {S : St} {s : Sl} {l : List IL} (h : SlOf fIL 1 S s l) {n : Nat} (hn : n < l.length) {k : Sl → Prop} (hk : k l[n].1) : idxW s.a s.len (n : Int) fun b1 b2 => evV tS (loadV E0 S 22 (.pointer (some ⟨b1, b2 + Int.toNat (n : Int) * 1, none⟩))) k := by
  refine h.idxL (f := fIL) (sz := 1) (fun _ => rfl) h.len hn fun b o cs m ro fz hat _ hv => ?_
  exact evV_of (ty := tS) l[n].1 ((load_one hat (by kernel_rfl)).trans ((at_take hv (j := 0) (by omega)).trans rfl)) hk
theorem getD_lt {α : Type} {l : List α} {n : Nat} {d : α} (h : n < l.length) : l.getD n d = l[n] := by simp [h]
theorem getD_ge {α : Type} {l : List α} {n : Nat} {d : α} (h : l.length ≤ n) : l.getD n d = d := by simp [h]
/-! ### What stands at a place -/
theorem s54 {S : St} {s : Sl} {l : List Int} {n : Nat} {k : Value → St → Prop} (h : SlOf encI 1 S s l) (hk : k (.int .i64 (l.getD n 0)) S) : WC E0 54 [.slice s.a s.len s.cap, .int .i64 (n : Int)] S k := by
  refine w54 s _ ?_
  unfold c54
  have hl := h.len
  intro k1 hk1
  refine ifW_dec (fun _ => ?_) fun h => absurd (Int.natCast_nonneg n) h
  refine hk1 _ _ ?_
  refine ifW_dec (fun hlt => ?_) fun hlt => ?_
  · have hn : n < l.length := by omega
    rw [getD_lt hn] at hk
    exact SlOf.int h hn hk
  · rw [getD_ge (by omega)] at hk
    exact hk
theorem s55 {S : St} {s : Sl} {l : List Int} {n : Nat} {k : Value → St → Prop} (h : SlOf encU 1 S s l) (hk : k (.int .u32 (l.getD n 0)) S) : WC E0 55 [.slice s.a s.len s.cap, .int .i64 (n : Int)] S k := by
  refine w55 s _ ?_
  unfold c55
  have hl := h.len
  intro k1 hk1
  refine ifW_dec (fun _ => ?_) fun h => absurd (Int.natCast_nonneg n) h
  refine hk1 _ _ ?_
  refine ifW_dec (fun hlt => ?_) fun hlt => ?_
  · have hn : n < l.length := by omega
    rw [getD_lt hn] at hk
    exact SlOf.u32 h hn hk
  · rw [getD_ge (by omega)] at hk
    exact hk
theorem s48 {S : St} {s : Sl} {cs : List CL} {n : Nat} {k : Value → St → Prop} (h : SlOf fCL 1 S s cs) (hk : ∀ s', (∀ S', (∀ p ∈ cs, SlOf encC 2 S' p.1 p.2) → SlOf encC 2 S' s' ((cs.map (·.2)).getD n [])) → k (.slice s'.a s'.len s'.cap) S) : WC E0 48 [.slice s.a s.len s.cap, .int .i64 (n : Int)] S k := by
  refine w48 s _ ?_
  unfold c48
  have hl := h.len
  intro k1 hk1
  refine ifW_dec (fun _ => ?_) fun h => absurd (Int.natCast_nonneg n) h
  refine hk1 _ _ ?_
  refine ifW_dec (fun hlt => ?_) fun hlt => ?_
  · have hn : n < cs.length := by omega
    rw [getD_lt (by simpa using hn)] at hk
    refine SlOf.cls h hn (hk _ fun S' hi => ?_)
    rw [List.getElem_map]
    exact hi _ (List.getElem_mem hn)
  · rw [getD_ge (by simp; omega)] at hk
    exact hk ⟨none, 0, 0⟩ fun _ _ => ⟨rfl, fun h => (h rfl).elim⟩
theorem s52 {S : St} {s : Sl} {cs : List IL} {n : Nat} {k : Value → St → Prop} (h : SlOf fIL 1 S s cs) (hk : ∀ s', (∀ S', (∀ p ∈ cs, SlOf encI 1 S' p.1 p.2) → SlOf encI 1 S' s' ((cs.map (·.2)).getD n [])) → k (.slice s'.a s'.len s'.cap) S) : WC E0 52 [.slice s.a s.len s.cap, .int .i64 (n : Int)] S k := by
  refine w52 s _ ?_
  unfold c52
  have hl := h.len
  intro k1 hk1
  refine ifW_dec (fun _ => ?_) fun h => absurd (Int.natCast_nonneg n) h
  refine hk1 _ _ ?_
  refine ifW_dec (fun hlt => ?_) fun hlt => ?_
  · have hn : n < cs.length := by omega
    rw [getD_lt (by simpa using hn)] at hk
    refine SlOf.ils h hn (hk _ fun S' hi => ?_)
    rw [List.getElem_map]
    exact hi _ (List.getElem_mem hn)
  · rw [getD_ge (by simp; omega)] at hk
    exact hk ⟨none, 0, 0⟩ fun _ _ => ⟨rfl, fun h => (h rfl).elim⟩
/-! ### What the ledger says; what is contained -/
theorem s49 {S : St} {x : PVx} {v : PV} {cs : List CL} {os : List IL} {n : Nat} {c : Clm} {k : Value → St → Prop} (hv : Vw S x v cs os) (hk : ∀ S', Ext S S' → k (.bool (saysV v n c)) S') : WC E0 49 [sv G26 x, .int .i64 (n : Int), sv G37 c] S k := by
  refine w49 x _ c ?_
  unfold c49
  have hL := Hld.start noB S
  refine hL.new fun b1 S1 hL _ _ => ?_
  refine hL.new fun b2 S2 hL _ _ => ?_
  have hv := hv.ext hL.mod
  have hk2 := hk S2 hL.mod
  unfold saysV at hk hk2
  have no : ∀ {b : Bool}, b = false → k (.bool b) S2 → k (.bool false) S2 := fun h h' => h ▸ h'
  have hhl := hv.hold.len
  refine ptrW_of ?_
  refine hL.ld 0 rfl (by kernel_rfl) c.1 rfl ?_
  refine ifW_dec (fun h0 => ?_) fun h0 => no (by simp [h0]) hk2
  refine ptrW_of ?_
  refine hL.ld 0 rfl (by kernel_rfl) c.1 rfl ?_
  refine ptrW_of ?_
  refine hL.ld 1 rfl (by kernel_rfl) x.2.2.2.2.2.2.1 rfl ?_
  refine ifW_dec (fun h1 => ?_) fun h1 => no (by rw [hhl] at h1; simp [h1]) hk2
  refine ptrW_of ?_
  refine hL.ld 1 rfl (by kernel_rfl) x.2.2.2.2.2.2.1 rfl ?_
  refine ptrW_of ?_
  refine hL.ld 0 rfl (by kernel_rfl) c.1 rfl ?_
  obtain ⟨m, hm⟩ : ∃ m : Nat, c.1 = (m : Int) := ⟨c.1.toNat, by omega⟩
  have hml : m < v.holders.length := by omega
  have hd : v.holders.getD c.1.toNat 0 = v.holders[m] := by rw [hm, Int.toNat_natCast, getD_lt hml]
  have hg : v.gens.getD c.1.toNat 0 = v.gens.getD m 0 := by rw [hm, Int.toNat_natCast]
  rw [hm]
  refine SlOf.int hv.hold hml ?_
  refine ifW_dec (fun h2 => ?_) fun h2 => no (by rw [hd]; simp [h2]) hk2
  refine ptrW_of ?_
  refine hL.ld 1 rfl (by kernel_rfl) x.2.2.2.2.2.2.2.1 rfl ?_
  refine ptrW_of ?_
  refine hL.ld 0 rfl (by kernel_rfl) c.1 rfl ?_
  rw [hm]
  refine evC_of (s55 hv.gens ⟨_, rfl, ?_⟩)
  refine ptrW_of ?_
  refine hL.ld 0 rfl (by kernel_rfl) c.2 rfl ?_
  refine hL.ld 0 rfl (by kernel_rfl) c.2 rfl ?_
  refine sameV_of ?_
  have e : (decide (0 ≤ c.1) && decide (c.1 < (v.holders.length : Int)) && decide (v.holders.getD c.1.toNat 0 = (n : Int)) && decide (v.gens.getD c.1.toNat 0 = c.2)) = eqI (v.gens.getD m 0) c.2 := by
    rw [hd, hg, eqI_eq, hm]
    rw [hm] at h0
    simp [hml, h2]
  rw [e] at hk2
  exact hk2
theorem s80 {S : St} {s : Sl} {l : List Int} {z : Int} {k : Value → St → Prop} (h : SlOf encI 1 S s l) (hlen : l.length ≤ 1000000) (hk : ∀ i, (0 ≤ i ↔ z ∈ l) → k (.int .i64 i) S) : WC E0 80 [.slice s.a s.len s.cap, .int .i64 z] S k := by
  refine w80 s z ?_
  unfold c80
  have hl := h.len
  refine loopW_ind (fun q (n1 : Int) S' => ∃ n : Nat, n1 = n ∧ n ≤ l.length ∧ q = l.length - n ∧ S' = S ∧ z ∉ l.take n) (m := l.length) ⟨0, rfl, by omega, rfl, rfl, by simp⟩ ?_
  rintro P q n1 S1 ⟨n, rfl, hn, rfl, rfl, hm⟩ hP
  refine ifW_dec (fun hlt => ?_) fun hlt => ?_
  · have hi : n < l.length := by omega
    refine SlOf.int h hi ?_
    refine ifW_dec (fun he => ?_) fun he => ?_
    · exact hk _ ⟨fun _ => by rw [he]; exact List.getElem_mem hi, fun _ => by omega⟩
    · rw [wrap_succ (by omega)]
      refine hP _ _ _ (by omega) ⟨n + 1, rfl, by omega, rfl, rfl, ?_⟩
      rw [take_snoc hi]
      intro hx
      rcases List.mem_append.1 hx with hx | hx
      · exact hm hx
      · exact he (List.mem_singleton.1 hx)
  · have hi : n = l.length := by omega
    rw [hi, List.take_length] at hm
    exact hk _ ⟨fun hh => by omega, fun h => (hm h).elim⟩
theorem s46 {S : St} {s : Sl} {l : List Int} {z : Int} {k : Value → St → Prop} (h : SlOf encI 1 S s l) (hlen : l.length ≤ 1000000) (hk : k (.bool (l.contains z)) S) : WC E0 46 [.slice s.a s.len s.cap, .int .i64 z] S k := by
  refine w46 s z ?_
  unfold c46
  refine evC_of (s80 h hlen fun i hi => ⟨_, rfl, ?_⟩)
  have e : leI 0 i = l.contains z := by
    rw [leI_eq, Bool.eq_iff_iff, decide_eq_true_iff, hi]
    simp
  rw [e]
  exact hk
theorem s111 {S : St} {s : Sl} {l : List Clm} {y : Value} {p : Clm → Bool} {k : Value → St → Prop} (h : SlOf encC 2 S s l) (hlen : l.length ≤ 1000000) (hy : ∀ c S', Ext S S' → evY E0 tB y [sv G37 c] S' fun t S'' => t = p c ∧ Ext S' S'')
    (hk : ∀ i S', Ext S S' → (0 ≤ i ↔ l.any p = true) → k (.int .i64 i) S') : WC E0 111 [.slice s.a s.len s.cap, y] S k := by
  refine w111 s y ?_
  unfold c111
  have hl := h.len
  refine loopW_ind (fun q (n1 : Int) S' => ∃ n : Nat, n1 = n ∧ n ≤ l.length ∧ q = l.length - n ∧ Ext S S' ∧ (l.take n).any p = false) (m := l.length) ⟨0, rfl, by omega, rfl, Mod.refl _ _, by simp⟩ ?_
  rintro P q n1 S1 ⟨n, rfl, hn, rfl, e1, hm⟩ hP
  refine ifW_dec (fun hlt => ?_) fun hlt => ?_
  · have hi : n < l.length := by omega
    refine SlOf.clm (Ext.slOf e1 h) hi ?_
    refine WV.mono (hy l[n] S1 e1) ?_
    rintro vv S2 ⟨t, rfl, rfl, e2⟩
    refine ⟨_, rfl, ?_⟩
    refine ifW_of (fun hb => ?_) fun hb => ?_
    · exact hk _ _ (e1.tr e2) ⟨fun _ => List.any_eq_true.2 ⟨_, List.getElem_mem hi, hb⟩, fun _ => by omega⟩
    · rw [wrap_succ (by omega)]
      refine hP _ _ _ (by omega) ⟨n + 1, rfl, by omega, rfl, e1.tr e2, ?_⟩
      rw [take_snoc hi, List.any_append, hm]
      simp [hb]
  · have hi : n = l.length := by omega
    rw [hi, List.take_length] at hm
    exact hk _ _ e1 ⟨fun hh => by omega, fun h => by rw [hm] at h; cases h⟩
theorem s85 {S : St} {s : Sl} {l : List Int} {y : Value} {p : Int → Bool} {k : Value → St → Prop} (h : SlOf encI 1 S s l) (hlen : l.length ≤ 1000000) (hy : ∀ c S', Ext S S' → evY E0 tB y [.int .i64 c] S' fun t S'' => t = p c ∧ Ext S' S'')
    (hk : ∀ i S', Ext S S' → (0 ≤ i ↔ l.any p = true) → k (.int .i64 i) S') : WC E0 85 [.slice s.a s.len s.cap, y] S k := by
  refine w85 s y ?_
  unfold c85
  have hl := h.len
  refine loopW_ind (fun q (n1 : Int) S' => ∃ n : Nat, n1 = n ∧ n ≤ l.length ∧ q = l.length - n ∧ Ext S S' ∧ (l.take n).any p = false) (m := l.length) ⟨0, rfl, by omega, rfl, Mod.refl _ _, by simp⟩ ?_
  rintro P q n1 S1 ⟨n, rfl, hn, rfl, e1, hm⟩ hP
  refine ifW_dec (fun hlt => ?_) fun hlt => ?_
  · have hi : n < l.length := by omega
    refine SlOf.int (Ext.slOf e1 h) hi ?_
    refine WV.mono (hy l[n] S1 e1) ?_
    rintro vv S2 ⟨t, rfl, rfl, e2⟩
    refine ⟨_, rfl, ?_⟩
    refine ifW_of (fun hb => ?_) fun hb => ?_
    · exact hk _ _ (e1.tr e2) ⟨fun _ => List.any_eq_true.2 ⟨_, List.getElem_mem hi, hb⟩, fun _ => by omega⟩
    · rw [wrap_succ (by omega)]
      refine hP _ _ _ (by omega) ⟨n + 1, rfl, by omega, rfl, e1.tr e2, ?_⟩
      rw [take_snoc hi, List.any_append, hm]
      simp [hb]
  · have hi : n = l.length := by omega
    rw [hi, List.take_length] at hm
    exact hk _ _ e1 ⟨fun hh => by omega, fun h => by rw [hm] at h; cases h⟩
theorem le_any {i : Int} {b : Bool} (h : 0 ≤ i ↔ b = true) : leI 0 i = b := by
  rw [leI_eq, Bool.eq_iff_iff, decide_eq_true_iff, h]
theorem s51 {S : St} {s : Sl} {l : List Int} {k : Value → St → Prop} (h : SlOf encI 1 S s l) (hlen : l.length ≤ 1000000) (hk : ∀ S', Ext S S' → k (.bool (l.any fun n => decide (16 < n))) S') : WC E0 51 [.slice s.a s.len s.cap, .func (.func 53) #[] #[]] S k := by
  refine w51 s _ ?_
  unfold c51
  refine evC_of (s85 (p := fun n => decide (16 < n)) h hlen (fun c S' e => ?_) fun i S' e hi => ⟨_, rfl, ?_⟩)
  · refine evY_func (evC_of (w53 c ?_))
    unfold c53
    exact ⟨_, rfl, by rw [ltI_eq], Mod.refl _ _⟩
  · rw [le_any hi]
    exact hk _ e
/-- Is a robot's cell held by it? -/
theorem s47 {S : St} {x : PVx} {v : PV} {cs : List CL} {os : List IL} {n : Nat} {k : Value → St → Prop} (hv : Vw S x v cs os) (hs : Sm v) (hn : n < v.at_.length) (hk : ∀ S', Ext S S' → k (.bool (heldV v n)) S') : WC E0 47 [sv G26 x, .int .i64 (n : Int)] S k := by
  refine w47 x _ ?_
  unfold c47
  have hL := Hld.start noB S
  refine hL.new fun b1 S1 hL _ _ => ?_
  refine hL.new fun b2 S2 hL _ _ => ?_
  have hv2 := hv.ext hL.mod
  refine ptrW_of ?_
  refine hL.ld 1 rfl (by kernel_rfl) x.2.1 rfl ?_
  refine hL.ld 0 rfl (by kernel_rfl) (n : Int) rfl ?_
  refine evC_of (s48 hv2.cl fun s' hs' => ⟨s', rfl, ?_⟩)
  have hs' := hs' _ hv2.cli
  rw [← hv.clv] at hs'
  have hlen : (v.claims.getD n []).length ≤ 1000 := by
    by_cases h : n < v.claims.length
    · rw [getD_lt h]; exact hs.cli _ (List.getElem_mem h)
    · rw [getD_ge (by omega)]; simp
  refine evC_of (w81 s' _ ?_)
  unfold c81
  refine evC_of (s111 (p := fun c => decide (c.1 = v.at_.getD n 0) && saysV v n c) hs' (by omega) (fun c S' e => ?_) fun i S' e hi => ⟨_, rfl, ?_⟩)
  · have hL := hL.ext e
    refine evY_func (evC_of (w82 c b1 b2 ?_))
    unfold c82
    have hv3 := hv.ext hL.mod
    have hLk := Hld.start noB S'
    refine hLk.new fun b3 S3 hLk _ _ => ?_
    have hL := hL.ext hLk.mod
    have hv3 := hv3.ext hLk.mod
    have hk3 := hLk.mod
    refine ptrW_of ?_
    refine hLk.ld 0 rfl (by kernel_rfl) c.1 rfl ?_
    refine ptrW_of ?_
    refine hL.ld 1 rfl (by kernel_rfl) x.1 rfl ?_
    refine hL.ld 0 rfl (by kernel_rfl) (n : Int) rfl ?_
    refine SlOf.int hv3.at_ hn ?_
    refine ifW_dec (fun he => ?_) fun he => ?_
    · refine hL.lda 1 rfl (by kernel_rfl) x rfl ?_
      refine hL.ld 0 rfl (by kernel_rfl) (n : Int) rfl ?_
      refine hLk.lda 0 rfl (by kernel_rfl) c rfl ?_
      refine evC_of (s49 hv3 fun S4 e4 => ⟨_, rfl, ?_⟩)
      refine ⟨_, rfl, ?_, hk3.tr e4⟩
      rw [getD_lt hn]
      simp [he]
    · refine ⟨_, rfl, ?_, hk3⟩
      rw [getD_lt hn]
      simp [he]
  · rw [le_any hi]
    exact ⟨_, rfl, hk _ (hL.ext e).mod⟩
end
end Go.Proofs.YtfopfocedlbihaaDoor

/- Sorted; each once, in place. -/
namespace Go.Proofs.YtfopfocedlbihaaDoor
open Go Go.Proofs.YtfopfocedlbihaaDoor.D
set_option linter.unusedVariables false
set_option linter.unusedSimpArgs false
noncomputable section

theorem flat_encI (l : List Int) : l.flatMap encI = l.map (Value.int .i64) := by induction l with | nil => rfl | cons x l ih => simp [List.flatMap_cons, ih]
theorem sortI_len (l : List Int) : (sortI l).length = l.length := (List.mergeSort_perm l _).length_eq
theorem sortT_len (l : List Tri) : (sortT l).length = l.length := (List.mergeSort_perm l _).length_eq
theorem encT3 (x : Tri) : (encT x).length = 3 := rfl
/-- slices.Sort. -/
theorem s83 {S : St} {s : Sl} {l : List Int} {k : Value → St → Prop} (h : GrX encI 1 0 S s l) (hl : l.length ≤ 100000) (hk : ∀ S', GrX encI 1 0 S' s (sortI l) → Mod (slO s) S S' → k (.tuple #[]) S') : WC E0 83 [.slice s.a s.len s.cap] S k := by
  rcases h with ⟨rfl, rfl⟩ | ⟨b, rest, hb, rfl, hat, hlt⟩
  · exact WC_prim (E := E0) (f := 83) rfl (show sortP [.slice none 0 0] S = some (.tuple #[], S) from rfl) (hk S (.inl ⟨by simp [sortI], rfl⟩) (Mod.refl _ _))
  cases hn : l.length with
  | zero =>
    have hl0 : l = [] := List.length_eq_zero_iff.1 hn
    subst hl0
    exact WC_prim (E := E0) (f := 83) rfl (show sortP [.slice (some ⟨b, 0, none⟩) 0 inex] S = some (.tuple #[], S) from rfl) (hk S (.inr ⟨b, rest, hb, by simp [sortI], by simpa [sortI] using hat, by simpa [sortI] using hlt⟩) (Mod.refl _ _))
  | succ n =>
    have e1 : ((l.flatMap encI ++ rest).drop 0).take (n + 1) = l.map (Value.int .i64) := by
      rw [List.drop_zero, List.take_left' (by rw [flat_encI, List.length_map, hn]), flat_encI]
    have e2 : splice (l.flatMap encI ++ rest) 0 ((sortI l).map (Value.int .i64)) = (sortI l).flatMap encI ++ rest := by
      unfold splice
      rw [List.take_zero, List.nil_append, Nat.zero_add, List.length_map, sortI_len, List.drop_left' (by rw [flat_encI, List.length_map]), ← flat_encI]
    have g1 : (Nat.beq l.length (n + 1) && Nat.ble (n + 1) 140737488355328) = true := by rw [hn, Nat.beq_refl, Nat.ble_eq_true_of_le (by omega)]; rfl
    refine WC_prim (E := E0) (f := 83) rfl (show sortP [.slice (some ⟨b, 0, none⟩) (n + 1) inex] S = some (.tuple #[], S.upd b (.cells ((sortI l).flatMap encI ++ rest) (some 1) false none)) from ?_) (hk _ (.inr ⟨b, rest, hb, ?_, upd_at hat, by rw [sortI_len]; exact hlt⟩) (upd_mod.mono fun c hc _ => ⟨0, by rw [hc]⟩))
    · have e2' := e2
      unfold sortI at e2'
      unfold sortI
      simp only [sortP, hat.get, e1, intsOf_map, Option.bind_some, g1, cond_true, e2']
    · rw [sortI_len, hn]
/-- slices.SortFunc. -/
theorem s21 {S : St} {s : Sl} {l : List Tri} {k : Value → St → Prop} (h : GrX encT 3 0 S s l) (hl : l.length ≤ 10000000) (hk : ∀ S', GrX encT 3 0 S' s (sortT l) → Mod (slO s) S S' → k (.tuple #[]) S') : WC E0 21 [.slice s.a s.len s.cap, .func (.func 22) #[] #[]] S k := by
  rcases h with ⟨rfl, rfl⟩ | ⟨b, rest, hb, rfl, hat, hlt⟩
  · exact WC_prim (E := E0) (f := 21) rfl (show sortFP 22 ltT [.slice none 0 0, .func (.func 22) #[] #[]] S = some (.tuple #[], S) from rfl) (hk S (.inl ⟨by simp [sortT], rfl⟩) (Mod.refl _ _))
  cases hn : l.length with
  | zero =>
    have hl0 : l = [] := List.length_eq_zero_iff.1 hn
    subst hl0
    exact WC_prim (E := E0) (f := 21) rfl (show sortFP 22 ltT [.slice (some ⟨b, 0, none⟩) 0 inex, .func (.func 22) #[] #[]] S = some (.tuple #[], S) from rfl) (hk S (.inr ⟨b, rest, hb, by simp [sortT], by simpa [sortT] using hat, by simpa [sortT] using hlt⟩) (Mod.refl _ _))
  | succ n =>
    have e1 : ((l.flatMap encT ++ rest).drop 0).take ((n + 1) * 3) = l.flatMap encT := by
      rw [List.drop_zero, List.take_left' (by rw [encT_len, hn])]
    have e2 : splice (l.flatMap encT ++ rest) 0 ((sortT l).flatMap encT) = (sortT l).flatMap encT ++ rest := by
      unfold splice
      rw [List.take_zero, List.nil_append, Nat.zero_add, encT_len, sortT_len, List.drop_left' (by rw [encT_len])]
    have g1 : (Nat.beq l.length (n + 1) && Nat.ble (n + 1) 140737488355328 && (Nat.beq 22 22 && Nat.beq (#[] : Array Value).size 0 && Nat.beq (#[] : Array Value).size 0)) = true := by rw [hn, Nat.beq_refl, Nat.ble_eq_true_of_le (by omega)]; rfl
    refine WC_prim (E := E0) (f := 21) rfl (show sortFP 22 ltT [.slice (some ⟨b, 0, none⟩) (n + 1) inex, .func (.func 22) #[] #[]] S = some (.tuple #[], S.upd b (.cells ((sortT l).flatMap encT ++ rest) (some 3) false none)) from ?_) (hk _ (.inr ⟨b, rest, hb, ?_, upd_at hat, by rw [sortT_len]; exact hlt⟩) (upd_mod.mono fun c hc _ => ⟨0, by rw [hc]⟩))
    · have e2' := e2
      unfold sortT leT at e2'
      unfold sortT leT
      simp only [sortFP, hat.get, e1, trisOf_flat, Option.bind_some, g1, cond_true, e2']
    · rw [sortT_len, hn]
/-! ### Each once -/
section
variable {α : Type} [DecidableEq α]
theorem cmpct_snoc : ∀ (l : List α) (a x : α), cmpct (l ++ [a] ++ [x]) = if a = x then cmpct (l ++ [a]) else cmpct (l ++ [a]) ++ [x]
  | [], a, x => by
    show (if a = x then cmpct [x] else a :: cmpct [x]) = _
    split
    · rename_i h; subst h; rfl
    · rfl
  | [b], a, x => by
    show (if b = a then cmpct (a :: [x]) else b :: cmpct (a :: [x])) = if a = x then (if b = a then cmpct [a] else b :: cmpct [a]) else (if b = a then cmpct [a] else b :: cmpct [a]) ++ [x]
    have h := cmpct_snoc [] a x
    simp only [List.nil_append, List.singleton_append] at h
    rw [h]
    split <;> split <;> rfl
  | b :: c :: r, a, x => by
    have ih := cmpct_snoc (c :: r) a x
    have e1 : cmpct (b :: c :: r ++ [a] ++ [x]) = if b = c then cmpct (c :: r ++ [a] ++ [x]) else b :: cmpct (c :: r ++ [a] ++ [x]) := rfl
    have e2 : cmpct (b :: c :: r ++ [a]) = if b = c then cmpct (c :: r ++ [a]) else b :: cmpct (c :: r ++ [a]) := rfl
    rw [e1, e2, ih]
    split <;> split <;> rfl
theorem cmpct_next {l : List α} {i : Nat} (h0 : 0 < i) (hi : i < l.length) : cmpct (l.take (i + 1)) = if l[i - 1] = l[i] then cmpct (l.take i) else cmpct (l.take i) ++ [l[i]] := by
  obtain ⟨j, rfl⟩ : ∃ j, i = j + 1 := ⟨i - 1, by omega⟩
  have hj : j < l.length := by omega
  have e1 : l.take (j + 1) = l.take j ++ [l[j]] := take_snoc hj
  have e2 : l.take (j + 1 + 1) = l.take j ++ [l[j]] ++ [l[j + 1]] := by rw [take_snoc hi, e1]
  rw [e2, e1, cmpct_snoc]
  rfl
theorem cmpct_len_le : ∀ (l : List α), (cmpct l).length ≤ l.length
  | [] => Nat.le_refl _
  | [_] => Nat.le_refl _
  | a :: b :: r => by
    have := cmpct_len_le (b :: r)
    unfold cmpct
    split
    · simp at this ⊢; omega
    · simp at this ⊢; omega
/-- What lies there when i elements were looked at. -/
def mid (l : List α) (i : Nat) : List α := cmpct (l.take i) ++ l.drop (cmpct (l.take i)).length
theorem mid_len {l : List α} {i : Nat} (hi : i ≤ l.length) : (mid l i).length = l.length := by
  have := cmpct_len_le (l.take i)
  rw [List.length_take] at this
  unfold mid
  rw [List.length_append, List.length_drop]
  omega
theorem mid_at {l : List α} {i j : Nat} (hj : (cmpct (l.take i)).length ≤ j) (hjl : j < l.length) (h : j < (mid l i).length) : (mid l i)[j] = l[j] := by
  have e : (mid l i)[j]? = l[j]? := by
    unfold mid
    rw [List.getElem?_append_right hj, List.getElem?_drop]
    congr 1
    omega
  rw [List.getElem?_eq_getElem h, List.getElem?_eq_getElem hjl] at e
  exact Option.some.inj e
end
section
variable {α : Type} {f : α → List Value} {sz : Nat}
theorem flat_set (hf : ∀ x, (f x).length = sz) (c : List α) (d : α) (r : List α) (rest : List Value) (x : α) :
    ((c ++ d :: r).flatMap f ++ rest).take (c.length * sz) ++ (f x ++ ((c ++ d :: r).flatMap f ++ rest).drop (c.length * sz + sz)) = (c ++ x :: r).flatMap f ++ rest := by
  have h1 : (c.flatMap f).length = c.length * sz := flat_len hf c
  have e : (c ++ d :: r).flatMap f ++ rest = c.flatMap f ++ (f d ++ (r.flatMap f ++ rest)) := by simp [List.flatMap_append, List.flatMap_cons]
  rw [e, List.take_left' h1, ← List.drop_drop, List.drop_left' h1, List.drop_left' (hf d)]
  simp [List.flatMap_append, List.flatMap_cons]
theorem flat_clear (hf : ∀ x, (f x).length = sz) (c r : List α) (rest zs : List Value) (hz : zs.length = r.length * sz) :
    ((c ++ r).flatMap f ++ rest).take (c.length * sz) ++ (zs ++ ((c ++ r).flatMap f ++ rest).drop (c.length * sz + zs.length)) = c.flatMap f ++ (zs ++ rest) := by
  have h1 : (c.flatMap f).length = c.length * sz := flat_len hf c
  have e : (c ++ r).flatMap f ++ rest = c.flatMap f ++ (r.flatMap f ++ rest) := by simp [List.flatMap_append]
  rw [e, List.take_left' h1, ← List.drop_drop, List.drop_left' h1, List.drop_left' (by rw [flat_len hf, hz])]
theorem zeros_len {z : List Value} (hz : z.length = sz) (n : Nat) : (zerosD z n).length = n * sz := by
  unfold zerosD
  induction n with
  | zero => simp
  | succ n ih => rw [List.replicate_succ, List.flatten_cons, List.length_append, ih, hz, Nat.succ_mul]; omega
theorem zeros_one {z : List Value} (hz : z.all St.one = true) (n : Nat) : (zerosD z n).all St.one = true := by
  unfold zerosD
  rw [List.all_eq_true] at hz ⊢
  intro v hv
  obtain ⟨l, hl, hv⟩ := List.mem_flatten.1 hv
  rw [(List.mem_replicate.1 hl).2] at hv
  exact hz v hv
end
theorem und22 : E0.und 22 = some (.slice 3) := by kernel_rfl
theorem und30 : E0.und 30 = some (.slice 33) := by kernel_rfl
theorem size3 : E0.size 3 = some 1 := by kernel_rfl
theorem size33 : E0.size 33 = some 3 := by kernel_rfl
theorem inf3 : E0.inf 3 = some DEnv.i3 := by kernel_rfl
theorem inf33 : E0.inf 33 = some DEnv.i33 := by kernel_rfl
theorem zero3 : DEnv.i3.zero = some (.int .i64 0) := by kernel_rfl
theorem zero33 : DEnv.i33.zero = some (.agg #[.int .i64 0, .int .i64 0, .int .i64 0]) := by kernel_rfl
theorem bytes3 : DEnv.i3.bytes = 8 := by kernel_rfl
theorem bytes33 : DEnv.i33.bytes = 24 := by kernel_rfl
theorem eqTri (S : St) (x y : Tri) : eqD E0 S 6 33 (sv G32 x) (sv G32 y) = some (decide (x = y)) := by
  have h : eqD E0 S 6 33 (sv G32 x) (sv G32 y) = cond (decide (x.1 = y.1)) (cond (decide (x.2.1 = y.2.1)) (cond (decide (x.2.2 = y.2.2)) (some true) (some false)) (some false)) (some false) := by kernel_rfl
  rw [h]
  obtain ⟨a, b, c⟩ := x
  obtain ⟨a', b', c'⟩ := y
  by_cases h1 : a = a' <;> by_cases h2 : b = b' <;> by_cases h3 : c = c' <;> simp [h1, h2, h3]
set_option maxHeartbeats 1000000 in
/-- slices.Compact of ints. -/
theorem s84 {S : St} {s : Sl} {l : List Int} {k : Value → St → Prop} (h : GrX encI 1 0 S s l) (hl : l.length ≤ 1000000) (hk : ∀ s' S', GrX encI 1 0 S' s' (cmpct l) → Mod (slO s) S S' → (∀ c, slO s' c → slO s c) → k (.slice s'.a s'.len s'.cap) S') : WC E0 84 [.slice s.a s.len s.cap] S k := by
  refine w84 s ?_
  unfold c84
  have hsl := h.len
  refine ifW_dec (fun hlt => ?_) fun hge => ?_
  · have e : cmpct l = l := by
      match l, hsl with
      | [], _ => rfl
      | [a], _ => rfl
      | a :: b :: r, hsl => simp at hsl; omega
    exact hk s S (by rw [e]; exact h) (Mod.refl _ _) fun _ h => h
  have hl2 : 2 ≤ l.length := by omega
  rcases h with ⟨rfl, rfl⟩ | ⟨b, rest, hb, rfl, hat, hroom⟩
  · simp at hl2
  have hf : ∀ x : Int, (encI x).length = 1 := fun _ => rfl
  dsimp only
  refine loopW_ind (fun q (n1 : Int) S' => ∃ n : Nat, n1 = n ∧ 1 ≤ n ∧ n ≤ l.length ∧ q = l.length - n ∧ S' = S ∧ cmpct (l.take n) = l.take n) (m := l.length - 1) ⟨1, rfl, by omega, by omega, rfl, rfl, by
    match l, hl2 with
    | a :: b :: r, _ => rfl⟩ ?_
  rintro P q n1 S1 ⟨n, rfl, h1, hn, rfl, rfl, hm⟩ hP
  have hSl : SlOf encI 1 S1 ⟨some ⟨b, 0, none⟩, l.length, inex⟩ l := GrX.of hf (N := 0) (.inr ⟨b, rest, hb, rfl, hat, hroom⟩)
  refine ifW_dec (fun hlt => ?_) fun hlt => ?_
  rotate_left
  · have hn' : n = l.length := by omega
    rw [hn', List.take_length] at hm
    exact hk _ S1 (by rw [hm]; exact .inr ⟨b, rest, hb, rfl, hat, hroom⟩) (Mod.refl _ _) fun _ h => h
  have hi : n < l.length := by omega
  have hw : wrapI .i64 ((n : Int) - 1) = ((n - 1 : Nat) : Int) := by rw [wrap_i64 (by omega) (by omega)]; omega
  refine SlOf.int hSl hi ?_
  rw [hw]
  refine SlOf.int hSl (show n - 1 < l.length by omega) ?_
  refine ifW_dec (fun heq => ?_) fun hne => ?_
  rotate_left
  · rw [wrap_succ (by omega)]
    refine hP _ _ _ (by omega) ⟨n + 1, rfl, by omega, by omega, rfl, rfl, ?_⟩
    rw [cmpct_next (by omega) hi, if_neg (fun e => hne e.symm), hm, take_snoc hi]
  -- the first one that stands twice
  have hr := roomD_at (o := 0) hat (by omega)
  have hcl : (l.flatMap encI ++ rest).length = l.length * 1 + rest.length := by rw [List.length_append, flat_len hf]
  have hmx : Nat.max l.length (roomD S1 b 0 1) < inex := by
    show max l.length (roomD S1 b 0 1) < inex
    rw [hr, hcl, Nat.div_one]
    omega
  refine evV_of (ty := tS) ⟨some ⟨b, 0 + n * 1, none⟩, l.length - n, inex⟩ (sliceD_grow (lo := n) (hi := l.length) und22 size3 hat (natOf_int (k := .i64)) rfl (by omega) (Nat.le_max_left _ _) hmx) ?_
  dsimp only
  have hc0 : cmpct (l.take (n + 1)) = l.take n := by rw [cmpct_next (by omega) hi, if_pos heq.symm, hm]
  refine loopW_ind (fun q (x : Int × Int) S' => ∃ j : Nat, x = (((cmpct (l.take (n + j))).length : Int), (j : Int)) ∧ 1 ≤ j ∧ n + j ≤ l.length ∧ q = l.length - (n + j) ∧ (cmpct (l.take (n + j))).length < n + j ∧ At S' b (.cells ((mid l (n + j)).flatMap encI ++ rest) (some 1) false none) ∧ Mod (fun c => c = b) S1 S') (m := l.length - (n + 1))
    ⟨1, by rw [hc0, List.length_take, Nat.min_eq_left (by omega)]; rfl, by omega, by omega, rfl, by rw [hc0, List.length_take]; omega, by
      have e : mid l (n + 1) = l := by unfold mid; rw [hc0, List.length_take, Nat.min_eq_left (by omega), List.take_append_drop]
      rw [e]; exact hat, Mod.refl _ _⟩ ?_
  rintro P2 q2 x2 S2 ⟨j, rfl, hj1, hjl, rfl, hcl2, hat2, hmod⟩ hP2
  dsimp only
  have hml := mid_len (l := l) hjl
  have hSm : SlOf encI 1 S2 ⟨some ⟨b, 0, none⟩, l.length, inex⟩ (mid l (n + j)) := GrX.of hf (N := 0) (.inr ⟨b, rest, hb, by rw [hml], hat2, by rw [hml]; exact hroom⟩)
  refine ifW_dec (fun hlt2 => ?_) fun hlt2 => ?_
  · have hij : n + j < l.length := by omega
    have hpart : SlOf encI 1 S2 ⟨some ⟨b, 0 + n * 1, none⟩, l.length - n, inex⟩ (((mid l (n + j)).drop n).take (l.length - n)) := SlOf.part hf hSm rfl (by omega) (by omega) (fun _ => rfl)
    have hpl : (((mid l (n + j)).drop n).take (l.length - n)).length = l.length - n := by rw [List.length_take, List.length_drop, hml]; omega
    have hgt : ∀ i (hi : i < (((mid l (n + j)).drop n).take (l.length - n)).length) (hil : n + i < l.length), (cmpct (l.take (n + j))).length ≤ n + i → (((mid l (n + j)).drop n).take (l.length - n))[i] = l[n + i] := fun i hi hil hc => by
      rw [List.getElem_take, List.getElem_drop]
      exact mid_at hc hil _
    have hw2 : wrapI .i64 ((j : Int) - 1) = ((j - 1 : Nat) : Int) := by rw [wrap_i64 (by omega) (by omega)]; omega
    have hin : j < (((mid l (n + j)).drop n).take (l.length - n)).length := by rw [hpl]; omega
    have hin1 : j - 1 < (((mid l (n + j)).drop n).take (l.length - n)).length := by rw [hpl]; omega
    refine SlOf.int hpart hin ?_
    rw [hw2]
    refine SlOf.int hpart hin1 ?_
    rw [hgt j hin (by omega) (by omega), hgt (j - 1) hin1 (by omega) (by omega)]
    have hidx : l[n + (j - 1)]'(by omega) = l[n + j - 1]'(by omega) := by congr 1; omega
    rw [hidx]
    have hnext := cmpct_next (l := l) (i := n + j) (by omega) hij
    refine ifW_ndec (fun hb2 => ?_) fun hb2 => ?_
    · refine SlOf.int hpart hin ?_
      rw [hgt j hin (by omega) (by omega)]
      refine ⟨b, 0, rfl, by omega, by show (((cmpct (l.take (n + j))).length : Nat) : Int) < ((l.length : Nat) : Int); omega, ?_⟩
      rw [if_neg (fun e => hb2 e.symm)] at hnext
      have hlen2 : (cmpct (l.take (n + (j + 1)))).length = (cmpct (l.take (n + j))).length + 1 := by rw [← Nat.add_assoc, hnext]; simp
      obtain ⟨d, r, hdr⟩ : ∃ d r, l.drop (cmpct (l.take (n + j))).length = d :: r := ⟨_, _, List.drop_eq_getElem_cons (by omega)⟩
      have hr1 : l.drop ((cmpct (l.take (n + j))).length + 1) = r := by rw [← List.drop_drop, hdr]; rfl
      have hset := flat_set (f := encI) (sz := 1) hf (cmpct (l.take (n + j))) d r rest l[n + j]
      have hmid2 : mid l (n + (j + 1)) = cmpct (l.take (n + j)) ++ l[n + j] :: r := by
        unfold mid
        rw [hlen2, hr1, ← Nat.add_assoc, hnext]
        simp
      have hmid1 : mid l (n + j) = cmpct (l.take (n + j)) ++ d :: r := by unfold mid; rw [hdr]
      rw [← hmid1, ← hmid2] at hset
      have hmlen : (mid l (n + j)).length = l.length := hml
      refine ⟨_, store_cells (n := 1) (v := .int .i64 l[n + j]) hat2 (by kernel_rfl) rfl (by rw [List.length_append, flat_len hf, hmlen, Int.toNat_natCast]; omega) rfl, ?_⟩
      rw [wrap_succ (by omega), wrap_succ (by omega)]
      refine hP2 _ _ _ (by omega) ⟨j + 1, by rw [hlen2], by omega, by omega, rfl, by rw [hlen2]; omega, ?_, hmod.trans upd_mod fun c hc _ => hc⟩
      have := upd_at (o' := .cells ((mid l (n + (j + 1))).flatMap encI ++ rest) (some 1) false none) hat2
      rw [← hset] at this ⊢
      rw [Int.toNat_natCast, Nat.zero_add]
      exact this
    · rw [if_pos hb2.symm] at hnext
      have hlen2 : cmpct (l.take (n + (j + 1))) = cmpct (l.take (n + j)) := by rw [← Nat.add_assoc, hnext]
      have hmid2 : mid l (n + (j + 1)) = mid l (n + j) := by unfold mid; rw [hlen2]
      rw [wrap_succ (by omega)]
      exact hP2 _ _ _ (by omega) ⟨j + 1, by rw [hlen2], by omega, by omega, rfl, by rw [hlen2]; omega, by rw [hmid2]; exact hat2, hmod⟩
  · have hij : n + j = l.length := by omega
    rw [hij, List.take_length] at hcl2 ⊢
    rw [hij] at hat2 hml hSm
    have hmid : mid l l.length = cmpct l ++ l.drop (cmpct l).length := by unfold mid; rw [List.take_length]
    have hr2 := roomD_at (o := 0) hat2 (by omega)
    have hcl3 : ((mid l l.length).flatMap encI ++ rest).length = l.length * 1 + rest.length := by rw [List.length_append, flat_len hf, hml]
    have hmx2 : Nat.max l.length (roomD S2 b 0 1) < inex := by
      show max l.length (roomD S2 b 0 1) < inex
      rw [hr2, hcl3, Nat.div_one]
      omega
    generalize hkk : (cmpct l).length = kk at *
    refine evV_of (ty := tS) ⟨some ⟨b, 0 + kk * 1, none⟩, l.length - kk, inex⟩ (sliceD_grow (lo := kk) (hi := l.length) und22 size3 hat2 (natOf_int (k := .i64)) rfl (by omega) (Nat.le_max_left _ _) hmx2) ?_
    dsimp only
    have hzl : (zerosD (cellsOf (.int .i64 0)) (l.length - kk)).length = (l.length - kk) * 1 := zeros_len rfl _
    have hcle := flat_clear (f := encI) (sz := 1) hf (cmpct l) (l.drop kk) rest (zerosD (cellsOf (.int .i64 0)) (l.length - kk)) (by rw [hzl, List.length_drop])
    rw [hkk, ← hmid] at hcle
    have hb0 : Nat.beq (l.length - kk) 0 = false := Bool.eq_false_iff.2 fun hh => by have := Nat.eq_of_beq_eq_true hh; omega
    have hle : Nat.ble (0 + kk * 1 + (zerosD (cellsOf (.int .i64 0)) (l.length - kk)).length) ((mid l l.length).flatMap encI ++ rest).length = true := Nat.ble_eq_true_of_le (by rw [hzl, hcl3]; omega)
    have hone := zeros_one (z := cellsOf (.int .i64 0)) rfl (l.length - kk)
    have hres : ((mid l l.length).flatMap encI ++ rest).take (0 + kk * 1) ++ (zerosD (cellsOf (.int .i64 0)) (l.length - kk) ++ ((mid l l.length).flatMap encI ++ rest).drop (0 + kk * 1 + (zerosD (cellsOf (.int .i64 0)) (l.length - kk)).length)) = (cmpct l).flatMap encI ++ (zerosD (cellsOf (.int .i64 0)) (l.length - kk) ++ rest) := by
      rw [Nat.zero_add]; exact hcle
    refine ⟨S2.upd b (.cells ((cmpct l).flatMap encI ++ (zerosD (cellsOf (.int .i64 0)) (l.length - kk) ++ rest)) (some 1) false none), ?_, ?_⟩
    · simp only [clearD, und22, inf3, zero3, Option.bind_some, hb0, cond_false, St.storeN, hat2.get, hle, hone, St.fzOk, Bool.not_false, Bool.and_true, cond_true, hres]
    have hat3 := upd_at (o' := .cells ((cmpct l).flatMap encI ++ (zerosD (cellsOf (.int .i64 0)) (l.length - kk) ++ rest)) (some 1) false none) hat2
    have hr3 := roomD_at (o := 0) hat3 (by omega)
    have hcl4 : ((cmpct l).flatMap encI ++ (zerosD (cellsOf (.int .i64 0)) (l.length - kk) ++ rest)).length = l.length * 1 + rest.length := by rw [List.length_append, List.length_append, flat_len hf, hzl, hkk]; omega
    have hmx3 : Nat.max l.length (roomD (S2.upd b (.cells ((cmpct l).flatMap encI ++ (zerosD (cellsOf (.int .i64 0)) (l.length - kk) ++ rest)) (some 1) false none)) b 0 1) < inex := by
      show max l.length _ < inex
      rw [hr3, hcl4, Nat.div_one]
      omega
    refine evV_of (ty := tS) ⟨some ⟨b, 0, none⟩, kk, inex⟩ (sliceD_grow (lo := 0) (hi := kk) und22 size3 hat3 rfl (natOf_int (k := .i64)) (by omega) (Nat.le_trans (by omega) (Nat.le_max_left _ _)) hmx3) ?_
    refine hk ⟨some ⟨b, 0, none⟩, kk, inex⟩ _ (.inr ⟨b, _, hb, by rw [hkk], hat3, ?_⟩) ((hmod.trans upd_mod fun c hc _ => hc).mono fun c hc _ => ⟨0, by rw [hc]⟩) fun c hc => hc
    rw [List.length_append, hzl, hkk]
    omega
abbrev zT : Value := .agg #[.int .i64 0, .int .i64 0, .int .i64 0]
set_option maxHeartbeats 1000000 in
/-- slices.Compact of findings. -/
theorem s25 {S : St} {s : Sl} {l : List Tri} {k : Value → St → Prop} (h : GrX encT 3 0 S s l) (hl : l.length ≤ 10000000) (hk : ∀ s' S', GrX encT 3 0 S' s' (cmpct l) → Mod (slO s) S S' → (∀ c, slO s' c → slO s c) → k (.slice s'.a s'.len s'.cap) S') : WC E0 25 [.slice s.a s.len s.cap] S k := by
  refine w25 s ?_
  unfold c25
  have hsl := h.len
  refine ifW_dec (fun hlt => ?_) fun hge => ?_
  · have e : cmpct l = l := by
      match l, hsl with
      | [], _ => rfl
      | [a], _ => rfl
      | a :: b :: r, hsl => simp at hsl; omega
    exact hk s S (by rw [e]; exact h) (Mod.refl _ _) fun _ h => h
  have hl2 : 2 ≤ l.length := by omega
  rcases h with ⟨rfl, rfl⟩ | ⟨b, rest, hb, rfl, hat, hroom⟩
  · simp at hl2
  have hf : ∀ x : Tri, (encT x).length = 3 := fun _ => rfl
  dsimp only
  refine loopW_ind (fun q (n1 : Int) S' => ∃ n : Nat, n1 = n ∧ 1 ≤ n ∧ n ≤ l.length ∧ q = l.length - n ∧ S' = S ∧ cmpct (l.take n) = l.take n) (m := l.length - 1) ⟨1, rfl, by omega, by omega, rfl, rfl, by
    match l, hl2 with
    | a :: b :: r, _ => rfl⟩ ?_
  rintro P q n1 S1 ⟨n, rfl, h1, hn, rfl, rfl, hm⟩ hP
  have hSl : SlOf encT 3 S1 ⟨some ⟨b, 0, none⟩, l.length, inex⟩ l := GrX.of hf (N := 0) (.inr ⟨b, rest, hb, rfl, hat, hroom⟩)
  refine ifW_dec (fun hlt => ?_) fun hlt => ?_
  rotate_left
  · have hn' : n = l.length := by omega
    rw [hn', List.take_length] at hm
    exact hk _ S1 (by rw [hm]; exact .inr ⟨b, rest, hb, rfl, hat, hroom⟩) (Mod.refl _ _) fun _ h => h
  have hi : n < l.length := by omega
  have hw : wrapI .i64 ((n : Int) - 1) = ((n - 1 : Nat) : Int) := by rw [wrap_i64 (by omega) (by omega)]; omega
  refine SlOf.tri hSl hi ?_
  rw [hw]
  refine SlOf.tri hSl (show n - 1 < l.length by omega) ?_
  refine ⟨_, eqTri _ _ _, ?_⟩
  refine ifW_dec (fun heq => ?_) fun hne => ?_
  rotate_left
  · rw [wrap_succ (by omega)]
    refine hP _ _ _ (by omega) ⟨n + 1, rfl, by omega, by omega, rfl, rfl, ?_⟩
    rw [cmpct_next (by omega) hi, if_neg (fun e => hne e.symm), hm, take_snoc hi]
  -- the first one that stands twice
  have hr := roomD_at (o := 0) hat (by omega)
  have hcl : (l.flatMap encT ++ rest).length = l.length * 3 + rest.length := by rw [List.length_append, flat_len hf]
  have hmx : Nat.max l.length (roomD S1 b 0 3) < inex := by
    show max l.length (roomD S1 b 0 3) < inex
    rw [hr, hcl]
    omega
  refine evV_of (ty := tS) ⟨some ⟨b, 0 + n * 3, none⟩, l.length - n, inex⟩ (sliceD_grow (lo := n) (hi := l.length) und30 size33 hat (natOf_int (k := .i64)) rfl (by omega) (Nat.le_max_left _ _) hmx) ?_
  dsimp only
  have hc0 : cmpct (l.take (n + 1)) = l.take n := by rw [cmpct_next (by omega) hi, if_pos heq.symm, hm]
  refine loopW_ind (fun q (x : Int × Int) S' => ∃ j : Nat, x = (((cmpct (l.take (n + j))).length : Int), (j : Int)) ∧ 1 ≤ j ∧ n + j ≤ l.length ∧ q = l.length - (n + j) ∧ (cmpct (l.take (n + j))).length < n + j ∧ At S' b (.cells ((mid l (n + j)).flatMap encT ++ rest) (some 3) false none) ∧ Mod (fun c => c = b) S1 S') (m := l.length - (n + 1))
    ⟨1, by rw [hc0, List.length_take, Nat.min_eq_left (by omega)]; rfl, by omega, by omega, rfl, by rw [hc0, List.length_take]; omega, by
      have e : mid l (n + 1) = l := by unfold mid; rw [hc0, List.length_take, Nat.min_eq_left (by omega), List.take_append_drop]
      rw [e]; exact hat, Mod.refl _ _⟩ ?_
  rintro P2 q2 x2 S2 ⟨j, rfl, hj1, hjl, rfl, hcl2, hat2, hmod⟩ hP2
  dsimp only
  have hml := mid_len (l := l) hjl
  have hSm : SlOf encT 3 S2 ⟨some ⟨b, 0, none⟩, l.length, inex⟩ (mid l (n + j)) := GrX.of hf (N := 0) (.inr ⟨b, rest, hb, by rw [hml], hat2, by rw [hml]; exact hroom⟩)
  refine ifW_dec (fun hlt2 => ?_) fun hlt2 => ?_
  · have hij : n + j < l.length := by omega
    have hpart : SlOf encT 3 S2 ⟨some ⟨b, 0 + n * 3, none⟩, l.length - n, inex⟩ (((mid l (n + j)).drop n).take (l.length - n)) := SlOf.part hf hSm rfl (by omega) (by omega) (fun _ => rfl)
    have hpl : (((mid l (n + j)).drop n).take (l.length - n)).length = l.length - n := by rw [List.length_take, List.length_drop, hml]; omega
    have hgt : ∀ i (hi : i < (((mid l (n + j)).drop n).take (l.length - n)).length) (hil : n + i < l.length), (cmpct (l.take (n + j))).length ≤ n + i → (((mid l (n + j)).drop n).take (l.length - n))[i] = l[n + i] := fun i hi hil hc => by
      rw [List.getElem_take, List.getElem_drop]
      exact mid_at hc hil _
    have hw2 : wrapI .i64 ((j : Int) - 1) = ((j - 1 : Nat) : Int) := by rw [wrap_i64 (by omega) (by omega)]; omega
    have hin : j < (((mid l (n + j)).drop n).take (l.length - n)).length := by rw [hpl]; omega
    have hin1 : j - 1 < (((mid l (n + j)).drop n).take (l.length - n)).length := by rw [hpl]; omega
    refine SlOf.tri hpart hin ?_
    rw [hw2]
    refine SlOf.tri hpart hin1 ?_
    rw [hgt j hin (by omega) (by omega), hgt (j - 1) hin1 (by omega) (by omega)]
    have hidx : l[n + (j - 1)]'(by omega) = l[n + j - 1]'(by omega) := by congr 1; omega
    rw [hidx]
    have hnext := cmpct_next (l := l) (i := n + j) (by omega) hij
    refine ⟨_, eqTri _ _ _, ?_⟩
    refine ifW_ndec (fun hb2 => ?_) fun hb2 => ?_
    · refine SlOf.tri hpart hin ?_
      rw [hgt j hin (by omega) (by omega)]
      refine ⟨b, 0, rfl, by omega, by show (((cmpct (l.take (n + j))).length : Nat) : Int) < ((l.length : Nat) : Int); omega, ?_⟩
      rw [if_neg (fun e => hb2 e.symm)] at hnext
      have hlen2 : (cmpct (l.take (n + (j + 1)))).length = (cmpct (l.take (n + j))).length + 1 := by rw [← Nat.add_assoc, hnext]; simp
      obtain ⟨d, r, hdr⟩ : ∃ d r, l.drop (cmpct (l.take (n + j))).length = d :: r := ⟨_, _, List.drop_eq_getElem_cons (by omega)⟩
      have hr1 : l.drop ((cmpct (l.take (n + j))).length + 1) = r := by rw [← List.drop_drop, hdr]; rfl
      have hset := flat_set (f := encT) (sz := 3) hf (cmpct (l.take (n + j))) d r rest l[n + j]
      have hmid2 : mid l (n + (j + 1)) = cmpct (l.take (n + j)) ++ l[n + j] :: r := by
        unfold mid
        rw [hlen2, hr1, ← Nat.add_assoc, hnext]
        simp
      have hmid1 : mid l (n + j) = cmpct (l.take (n + j)) ++ d :: r := by unfold mid; rw [hdr]
      rw [← hmid1, ← hmid2] at hset
      have hmlen : (mid l (n + j)).length = l.length := hml
      refine ⟨_, store_cells (n := 3) (v := sv G32 l[n + j]) hat2 (by kernel_rfl) rfl (by rw [List.length_append, flat_len hf, hmlen, Int.toNat_natCast]; omega) rfl, ?_⟩
      rw [wrap_succ (by omega), wrap_succ (by omega)]
      refine hP2 _ _ _ (by omega) ⟨j + 1, by rw [hlen2], by omega, by omega, rfl, by rw [hlen2]; omega, ?_, hmod.trans upd_mod fun c hc _ => hc⟩
      have := upd_at (o' := .cells ((mid l (n + (j + 1))).flatMap encT ++ rest) (some 3) false none) hat2
      rw [← hset] at this ⊢
      rw [Int.toNat_natCast, Nat.zero_add]
      exact this
    · rw [if_pos hb2.symm] at hnext
      have hlen2 : cmpct (l.take (n + (j + 1))) = cmpct (l.take (n + j)) := by rw [← Nat.add_assoc, hnext]
      have hmid2 : mid l (n + (j + 1)) = mid l (n + j) := by unfold mid; rw [hlen2]
      rw [wrap_succ (by omega)]
      exact hP2 _ _ _ (by omega) ⟨j + 1, by rw [hlen2], by omega, by omega, rfl, by rw [hlen2]; omega, by rw [hmid2]; exact hat2, hmod⟩
  · have hij : n + j = l.length := by omega
    rw [hij, List.take_length] at hcl2 ⊢
    rw [hij] at hat2 hml hSm
    have hmid : mid l l.length = cmpct l ++ l.drop (cmpct l).length := by unfold mid; rw [List.take_length]
    have hr2 := roomD_at (o := 0) hat2 (by omega)
    have hcl3 : ((mid l l.length).flatMap encT ++ rest).length = l.length * 3 + rest.length := by rw [List.length_append, flat_len hf, hml]
    have hmx2 : Nat.max l.length (roomD S2 b 0 3) < inex := by
      show max l.length (roomD S2 b 0 3) < inex
      rw [hr2, hcl3]
      omega
    generalize hkk : (cmpct l).length = kk at *
    refine evV_of (ty := tS) ⟨some ⟨b, 0 + kk * 3, none⟩, l.length - kk, inex⟩ (sliceD_grow (lo := kk) (hi := l.length) und30 size33 hat2 (natOf_int (k := .i64)) rfl (by omega) (Nat.le_max_left _ _) hmx2) ?_
    dsimp only
    have hzl : (zerosD (cellsOf zT) (l.length - kk)).length = (l.length - kk) * 3 := zeros_len rfl _
    have hcle := flat_clear (f := encT) (sz := 3) hf (cmpct l) (l.drop kk) rest (zerosD (cellsOf zT) (l.length - kk)) (by rw [hzl, List.length_drop])
    rw [hkk, ← hmid] at hcle
    have hb0 : Nat.beq (l.length - kk) 0 = false := Bool.eq_false_iff.2 fun hh => by have := Nat.eq_of_beq_eq_true hh; omega
    have hle : Nat.ble (0 + kk * 3 + (zerosD (cellsOf zT) (l.length - kk)).length) ((mid l l.length).flatMap encT ++ rest).length = true := Nat.ble_eq_true_of_le (by rw [hzl, hcl3]; omega)
    have hone := zeros_one (z := cellsOf zT) rfl (l.length - kk)
    have hres : ((mid l l.length).flatMap encT ++ rest).take (0 + kk * 3) ++ (zerosD (cellsOf zT) (l.length - kk) ++ ((mid l l.length).flatMap encT ++ rest).drop (0 + kk * 3 + (zerosD (cellsOf zT) (l.length - kk)).length)) = (cmpct l).flatMap encT ++ (zerosD (cellsOf zT) (l.length - kk) ++ rest) := by
      rw [Nat.zero_add]; exact hcle
    refine ⟨S2.upd b (.cells ((cmpct l).flatMap encT ++ (zerosD (cellsOf zT) (l.length - kk) ++ rest)) (some 3) false none), ?_, ?_⟩
    · simp only [clearD, und30, inf33, zero33, Option.bind_some, hb0, cond_false, St.storeN, hat2.get, hle, hone, St.fzOk, Bool.not_false, Bool.and_true, cond_true, hres]
    have hat3 := upd_at (o' := .cells ((cmpct l).flatMap encT ++ (zerosD (cellsOf zT) (l.length - kk) ++ rest)) (some 3) false none) hat2
    have hr3 := roomD_at (o := 0) hat3 (by omega)
    have hcl4 : ((cmpct l).flatMap encT ++ (zerosD (cellsOf zT) (l.length - kk) ++ rest)).length = l.length * 3 + rest.length := by rw [List.length_append, List.length_append, flat_len hf, hzl, hkk]; omega
    have hmx3 : Nat.max l.length (roomD (S2.upd b (.cells ((cmpct l).flatMap encT ++ (zerosD (cellsOf zT) (l.length - kk) ++ rest)) (some 3) false none)) b 0 3) < inex := by
      show max l.length _ < inex
      rw [hr3, hcl4]
      omega
    refine evV_of (ty := tS) ⟨some ⟨b, 0, none⟩, kk, inex⟩ (sliceD_grow (lo := 0) (hi := kk) und30 size33 hat3 rfl (natOf_int (k := .i64)) (by omega) (Nat.le_trans (by omega) (Nat.le_max_left _ _)) hmx3) ?_
    refine hk ⟨some ⟨b, 0, none⟩, kk, inex⟩ _ (.inr ⟨b, _, hb, by rw [hkk], hat3, ?_⟩) ((hmod.trans upd_mod fun c hc _ => hc).mono fun c hc _ => ⟨0, by rw [hc]⟩) fun c hc => hc
    rw [List.length_append, hzl, hkk]
    omega
end
end Go.Proofs.YtfopfocedlbihaaDoor

/- What is found of a robot. -/
namespace Go.Proofs.YtfopfocedlbihaaDoor
open Go Go.Proofs.YtfopfocedlbihaaDoor.D
set_option linter.unusedVariables false
set_option linter.unusedSimpArgs false
noncomputable section

theorem grX_frm {α : Type} {f : α → List Value} {sz : Nat} {s : Sl} {l : List α} : Frm (slO s) (fun S => GrX f sz 0 S s l) := by
  intro F S S' m hF h
  rcases h with h | ⟨b, rest, h1, h2, h3, h4⟩
  · exact .inl h
  · exact .inr ⟨b, rest, h1, h2, m.at h3 (hF b ⟨0, by rw [h2]⟩), h4⟩
theorem grX_lt {α : Type} {f : α → List Value} {sz : Nat} {S : St} {s : Sl} {l : List α} (h : GrX f sz 0 S s l) {c : Nat} (hc : slO s c) : c < S.next := by
  obtain ⟨o, hc⟩ := hc
  rcases h with ⟨_, rfl⟩ | ⟨b, rest, h1, rfl, h3, h4⟩
  · cases hc
  · cases hc; exact h3.lt
theorem slO_new {s s' : Sl} {S : St} (hs' : s'.a = s.a ∨ ∃ b, s'.a = some ⟨b, 0, none⟩ ∧ S.next ≤ b) : ∀ c, slO s' c → slO s c ∨ S.next ≤ c := fun c hc => by
  obtain ⟨o, e⟩ := hc
  rcases hs' with h | ⟨b', h, h'⟩
  · exact .inl ⟨o, by rw [← h]; exact e⟩
  · rw [h] at e; cases e; exact .inr h'
theorem lt_inex : 100000000000 < inex := by decide
theorem nil_slO {c : Nat} (h : slO ⟨none, 0, 0⟩ c) : False := by obtain ⟨o, h⟩ := h; cases h
theorem app_int {S : St} {s : Sl} {l : List Int} {b : Nat} {x : Int} (h : GrX encI 1 0 S s l) (hat : At S b (.cells [.int .i64 x] none false none)) (hl : l.length ≤ 100000000)
    {k : Sl → St → Prop} (hk : ∀ s' S', GrX encI 1 0 S' s' (l ++ [x]) → Mod (slO s) S S' → (∀ c, slO s' c → slO s c ∨ S.next ≤ c) → k s' S') :
    evP tS (appendD E0 S 22 22 (.slice s.a s.len s.cap) (.slice (some ⟨b, 0, none⟩) 1 1)) k :=
  GrX.append (E := E0) (f := encI) (sz := 1) (N := 0) (fun _ => rfl) (by omega) h und22 inf3 und22 (by kernel_rfl) (by kernel_rfl) zero3 rfl (vs := [x]) rfl (firstD_box (f := encI) (sz := 1) (v := x) (fun _ => rfl) (by omega) hat) rfl
    (show (l.length + 1) * DEnv.i3.bytes ≤ 17592186044416 by rw [bytes3]; omega) (show l.length + 1 ≤ 17592186044416 by omega) (by simp) (show (l.length + 1) * 1 < inex by have h := lt_inex; omega)
    (fun s' S' g m hs' => hk s' S' g (m.mono fun c hc _ => ⟨0, hc.2⟩) (slO_new hs')) (Nat.zero_le _)
theorem app_fnd {S : St} {s : Sl} {l : List Tri} {b : Nat} {x : Tri} (h : Ow encT 3 S s l) (hat : At S b (.cells (encT x) none false none)) (hl : l.length ≤ 100000000)
    {k : Sl → St → Prop} (hk : ∀ s' S', Ow encT 3 S' s' (l ++ [x]) → Mod (slO s) S S' → (∀ c, slO s' c → slO s c ∨ S.next ≤ c) → k s' S') :
    evP tS (appendD E0 S 30 30 (.slice s.a s.len s.cap) (.slice (some ⟨b, 0, none⟩) 1 1)) k :=
  Ow.append (E := E0) (f := encT) (sz := 3) (fun _ => rfl) (by omega) h und30 inf33 und30 (by kernel_rfl) (by kernel_rfl) zero33 rfl (vs := [x]) rfl (firstD_box (f := encT) (sz := 3) (v := x) (fun _ => rfl) (by omega) hat) rfl
    (show (l.length + 1) * DEnv.i33.bytes ≤ 17592186044416 by rw [bytes33]; omega) (show l.length + 1 ≤ 17592186044416 by omega) (by simp) (show (l.length + 1) * 3 < inex by have h := lt_inex; omega) hk
theorem app_fndX {S : St} {s : Sl} {l : List Tri} {b : Nat} {x : Tri} (h : GrX encT 3 0 S s l) (hat : At S b (.cells (encT x) none false none)) (hl : l.length ≤ 100000000)
    {k : Sl → St → Prop} (hk : ∀ s' S', GrX encT 3 0 S' s' (l ++ [x]) → Mod (slO s) S S' → (∀ c, slO s' c → slO s c ∨ S.next ≤ c) → k s' S') :
    evP tS (appendD E0 S 30 30 (.slice s.a s.len s.cap) (.slice (some ⟨b, 0, none⟩) 1 1)) k :=
  GrX.append (E := E0) (f := encT) (sz := 3) (N := 0) (fun _ => rfl) (by omega) h und30 inf33 und30 (by kernel_rfl) (by kernel_rfl) zero33 rfl (vs := [x]) rfl (firstD_box (f := encT) (sz := 3) (v := x) (fun _ => rfl) (by omega) hat) rfl
    (show (l.length + 1) * DEnv.i33.bytes ≤ 17592186044416 by rw [bytes33]; omega) (show l.length + 1 ≤ 17592186044416 by omega) (by simp) (show (l.length + 1) * 3 < inex by have h := lt_inex; omega)
    (fun s' S' g m hs' => hk s' S' g (m.mono fun c hc _ => ⟨0, hc.2⟩) (slO_new hs')) (Nat.zero_le _)
/-- Are claims more than may be, or two of one cell? -/
theorem s50 {S : St} {s : Sl} {l : List Clm} {k : Value → St → Prop} (h : SlOf encC 2 S s l) (hl : l.length ≤ 1000) (hk : ∀ S', Ext S S' → k (.bool (twiceV l)) S') : WC E0 50 [.slice s.a s.len s.cap] S k := by
  refine w50 s ?_
  unfold c50
  have hsl := h.len
  have h0 : GrX encI 1 0 S ⟨none, 0, 0⟩ ((l.take 0).map (·.1)) := .inl ⟨rfl, rfl⟩
  have hL0 := Cx.start (S := S) noB h0 grX_frm (fun c hc => grX_lt h0 hc)
  refine loopW_ind (fun q (x : Sl × Int) S' => ∃ (n : Nat) (sl : Sl), x = (sl, (n : Int)) ∧ n ≤ l.length ∧ q = l.length - n ∧ Cx noB S S' [] (slO sl) (fun S => GrX encI 1 0 S sl ((l.take n).map (·.1))) ∧ ∀ c, slO sl c → S.next ≤ c) (m := l.length)
    ⟨0, _, rfl, by omega, rfl, hL0, fun c hc => (nil_slO hc).elim⟩ ?_
  rintro P q x1 S1 ⟨n, sl, rfl, hn, rfl, hL, hs⟩ hP
  dsimp only
  refine ifW_dec (fun hlt => ?_) fun hlt => ?_
  · have hi : n < l.length := by omega
    refine SlOf.clm (Ext.slOf hL.mod h) hi ?_
    have hsn : (l.take (n + 1)).map (·.1) = (l.take n).map (·.1) ++ [l[n].1] := by rw [take_snoc hi, List.map_append]; rfl
    generalize l[n] = c at hsn ⊢
    refine hL.new fun b3 S2 hL _ _ => ?_
    refine hL.st 0 _ rfl (by kernel_rfl) rfl (Nat.le_of_ble_eq_true rfl) rfl rfl fun S3 hL _ => ?_
    refine ptrW_of ?_
    refine hL.ld 0 rfl (by kernel_rfl) c.1 rfl ?_
    refine hL.new fun b6 S4 hL _ _ => ?_
    have hnx := hL.mod.next
    refine app_int hL.p (hL.at 0 rfl) (by rw [List.length_map, List.length_take]; omega) fun s' S5 g' m hs' => ?_
    rw [wrap_succ (by omega)]
    rw [← hsn] at g'
    exact hP _ _ _ (by omega) ⟨n + 1, s', rfl, by omega, rfl, Cx.tl (hL.op m (fun _ h => h) (fun c hc hlt => by have := hs c hc; omega) g' grX_frm hs' (fun c hc => grX_lt g' hc)) 2, fun c hc => (hs' c hc).elim (hs c) fun h => by omega⟩
  · have hi : n = l.length := by omega
    have hp := hL.p
    rw [hi, List.take_length] at hp
    refine evC_of (s83 hp (by rw [List.length_map]; omega) fun S6 g6 m6 => ⟨PUnit.unit, rfl, ?_⟩)
    have hL6 : Cx noB S S6 [] (slO sl) (fun S => GrX encI 1 0 S sl (sortI (l.map (·.1)))) := hL.op m6 (fun _ h => h) (fun c hc hlt => by have := hs c hc; omega) g6 grX_frm (fun c hc => .inl hc) (fun c hc => grX_lt g6 hc)
    have hl2 : s.len = l.length := hsl
    refine ifW_dec (fun hb => ?_) fun hb => ?_
    · have e : twiceV l = true := by unfold twiceV; rw [decide_eq_true (show 16 < l.length by omega)]; rfl
      have := hk S6 hL6.mod
      rw [e] at this
      exact this
    · refine evC_of (s84 g6 (by rw [sortI_len, List.length_map]; omega) fun s7 S7 g7 m7 hs7 => ⟨s7, rfl, ?_⟩)
      have hL7 : Cx noB S S7 [] (slO s7) (fun S => GrX encI 1 0 S s7 (cmpct (sortI (l.map (·.1))))) := hL6.op m7 (fun _ h => h) (fun c hc hlt => by have := hs c hc; omega) g7 grX_frm (fun c hc => .inl (hs7 c hc)) (fun c hc => grX_lt g7 hc)
      have hl7 := g7.len
      have e : twiceV l = !eqI (s7.len : Int) (s.len : Int) := by
        unfold twiceV
        rw [decide_eq_false (show ¬ 16 < l.length by omega), Bool.false_or, eqI_eq, hl7, hl2]
        by_cases hq : (cmpct (sortI (l.map (·.1)))).length = l.length
        · simp [hq]
        · have hq' : ¬ ((cmpct (sortI (l.map (·.1)))).length : Int) = (l.length : Int) := by omega
          rw [decide_eq_true hq, decide_eq_false hq']
          rfl
      have := hk S7 hL7.mod
      rw [e] at this
      exact this
/-- What is found is told. -/
theorem s45 {S0 S : St} {L : List (Nat × DObj)} {sl : Sl} {acc : List Tri} {t : Bool} {code cell kk : Int} {b2 c1 : Nat} (hL : Cx noB S0 S L (slO sl) (fun S => Ow encT 3 S sl acc)) (hs : ∀ c, slO sl c → S0.next ≤ c) (i : Nat)
    (hi : L[i]? = some (b2, .cells [.slice sl.a sl.len sl.cap] none false none)) (h1 : At S0 c1 (.cells [.int .i64 kk] none false none)) (hl : acc.length ≤ 10000000) {k : PUnit → St → Prop}
    (hk : ∀ sl' S', Cx noB S0 S' (L.set i (b2, .cells [.slice sl'.a sl'.len sl'.cap] none false none)) (slO sl') (fun S => Ow encT 3 S sl' (acc ++ onV t (code, kk, cell))) → (∀ c, slO sl' c → S0.next ≤ c) → k PUnit.unit S') :
    evY E0 (TT.tup []) (.func (.func 45) #[] #[.pointer (some ⟨b2, 0, none⟩), .pointer (some ⟨c1, 0, none⟩)]) [.bool t, .int .i64 code, .int .i64 cell] S k := by
  refine evY_func (evC_of (w45 t code cell b2 c1 ?_))
  unfold c45
  cases t with
  | false =>
    refine ifW_of (fun h => by cases h) fun _ => ?_
    refine ⟨PUnit.unit, rfl, hk sl S ?_ hs⟩
    have e : L.set i (b2, .cells [.slice sl.a sl.len sl.cap] none false none) = L := by
      obtain ⟨h, e⟩ := List.getElem?_eq_some_iff.1 hi
      rw [← e]
      exact List.set_getElem_self _
    rw [e]
    show Cx noB S0 S L (slO sl) (fun S => Ow encT 3 S sl (acc ++ []))
    rw [List.append_nil]
    exact hL
  | true =>
    refine ifW_of (fun _ => ?_) fun h => by cases h
    refine hL.ld i hi (by kernel_rfl) sl rfl ?_
    refine evV_of (ty := tI) kk (load_one (Ext.at hL.mod h1) (by kernel_rfl)) ?_
    refine hL.new fun b1 S1 hL _ _ => ?_
    have hnx := hL.mod.next
    refine app_fnd (x := (code, kk, cell)) hL.p (hL.at 0 rfl) (by omega) fun s' S2 g' m hs' => ?_
    have hL := hL.op m (fun _ h => h) (fun c hc hlt => by have := hs c hc; omega) g' Ow.frm hs' (fun c hc => g'.lt hc)
    refine hL.st (i + 1) _ hi (by kernel_rfl) rfl (Nat.le_of_ble_eq_true rfl) rfl rfl fun S3 hL _ => ?_
    exact ⟨PUnit.unit, rfl, hk s' S3 (hL.tl 1) fun c hc => (hs' c hc).elim (hs c) fun h => by omega⟩
end
end Go.Proofs.YtfopfocedlbihaaDoor
