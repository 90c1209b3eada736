/-
  D, part 27: words for states: what stays, slices as lists, boxes, loops.
-/
import Derived.Test.YtcookjolkhcjhaaD26
namespace Go.Proofs.Ytcookjolkhcjhaa.D
noncomputable section
set_option linter.unusedVariables false
set_option linter.unusedSimpArgs false

/-! ### What a stretch of a run leaves: only blocks of F, of those that were, are written. -/
structure Mod (F : Nat → Prop) (S S' : St) : Prop where
  next : S.next ≤ S'.next
  keep : ∀ b, b < S.next → ¬ F b → S'.heap.get b = S.heap.get b
  low : ∀ lim, lim ≤ S.low → lim ≤ S.next → (∀ b, F b → lim ≤ b) → lim ≤ S'.low
def noB (_ : Nat) : Prop := False
/-- Nothing that was is written. -/
abbrev Ext (S S' : St) : Prop := Mod noB S S'
theorem Mod.refl (F : Nat → Prop) (S : St) : Mod F S S := ⟨Nat.le_refl _, fun _ _ _ => rfl, fun _ h _ _ => h⟩
theorem Mod.trans {F F' : Nat → Prop} {S S' S'' : St} (h : Mod F S S') (k : Mod F' S' S'') (hf : ∀ b, F' b → b < S.next → F b) : Mod F S S'' where
  next := Nat.le_trans h.next k.next
  keep := fun b hb hn => (k.keep b (Nat.lt_of_lt_of_le hb h.next) fun hb' => hn (hf b hb' hb)).trans (h.keep b hb hn)
  low := fun lim h1 h2 h3 => k.low lim (h.low lim h1 h2 h3) (Nat.le_trans h2 h.next) fun b hb => by
    by_cases hlt : b < S.next
    · exact h3 b (hf b hb hlt)
    · omega
theorem Mod.mono {F F' : Nat → Prop} {S S' : St} (h : Mod F S S') (hf : ∀ b, F b → b < S.next → F' b) : Mod F' S S' where
  next := h.next
  keep := fun b hb hn => h.keep b hb fun hb' => hn (hf b hb' hb)
  low := fun lim h1 h2 h3 => h.low lim h1 h2 fun b hb => by
    by_cases hlt : b < S.next
    · exact h3 b (hf b hb hlt)
    · omega
theorem Mod.ext {F F' : Nat → Prop} {S S' S'' : St} (h : Mod F S S') (k : Mod F' S' S'') (hf : ∀ b, F' b → S.next ≤ b) : Mod F S S'' := h.trans k fun b hb hlt => by have := hf b hb; omega
theorem Mod.tr {F : Nat → Prop} {S S' S'' : St} (h : Mod F S S') (k : Ext S' S'') : Mod F S S'' := h.ext k fun _ h => h.elim
theorem Ext.tr {S S' S'' : St} (h : Ext S S') (k : Ext S' S'') : Ext S S'' := Mod.tr h k

/-- Block b holds o. -/
structure At (S : St) (b : Nat) (o : DObj) : Prop where
  get : S.heap.get b = some o
  lt : b < S.next
theorem Mod.at {F : Nat → Prop} {S S' : St} (h : Mod F S S') {b : Nat} {o : DObj} (ha : At S b o) (hn : ¬ F b) : At S' b o := ⟨(h.keep b ha.lt hn).trans ha.get, Nat.lt_of_lt_of_le ha.lt h.next⟩
theorem Ext.at {S S' : St} (h : Ext S S') {b : Nat} {o : DObj} (ha : At S b o) : At S' b o := Mod.at h ha fun h => h

/-! ### Steps -/
theorem alloc_ext {S : St} {o : DObj} : Ext S (S.alloc o).2 :=
  ⟨Nat.le_succ _, fun b hb _ => PM.get_set_ne (by omega), fun lim h _ _ => h⟩
theorem alloc_at {S : St} {o : DObj} : At (S.alloc o).2 S.next o := ⟨PM.get_set_same _ _ _, Nat.lt_succ_self _⟩
theorem newW_of {S : St} {o : DObj} {k : Nat → St → Prop} (h : ∀ b S', b = S.next → At S' b o → Ext S S' → S'.next = S.next + 1 → k b S') : newW S o k := by
  intro b S' hb hS'
  subst hb hS'
  exact h _ _ rfl alloc_at alloc_ext rfl
theorem upd_mod {S : St} {b : Nat} {o : DObj} : Mod (fun c => c = b) S (S.upd b o) where
  next := Nat.le_refl _
  keep := fun c hc hn => PM.get_set_ne hn
  low := fun lim h1 _ h3 => by
    have := h3 b rfl
    show lim ≤ cond (Nat.blt b S.low) b S.low
    cases Nat.blt b S.low <;> assumption
theorem upd_at {S : St} {b : Nat} {o o' : DObj} (h : At S b o) : At (S.upd b o') b o' := ⟨PM.get_set_same _ _ _, h.lt⟩
theorem updW_of {S : St} {b : Nat} {o : DObj} {k : St → Prop} (hb : b < S.next) (h : ∀ S', At S' b o → Mod (fun c => c = b) S S' → S'.next = S.next → k S') : updW S b o k := by
  intro S' hS'
  subst hS'
  exact h _ ⟨PM.get_set_same _ _ _, hb⟩ upd_mod rfl
theorem setLowW_of {S : St} {l : Nat} {k : St → Prop} (h : ∀ S', S'.heap = S.heap → S'.next = S.next → S'.low = l → k S') : setLowW S l k := by
  intro S' hS'
  subst hS'
  exact h _ rfl rfl rfl
theorem hasW_of {S : St} {b : Nat} {o : DObj} {K : Prop} (h : At S b o) (k : K) : hasW S b o K := ⟨h.get, k⟩

theorem ifW_of {b : Bool} {X Y : Prop} (h1 : b = true → X) (h2 : b = false → Y) : ifW b X Y := by
  rw [ifW_iff]
  cases b
  · exact h2 rfl
  · exact h1 rfl
/-- b says p. -/
class Says (b : Bool) (p : outParam Prop) : Prop where
  iff : b = true ↔ p
instance (a b : Int) : Says (ltI a b) (a < b) := ⟨by rw [ltI_eq]; exact decide_eq_true_iff⟩
instance (a b : Int) : Says (leI a b) (a ≤ b) := ⟨by rw [leI_eq]; exact decide_eq_true_iff⟩
instance (a b : Int) : Says (eqI a b) (a = b) := ⟨by rw [eqI_eq]; exact decide_eq_true_iff⟩
instance (p : Prop) [Decidable p] : Says (decide p) p := ⟨decide_eq_true_iff⟩
instance (b : Bool) (p : Prop) [h : Says b p] : Says (!b) (¬ p) := ⟨by rw [← h.iff]; simp⟩
theorem says_true {b : Bool} {p : Prop} [h : Says b p] (hp : p) : b = true := h.iff.2 hp
theorem says_false {b : Bool} {p : Prop} [h : Says b p] (hp : ¬ p) : b = false := Bool.eq_false_iff.2 fun e => hp (h.iff.1 e)
theorem ifW_dec {b : Bool} {p : Prop} [h : Says b p] {X Y : Prop} (h1 : p → X) (h2 : ¬ p → Y) : ifW b X Y :=
  ifW_of (fun e => h1 (h.iff.1 e)) (fun e => h2 fun hp => by rw [h.iff.2 hp] at e; cases e)
theorem ifW_ndec {b : Bool} {p : Prop} [h : Says b p] {X Y : Prop} (h1 : ¬ p → X) (h2 : p → Y) : ifW (!b) X Y :=
  ifW_dec h1 fun e => h2 (Classical.not_not.1 e)
@[simp] theorem ifW_true {X Y : Prop} : ifW true X Y = X := rfl
@[simp] theorem ifW_false {X Y : Prop} : ifW false X Y = Y := rfl
theorem ifW_pos {b : Bool} {p : Prop} [Says b p] {X Y : Prop} (h : p) (x : X) : ifW b X Y := ifW_dec (fun _ => x) fun hn => (hn h).elim
theorem ifW_neg {b : Bool} {p : Prop} [Says b p] {X Y : Prop} (h : ¬ p) (y : Y) : ifW b X Y := ifW_dec (fun hp => (h hp).elim) fun _ => y

theorem evV_of {ty : TT} {c : Option Value} {k : ty.T → Prop} (x : ty.T) (h : c = some (ty.enc x)) (hk : k x) : evV ty c k := ⟨x, h, hk⟩
theorem evC_of {E : Env} {ty : TT} {g : Nat} {args : List Value} {S : St} {k : ty.T → St → Prop} (h : WC E g args S fun v S' => ∃ x, v = ty.enc x ∧ k x S') : evC E ty g args S k := h
theorem evY_func {E : Env} {ty : TT} {g : Nat} {first cap : Array Value} {args : List Value} {S : St} {k : ty.T → St → Prop} (h : evC E ty g (first.toList ++ args ++ cap.toList) S k) : evY E ty (.func (.func g) first cap) args S k := WV.of_WC h

/-- A loop, by what holds at each round, and a number that falls. -/
theorem loopW_ind {σ : Type} {body : (σ → St → Prop) → σ → St → Prop} {x : σ} {S : St} (I : Nat → σ → St → Prop) {m : Nat} (h0 : I m x S)
    (hs : ∀ (P : σ → St → Prop) m x S, I m x S → (∀ m' x' S', m' < m → I m' x' S' → P x' S') → body P x S) : loopW body x S := by
  intro P hP
  induction m using Nat.strongRecOn generalizing x S with
  | ind m ih => exact hP _ _ (hs P m x S h0 fun m' x' S' hlt h' => ih m' hlt h')

/-! ### Memory -/
theorem loadV_one {E : Env} {S : St} {t b o : Nat} {cs : List Value} {more : Option Nat} {ro : Bool} {fz : Option (Nat × Nat)} {d : DInfo} {v : Value} (h : S.heap.get b = some (.cells cs more ro fz)) (hd : E.inf t = some d) (ha : aggD d.und = false)
    (hv : cs[o]? = some v) : loadV E S t (.pointer (some ⟨b, o, none⟩)) = some v := by
  simp only [loadV, hd, ha, cond_false, St.load1, h, hv]
theorem loadV_agg {E : Env} {S : St} {t b o : Nat} {cs : List Value} {more : Option Nat} {ro : Bool} {fz : Option (Nat × Nat)} {d : DInfo} {vs : List Value} (h : S.heap.get b = some (.cells cs more ro fz)) (hd : E.inf t = some d) (ha : aggD d.und = true)
    (hv : (cs.drop o).take d.size = vs) (hl : vs.length = d.size) : loadV E S t (.pointer (some ⟨b, o, none⟩)) = some (.agg vs.toArray) := by
  subst hv
  simp only [loadV, hd, ha, cond_true, St.loadN, h]
  rw [hl, Nat.beq_refl]
  rfl
theorem storeV_one {E : Env} {S : St} {t b o : Nat} {cs : List Value} {more : Option Nat} {d : DInfo} {v : Value} (h : S.heap.get b = some (.cells cs more false none)) (hd : E.inf t = some d) (hs : d.size = 1) (ho : o < cs.length) (hv : cellsOf v = [v]) (hone : St.one v = true) :
    storeV E S t (.pointer (some ⟨b, o, none⟩)) v = some (S.upd b (.cells (cs.set o v) more false none)) := by
  have h1 : Nat.ble (o + 1) cs.length = true := Nat.ble_eq_true_of_le ho
  simp only [storeV, hd, hs, hv, List.length_singleton, Nat.beq_refl, cond_true, St.storeN, h, Bool.not_false, Bool.true_and, h1, List.all_cons, hone, List.all_nil, Bool.and_true, St.fzOk, List.singleton_append]
  rw [List.set_eq_take_append_cons_drop, if_pos ho]
/-- A box's number, text .. is written. -/
theorem evS_box {E : Env} {S : St} {t b o : Nat} {cs : List Value} {more : Option Nat} {d : DInfo} {v : Value} {k : St → Prop} (h : At S b (.cells cs more false none)) (hd : E.inf t = some d) (hs : d.size = 1) (ho : o < cs.length) (hv : cellsOf v = [v]) (hone : St.one v = true)
    (hk : ∀ S', At S' b (.cells (cs.set o v) more false none) → Mod (fun c => c = b) S S' → S'.next = S.next → k S') : evS (storeV E S t (.pointer (some ⟨b, o, none⟩)) v) k :=
  ⟨_, storeV_one h.get hd hs ho hv hone, hk _ (upd_at h) upd_mod rfl⟩

/-! ### Slices as lists -/
/-- The slice's elements are the list's (f: an element's cells, sz of them). -/
structure SlOf {α : Type} (f : α → List Value) (sz : Nat) (S : St) (s : Sl) (l : List α) : Prop where
  len : s.len = l.length
  mem : l ≠ [] → ∃ b o cs more ro fz, s.a = some ⟨b, o, none⟩ ∧ At S b (.cells cs more ro fz) ∧ (cs.drop o).take (l.length * sz) = l.flatMap f
/-- Its block is b, wholly its own; it grows by append. -/
def Gr {α : Type} (f : α → List Value) (sz : Nat) (N : Nat) (S : St) (s : Sl) (l : List α) : Prop :=
  (l = [] ∧ s = ⟨none, 0, 0⟩) ∨ ∃ b, N ≤ b ∧ s = ⟨some ⟨b, 0, none⟩, l.length, inex⟩ ∧ At S b (.cells (l.flatMap f) (some sz) false none)
theorem flat_len {α : Type} {f : α → List Value} {sz : Nat} (hf : ∀ x, (f x).length = sz) (l : List α) : (l.flatMap f).length = l.length * sz := by
  induction l with
  | nil => simp
  | cons x l ih => simp only [List.flatMap_cons, List.length_append, hf, ih, List.length_cons, Nat.succ_mul]; omega
theorem flat_drop {α : Type} {f : α → List Value} {sz : Nat} (hf : ∀ x, (f x).length = sz) : ∀ (l : List α) (i : Nat), (l.flatMap f).drop (i * sz) = (l.drop i).flatMap f := by
  intro l
  induction l with
  | nil => intro i; simp
  | cons x l ih =>
    intro i
    cases i with
    | zero => simp
    | succ i =>
      rw [List.flatMap_cons, List.drop_succ_cons, ← ih i, Nat.succ_mul, Nat.add_comm, ← List.drop_drop, List.drop_append_of_le_length (by rw [hf]; exact Nat.le_refl _)]
      have : (f x).drop sz = [] := List.drop_of_length_le (by rw [hf]; exact Nat.le_refl _)
      rw [this]; rfl
theorem flat_at {α : Type} {f : α → List Value} {sz : Nat} (hf : ∀ x, (f x).length = sz) {l : List α} {i : Nat} (hi : i < l.length) : ((l.flatMap f).drop (i * sz)).take sz = f l[i] := by
  rw [flat_drop hf, List.drop_eq_getElem_cons hi, List.flatMap_cons, List.take_append_of_le_length (by rw [hf]; exact Nat.le_refl _), List.take_of_length_le (by rw [hf]; exact Nat.le_refl _)]
theorem Gr.of {α : Type} {f : α → List Value} {sz N : Nat} {S : St} {s : Sl} {l : List α} (hf : ∀ x, (f x).length = sz) (h : Gr f sz N S s l) : SlOf f sz S s l := by
  rcases h with ⟨rfl, rfl⟩ | ⟨b, _, rfl, h⟩
  · exact ⟨rfl, fun h => (h rfl).elim⟩
  · exact ⟨rfl, fun _ => ⟨b, 0, _, _, _, _, rfl, h, by rw [List.drop_zero, List.take_of_length_le]; rw [flat_len hf]; exact Nat.le_refl _⟩⟩
theorem Mod.slOf {α : Type} {f : α → List Value} {sz : Nat} {F : Nat → Prop} {S S' : St} {s : Sl} {l : List α} (h : Mod F S S') (hs : SlOf f sz S s l) (hn : ∀ b o, s.a = some ⟨b, o, none⟩ → b < S.next → ¬ F b) : SlOf f sz S' s l :=
  ⟨hs.len, fun hl => let ⟨b, o, cs, more, ro, fz, h1, h2, h3⟩ := hs.mem hl; ⟨b, o, cs, more, ro, fz, h1, h.at h2 (hn b o h1 h2.lt), h3⟩⟩
theorem Ext.slOf {α : Type} {f : α → List Value} {sz : Nat} {S S' : St} {s : Sl} {l : List α} (h : Ext S S') (hs : SlOf f sz S s l) : SlOf f sz S' s l := Mod.slOf h hs fun _ _ _ _ h => h
theorem Mod.gr {α : Type} {f : α → List Value} {sz N : Nat} {F : Nat → Prop} {S S' : St} {s : Sl} {l : List α} (h : Mod F S S') (hs : Gr f sz N S s l) (hn : ∀ b, N ≤ b → b < S.next → ¬ F b) : Gr f sz N S' s l := by
  rcases hs with hs | ⟨b, h1, h2, h3⟩
  · exact .inl hs
  · exact .inr ⟨b, h1, h2, h.at h3 (hn b h1 h3.lt)⟩
theorem Ext.gr {α : Type} {f : α → List Value} {sz N : Nat} {S S' : St} {s : Sl} {l : List α} (h : Ext S S') (hs : Gr f sz N S s l) : Gr f sz N S' s l := Mod.gr h hs fun _ _ _ h => h
theorem Gr.down {α : Type} {f : α → List Value} {sz N N' : Nat} {S : St} {s : Sl} {l : List α} (hs : Gr f sz N S s l) (h : N' ≤ N) : Gr f sz N' S s l := by
  rcases hs with hs | ⟨b, h1, h2, h3⟩
  · exact .inl hs
  · exact .inr ⟨b, Nat.le_trans h h1, h2, h3⟩
theorem Gr.nil {α : Type} {f : α → List Value} {sz N : Nat} {S : St} : Gr f sz N S ⟨none, 0, 0⟩ [] := .inl ⟨rfl, rfl⟩

/-- Where an element stands. -/
theorem SlOf.idx {α : Type} {f : α → List Value} {sz : Nat} {S : St} {s : Sl} {l : List α} (hf : ∀ x, (f x).length = sz) (h : SlOf f sz S s l) {i : Int} (h0 : 0 ≤ i) (h1 : i < (l.length : Int)) {k : Nat → Nat → Prop}
    (hk : ∀ b o cs more ro fz, At S b (.cells cs more ro fz) → s.a = some ⟨b, o, none⟩ → (cs.drop (o + i.toNat * sz)).take sz = f (l[i.toNat]'(by omega)) → k b o) : idxW s.a s.len i k := by
  have hl : l ≠ [] := by rintro rfl; simp at h1; omega
  obtain ⟨b, o, cs, more, ro, fz, e1, e2, e3⟩ := h.mem hl
  refine ⟨b, o, e1, h0, by rw [h.len]; exact h1, hk b o cs more ro fz e2 e1 ?_⟩
  have hi : i.toNat < l.length := by omega
  rw [← flat_at hf hi, ← e3, List.drop_take, List.drop_drop, List.take_take]
  congr 1
  have : i.toNat * sz + sz ≤ l.length * sz := by rw [← Nat.succ_mul]; exact Nat.mul_le_mul_right _ hi
  omega
theorem at_of_take {cs : List Value} {o : Nat} {v : Value} (h : (cs.drop o).take 1 = [v]) : cs[o]? = some v := by
  rw [← List.head?_drop]
  cases hd : cs.drop o with
  | nil => rw [hd] at h; cases h
  | cons x r => rw [hd] at h; simp at h; simp [h]
/-- An element of one cell is read. -/
theorem SlOf.get1 {α : Type} {g : α → Value} {E : Env} {S : St} {s : Sl} {l : List α} (h : SlOf (fun x => [g x]) 1 S s l) {t : Nat} {d : DInfo} (hd : E.inf t = some d) (ha : aggD d.und = false) {i : Int} (h0 : 0 ≤ i) (h1 : i < (l.length : Int)) {k : Nat → Nat → Prop}
    (hk : ∀ b o, (∀ S', S'.heap.get b = S.heap.get b → loadV E S' t (.pointer (some ⟨b, o + i.toNat * 1, none⟩)) = some (g (l[i.toNat]'(by omega)))) → b < S.next → k b o) : idxW s.a s.len i k := by
  refine h.idx (sz := 1) (f := fun x => [g x]) (fun _ => rfl) h0 h1 fun b o cs more ro fz e _ e2 => hk b o (fun S' hS' => ?_) e.lt
  exact loadV_one (hS'.trans e.get) hd ha (at_of_take e2)

theorem SlOf.get1n {α : Type} {g : α → Value} {E : Env} {S : St} {s : Sl} {l : List α} (h : SlOf (fun x => [g x]) 1 S s l) {t : Nat} {d : DInfo} (hd : E.inf t = some d) (ha : aggD d.und = false) {n : Nat} (hn : n < l.length) {k : Nat → Nat → Prop}
    (hk : ∀ b o, (∀ S', S'.heap.get b = S.heap.get b → loadV E S' t (.pointer (some ⟨b, o + (n : Int).toNat * 1, none⟩)) = some (g l[n])) → b < S.next → k b o) : idxW s.a s.len (n : Int) k :=
  h.get1 hd ha (by omega) (by omega) hk
/-- Elements are appended to a slice that is one's own. -/
theorem Gr.append {α : Type} {f : α → List Value} {sz N : Nat} {E : Env} {S : St} {s : Sl} {l : List α} (hf : ∀ x, (f x).length = sz) (hsz : 0 < sz) (h : Gr f sz N S s l) {st xt e : Nat} {d : DInfo} {xd : TypeDesc} {z : Value} (hst : E.und st = some (.slice e)) (he : E.inf e = some d) (hxt : E.und xt = some xd) (hxd : apK xd = true)
    (hds : d.size = sz) (hz : d.zero = some z) (hzl : (cellsOf z).length = sz) {x : Value} {vs : List α} (hn : lenOfD x = some vs.length) (hx : firstD S sz vs.length x = some (vs.flatMap f)) (hone : (vs.flatMap f).all St.one = true)
    (hb : (l.length + vs.length) * d.bytes ≤ 17592186044416) (hb2 : l.length + vs.length ≤ 17592186044416) (hvs : vs ≠ [])
    {k : Sl → St → Prop} (hk : ∀ s' S', Gr f sz N S' s' (l ++ vs) → Mod (fun b => N ≤ b ∧ s.a = some ⟨b, 0, none⟩) S S' → S'.next = S.next + 1 → k s' S') (hN : N ≤ S.next) :
    evP tS (appendD E S st xt (.slice s.a s.len s.cap) x) k := by
  have hv0 : ¬ vs.length = 0 := fun hh => hvs (List.length_eq_zero_iff.1 hh)
  have hbz : Nat.beq vs.length 0 = false := Bool.eq_false_iff.2 fun hh => hv0 (Nat.eq_of_beq_eq_true hh)
  have hfl : (vs.flatMap f).length = vs.length * sz := flat_len hf vs
  have g1 : Nat.beq (cellsOf z).length sz = true := by rw [hzl, Nat.beq_refl]
  have g2 : Nat.blt 0 sz = true := by simpa [Nat.blt] using Nat.ble_eq_true_of_le hsz
  have g3 : Nat.beq (vs.flatMap f).length (vs.length * sz) = true := by rw [hfl, Nat.beq_refl]
  rcases h with ⟨rfl, rfl⟩ | ⟨b, hbN, rfl, hat⟩
  · have g4 : Nat.ble ((0 + vs.length) * d.bytes) 17592186044416 = true := Nat.ble_eq_true_of_le (by simpa using hb)
    have g5 : Nat.ble (0 + vs.length) 17592186044416 = true := Nat.ble_eq_true_of_le (by simpa using hb2)
    refine ⟨⟨some ⟨S.next, 0, none⟩, vs.length, inex⟩, (S.alloc (.cells (vs.flatMap f) (some sz) false none)).2, ?_, hk _ _ (.inr ⟨S.next, hN, ?_, ?_⟩) (alloc_ext.mono fun _ h _ => h.elim) rfl⟩
    · simp only [appendD, hst, he, hxt, hxd, cond_true, hz, Option.bind_some, hn, hds, hx, g1, g2, g3, g4, g5, Bool.and_true, hbz, cond_false, TT.enc, Ty.enc, Sc.enc]
    · simp
    · simpa using alloc_at
  · have g4 : Nat.ble ((l.length + vs.length) * d.bytes) 17592186044416 = true := Nat.ble_eq_true_of_le hb
    have g5 : Nat.ble (l.length + vs.length) 17592186044416 = true := Nat.ble_eq_true_of_le hb2
    have g6 : Nat.ble (0 + (l.length + vs.length) * sz) (l.flatMap f).length = false := by
      rw [flat_len hf, Bool.eq_false_iff]
      intro hh
      have := Nat.le_of_ble_eq_true hh
      have h2 : 0 < vs.length * sz := Nat.mul_pos (Nat.pos_of_ne_zero hv0) hsz
      rw [Nat.add_mul] at this
      omega
    have g7 : Nat.ble (0 + l.length * sz) (l.flatMap f).length = true := Nat.ble_eq_true_of_le (by rw [flat_len hf]; omega)
    have g8 : ((l.flatMap f).drop 0).take (l.length * sz) = l.flatMap f := by rw [List.drop_zero, List.take_of_length_le]; rw [flat_len hf]; exact Nat.le_refl _
    have hm : Mod (fun c => N ≤ c ∧ (some (⟨b, 0, none⟩ : Addr)) = some ⟨c, 0, none⟩) S ((S.upd b .dead).alloc (.cells (l.flatMap f ++ vs.flatMap f) (some sz) false none)).2 :=
      (upd_mod.mono fun c hc _ => by subst hc; exact ⟨hbN, rfl⟩).ext alloc_ext fun _ h => h.elim
    refine ⟨⟨some ⟨S.next, 0, none⟩, l.length + vs.length, inex⟩, ((S.upd b .dead).alloc (.cells (l.flatMap f ++ vs.flatMap f) (some sz) false none)).2, ?_, hk _ _ (.inr ⟨S.next, hN, ?_, ?_⟩) hm rfl⟩
    · simp only [appendD, hst, he, hxt, hxd, cond_true, hz, Option.bind_some, hn, hds, hx, g1, g2, g3, g4, g5, Bool.and_true, hbz, cond_false, TT.enc, Ty.enc, Sc.enc, Nat.beq_refl, hat.get, g6, g7, Bool.not_false, hone, St.fzOk, g8, Option.map_none]
    · simp
    · rw [List.flatMap_append]; exact alloc_at

/-- One element is appended. -/
theorem Gr.append1 {α : Type} {f : α → List Value} {sz N : Nat} {E : Env} {S : St} {s : Sl} {l : List α} (hf : ∀ x, (f x).length = sz) (hsz : 0 < sz) (h : Gr f sz N S s l) {st xt e : Nat} {d : DInfo} {xd : TypeDesc} {z : Value} (hst : E.und st = some (.slice e)) (he : E.inf e = some d) (hxt : E.und xt = some xd) (hxd : apK xd = true)
    (hds : d.size = sz) (hz : d.zero = some z) (hzl : (cellsOf z).length = sz) {b : Nat} {v : α} (hat : At S b (.cells (f v) none false none)) (hone : (f v).all St.one = true)
    (hb : (l.length + 1) * d.bytes ≤ 17592186044416) (hb2 : l.length + 1 ≤ 17592186044416)
    {k : Sl → St → Prop} (hk : ∀ s' S', Gr f sz N S' s' (l ++ [v]) → Mod (fun b => N ≤ b ∧ s.a = some ⟨b, 0, none⟩) S S' → S'.next = S.next + 1 → k s' S') (hN : N ≤ S.next) :
    evP tS (appendD E S st xt (.slice s.a s.len s.cap) (.slice (some ⟨b, 0, none⟩) 1 1)) k := by
  have g : Nat.beq (1 * sz) 0 = false := Bool.eq_false_iff.2 fun hh => by have := Nat.eq_of_beq_eq_true hh; omega
  refine h.append hf hsz hst he hxt hxd hds hz hzl (vs := [v]) rfl ?_ (by simpa using hone) hb hb2 (by simp) hk hN
  have e : ((f v).drop 0).take (1 * sz) = f v := by rw [List.drop_zero, List.take_of_length_le]; rw [hf]; omega
  have e2 : Nat.beq (f v).length (1 * sz) = true := by rw [hf, Nat.one_mul, Nat.beq_refl]
  simp only [firstD, List.length_singleton, g, cond_false, St.loadN, hat.get, e, e2, cond_true, List.flatMap_cons, List.flatMap_nil, List.append_nil]

/-! ### Parts of slices -/
theorem natOf_int {k : IntKind} {n : Nat} : natOf (.int k (n : Int)) = some n := by
  simp only [natOf, show decide ((0 : Int) ≤ (n : Int)) = true by simp, cond_true, Int.toNat_natCast]
/-- s[lo:hi:mx] of a slice whose capacity is known. -/
theorem sliceD_some {E : Env} {S : St} {t e sz : Nat} {a : Option Addr} {b o len cap lo hi mx : Nat} (ht : E.und t = some (.slice e)) (he : E.size e = some sz) (ha : a = some ⟨b, o, none⟩) (hc : cap < inex) {vl vh vm : Option Value}
    (hl : optNat (some 0) vl = some lo) (hm : optNat (some cap) vm = some mx) (hh : optNat (cond vm.isNone (some len) none) vh = some hi) (h1 : lo ≤ hi) (h2 : hi ≤ mx) (h3 : mx ≤ cap) :
    sliceD E S t (.slice a len cap) vl vh vm = some (.slice (some ⟨b, cond (Nat.beq mx lo) o (o + lo * sz), none⟩) (hi - lo) (mx - lo)) := by
  subst ha
  have hk : kcapD S sz (some ⟨b, o, none⟩) len cap = cap := by
    unfold kcapD
    rw [PM.beq_f (Nat.ne_of_lt hc)]; rfl
  have hx : mx < inex := Nat.lt_of_le_of_lt h3 hc
  simp only [sliceD, ht, he, Option.bind_some, hk, hm, hh, hl, Nat.ble_eq_true_of_le h3, Nat.ble_eq_true_of_le h2, Nat.ble_eq_true_of_le h1, Nat.blt_eq.mpr hx, Bool.and_true, Bool.true_and, cond_true, PM.beq_f (Nat.ne_of_lt hc), Bool.false_and, cond_false]
theorem SlOf.part {α : Type} {f : α → List Value} {sz : Nat} (hf : ∀ x, (f x).length = sz) {S : St} {s : Sl} {l : List α} (h : SlOf f sz S s l) {b o lo hi c o' : Nat} (ha : s.a = some ⟨b, o, none⟩) (h1 : lo ≤ hi) (h2 : hi ≤ l.length) (ho : hi ≠ lo → o' = o + lo * sz) : SlOf f sz S ⟨some ⟨b, o', none⟩, hi - lo, c⟩ ((l.drop lo).take (hi - lo)) := by
  refine ⟨by simp; omega, fun hn => ?_⟩
  have hne : hi ≠ lo := by rintro rfl; simp at hn
  have hl : l ≠ [] := by rintro rfl; simp at hn
  obtain ⟨b', o1, cs, more, ro, fz, e1, e2, e3⟩ := h.mem hl
  rw [ha] at e1
  cases e1
  refine ⟨b, o', cs, more, ro, fz, rfl, e2, ?_⟩
  have hlen : ((l.drop lo).take (hi - lo)).length = hi - lo := by simp; omega
  rw [hlen, ho hne]
  have key : ((l.flatMap f).drop (lo * sz)).take ((hi - lo) * sz) = ((l.drop lo).take (hi - lo)).flatMap f := by
    rw [flat_drop hf]
    have : ((l.drop lo).take (hi - lo)).flatMap f ++ ((l.drop lo).drop (hi - lo)).flatMap f = (l.drop lo).flatMap f := by rw [← List.flatMap_append, List.take_append_drop]
    rw [← this, List.take_append_of_le_length (by rw [flat_len hf, hlen]; exact Nat.le_refl _), List.take_of_length_le (by rw [flat_len hf, hlen]; exact Nat.le_refl _)]
  rw [← key, ← e3, List.drop_take, List.drop_drop, List.take_take]
  congr 1
  have : hi * sz ≤ l.length * sz := Nat.mul_le_mul_right _ h2
  have e : (hi - lo) * sz + lo * sz = hi * sz := by rw [← Nat.add_mul]; congr 1; omega
  omega

/-! ### Numbers -/
theorem wrap_i64 {n : Int} (h1 : -9223372036854775808 ≤ n) (h2 : n < 9223372036854775808) : wrapI .i64 n = n := by
  simp only [wrapI_eq, wrapD, inRange, h1, h2, decide_true, Bool.and_true, cond_true]
theorem wrap_u64 {n : Int} (h1 : 0 ≤ n) (h2 : n < 18446744073709551616) : wrapI .u64 n = n := by
  simp only [wrapI_eq, wrapD, inRange, h1, h2, decide_true, Bool.and_true, cond_true]
theorem wrap_u8 {n : Int} (h1 : 0 ≤ n) (h2 : n < 256) : wrapI .u8 n = n := by
  simp only [wrapI_eq, wrapD, inRange, h1, h2, decide_true, Bool.and_true, cond_true]
theorem wrap_u32 {n : Int} (h1 : 0 ≤ n) (h2 : n < 4294967296) : wrapI .u32 n = n := by
  simp only [wrapI_eq, wrapD, inRange, h1, h2, decide_true, Bool.and_true, cond_true]
theorem wrap_succ {n : Nat} (h : n < 9223372036854775807) : wrapI .i64 ((n : Int) + 1) = ((n + 1 : Nat) : Int) := by
  rw [wrap_i64 (by omega) (by omega)]; omega

end
end Go.Proofs.Ytcookjolkhcjhaa.D
