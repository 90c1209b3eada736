/- Parts of the proof, put together. -/
import Derived.Test.YtcdignblakejoaaDC
/-
  D, part 27: words for states: what stays, slices as lists, boxes, loops.
-/
namespace Go.Proofs.Ytcdignblakejoaa.D
noncomputable section
set_option linter.unusedVariables false
set_option linter.unusedSimpArgs false

/-! ### What a stretch of a run leaves: only blocks of F, of those that were, are written. -/
structure Mod (F : Nat → Prop) (S S' : St) : Prop where
  next : S.next ≤ S'.next
  keep : ∀ b, b < S.next → ¬ F b → S'.heap.get b = S.heap.get b
  low : ∀ lim, lim ≤ S.low → lim ≤ S.next → (∀ b, F b → lim ≤ b) → lim ≤ S'.low
def noB (_ : Nat) : Prop := False
/-- Nothing that was is written. -/
abbrev Ext (S S' : St) : Prop := Mod noB S S'
theorem Mod.refl (F : Nat → Prop) (S : St) : Mod F S S := ⟨Nat.le_refl _, fun _ _ _ => rfl, fun _ h _ _ => h⟩
theorem Mod.trans {F F' : Nat → Prop} {S S' S'' : St} (h : Mod F S S') (k : Mod F' S' S'') (hf : ∀ b, F' b → b < S.next → F b) : Mod F S S'' where
  next := Nat.le_trans h.next k.next
  keep := fun b hb hn => (k.keep b (Nat.lt_of_lt_of_le hb h.next) fun hb' => hn (hf b hb' hb)).trans (h.keep b hb hn)
  low := fun lim h1 h2 h3 => k.low lim (h.low lim h1 h2 h3) (Nat.le_trans h2 h.next) fun b hb => by
    by_cases hlt : b < S.next
    · exact h3 b (hf b hb hlt)
    · omega
theorem Mod.mono {F F' : Nat → Prop} {S S' : St} (h : Mod F S S') (hf : ∀ b, F b → b < S.next → F' b) : Mod F' S S' where
  next := h.next
  keep := fun b hb hn => h.keep b hb fun hb' => hn (hf b hb' hb)
  low := fun lim h1 h2 h3 => h.low lim h1 h2 fun b hb => by
    by_cases hlt : b < S.next
    · exact h3 b (hf b hb hlt)
    · omega
theorem Mod.ext {F F' : Nat → Prop} {S S' S'' : St} (h : Mod F S S') (k : Mod F' S' S'') (hf : ∀ b, F' b → S.next ≤ b) : Mod F S S'' := h.trans k fun b hb hlt => by have := hf b hb; omega
theorem Mod.tr {F : Nat → Prop} {S S' S'' : St} (h : Mod F S S') (k : Ext S' S'') : Mod F S S'' := h.ext k fun _ h => h.elim
theorem Ext.tr {S S' S'' : St} (h : Ext S S') (k : Ext S' S'') : Ext S S'' := Mod.tr h k

/-- Block b holds o. -/
structure At (S : St) (b : Nat) (o : DObj) : Prop where
  get : S.heap.get b = some o
  lt : b < S.next
theorem Mod.at {F : Nat → Prop} {S S' : St} (h : Mod F S S') {b : Nat} {o : DObj} (ha : At S b o) (hn : ¬ F b) : At S' b o := ⟨(h.keep b ha.lt hn).trans ha.get, Nat.lt_of_lt_of_le ha.lt h.next⟩
theorem Ext.at {S S' : St} (h : Ext S S') {b : Nat} {o : DObj} (ha : At S b o) : At S' b o := Mod.at h ha fun h => h

/-! ### Steps -/
theorem alloc_ext {S : St} {o : DObj} : Ext S (S.alloc o).2 :=
  ⟨Nat.le_succ _, fun b hb _ => PM.get_set_ne (by omega), fun lim h _ _ => h⟩
theorem alloc_at {S : St} {o : DObj} : At (S.alloc o).2 S.next o := ⟨PM.get_set_same _ _ _, Nat.lt_succ_self _⟩
theorem newW_of {S : St} {o : DObj} {k : Nat → St → Prop} (h : ∀ b S', b = S.next → At S' b o → Ext S S' → S'.next = S.next + 1 → k b S') : newW S o k := by
  intro b S' hb hS'
  subst hb hS'
  exact h _ _ rfl alloc_at alloc_ext rfl
theorem upd_mod {S : St} {b : Nat} {o : DObj} : Mod (fun c => c = b) S (S.upd b o) where
  next := Nat.le_refl _
  keep := fun c hc hn => PM.get_set_ne hn
  low := fun lim h1 _ h3 => by
    have := h3 b rfl
    show lim ≤ cond (Nat.blt b S.low) b S.low
    cases Nat.blt b S.low <;> assumption
theorem upd_at {S : St} {b : Nat} {o o' : DObj} (h : At S b o) : At (S.upd b o') b o' := ⟨PM.get_set_same _ _ _, h.lt⟩
theorem updW_of {S : St} {b : Nat} {o : DObj} {k : St → Prop} (hb : b < S.next) (h : ∀ S', At S' b o → Mod (fun c => c = b) S S' → S'.next = S.next → k S') : updW S b o k := by
  intro S' hS'
  subst hS'
  exact h _ ⟨PM.get_set_same _ _ _, hb⟩ upd_mod rfl
theorem setLowW_of {S : St} {l : Nat} {k : St → Prop} (h : ∀ S', S'.heap = S.heap → S'.next = S.next → S'.low = l → k S') : setLowW S l k := by
  intro S' hS'
  subst hS'
  exact h _ rfl rfl rfl
theorem hasW_of {S : St} {b : Nat} {o : DObj} {K : Prop} (h : At S b o) (k : K) : hasW S b o K := ⟨h.get, k⟩

theorem ifW_of {b : Bool} {X Y : Prop} (h1 : b = true → X) (h2 : b = false → Y) : ifW b X Y := by
  rw [ifW_iff]
  cases b
  · exact h2 rfl
  · exact h1 rfl
/-- b says p. -/
class Says (b : Bool) (p : outParam Prop) : Prop where
  iff : b = true ↔ p
instance (a b : Int) : Says (ltI a b) (a < b) := ⟨by rw [ltI_eq]; exact decide_eq_true_iff⟩
instance (a b : Int) : Says (leI a b) (a ≤ b) := ⟨by rw [leI_eq]; exact decide_eq_true_iff⟩
instance (a b : Int) : Says (eqI a b) (a = b) := ⟨by rw [eqI_eq]; exact decide_eq_true_iff⟩
instance (p : Prop) [Decidable p] : Says (decide p) p := ⟨decide_eq_true_iff⟩
instance (b : Bool) (p : Prop) [h : Says b p] : Says (!b) (¬ p) := ⟨by rw [← h.iff]; simp⟩
theorem says_true {b : Bool} {p : Prop} [h : Says b p] (hp : p) : b = true := h.iff.2 hp
theorem says_false {b : Bool} {p : Prop} [h : Says b p] (hp : ¬ p) : b = false := Bool.eq_false_iff.2 fun e => hp (h.iff.1 e)
theorem ifW_dec {b : Bool} {p : Prop} [h : Says b p] {X Y : Prop} (h1 : p → X) (h2 : ¬ p → Y) : ifW b X Y :=
  ifW_of (fun e => h1 (h.iff.1 e)) (fun e => h2 fun hp => by rw [h.iff.2 hp] at e; cases e)
theorem ifW_ndec {b : Bool} {p : Prop} [h : Says b p] {X Y : Prop} (h1 : ¬ p → X) (h2 : p → Y) : ifW (!b) X Y :=
  ifW_dec h1 fun e => h2 (Classical.not_not.1 e)
@[simp] theorem ifW_true {X Y : Prop} : ifW true X Y = X := rfl
@[simp] theorem ifW_false {X Y : Prop} : ifW false X Y = Y := rfl
theorem ifW_pos {b : Bool} {p : Prop} [Says b p] {X Y : Prop} (h : p) (x : X) : ifW b X Y := ifW_dec (fun _ => x) fun hn => (hn h).elim
theorem ifW_neg {b : Bool} {p : Prop} [Says b p] {X Y : Prop} (h : ¬ p) (y : Y) : ifW b X Y := ifW_dec (fun hp => (h hp).elim) fun _ => y

theorem evV_of {ty : TT} {c : Option Value} {k : ty.T → Prop} (x : ty.T) (h : c = some (ty.enc x)) (hk : k x) : evV ty c k := ⟨x, h, hk⟩
theorem evC_of {E : Env} {ty : TT} {g : Nat} {args : List Value} {S : St} {k : ty.T → St → Prop} (h : WC E g args S fun v S' => ∃ x, v = ty.enc x ∧ k x S') : evC E ty g args S k := h
theorem evY_func {E : Env} {ty : TT} {g : Nat} {first cap : Array Value} {args : List Value} {S : St} {k : ty.T → St → Prop} (h : evC E ty g (first.toList ++ args ++ cap.toList) S k) : evY E ty (.func (.func g) first cap) args S k := WV.of_WC h

/-- A loop, by what holds at each round, and a number that falls. -/
theorem loopW_ind {σ : Type} {body : (σ → St → Prop) → σ → St → Prop} {x : σ} {S : St} (I : Nat → σ → St → Prop) {m : Nat} (h0 : I m x S)
    (hs : ∀ (P : σ → St → Prop) m x S, I m x S → (∀ m' x' S', m' < m → I m' x' S' → P x' S') → body P x S) : loopW body x S := by
  intro P hP
  induction m using Nat.strongRecOn generalizing x S with
  | ind m ih => exact hP _ _ (hs P m x S h0 fun m' x' S' hlt h' => ih m' hlt h')

/-! ### Memory -/
theorem loadV_one {E : Env} {S : St} {t b o : Nat} {cs : List Value} {more : Option Nat} {ro : Bool} {fz : Option (Nat × Nat)} {d : DInfo} {v : Value} (h : S.heap.get b = some (.cells cs more ro fz)) (hd : E.inf t = some d) (ha : aggD d.und = false)
    (hv : cs[o]? = some v) : loadV E S t (.pointer (some ⟨b, o, none⟩)) = some v := by
  simp only [loadV, hd, ha, cond_false, St.load1, h, hv]
theorem loadV_agg {E : Env} {S : St} {t b o : Nat} {cs : List Value} {more : Option Nat} {ro : Bool} {fz : Option (Nat × Nat)} {d : DInfo} {vs : List Value} (h : S.heap.get b = some (.cells cs more ro fz)) (hd : E.inf t = some d) (ha : aggD d.und = true)
    (hv : (cs.drop o).take d.size = vs) (hl : vs.length = d.size) : loadV E S t (.pointer (some ⟨b, o, none⟩)) = some (.agg vs.toArray) := by
  subst hv
  simp only [loadV, hd, ha, cond_true, St.loadN, h]
  rw [hl, Nat.beq_refl]
  rfl
theorem storeV_one {E : Env} {S : St} {t b o : Nat} {cs : List Value} {more : Option Nat} {d : DInfo} {v : Value} (h : S.heap.get b = some (.cells cs more false none)) (hd : E.inf t = some d) (hs : d.size = 1) (ho : o < cs.length) (hv : cellsOf v = [v]) (hone : St.one v = true) :
    storeV E S t (.pointer (some ⟨b, o, none⟩)) v = some (S.upd b (.cells (cs.set o v) more false none)) := by
  have h1 : Nat.ble (o + 1) cs.length = true := Nat.ble_eq_true_of_le ho
  simp only [storeV, hd, hs, hv, List.length_singleton, Nat.beq_refl, cond_true, St.storeN, h, Bool.not_false, Bool.true_and, h1, List.all_cons, hone, List.all_nil, Bool.and_true, St.fzOk, List.singleton_append]
  rw [List.set_eq_take_append_cons_drop, if_pos ho]
/-- A box's number, text .. is written. -/
theorem evS_box {E : Env} {S : St} {t b o : Nat} {cs : List Value} {more : Option Nat} {d : DInfo} {v : Value} {k : St → Prop} (h : At S b (.cells cs more false none)) (hd : E.inf t = some d) (hs : d.size = 1) (ho : o < cs.length) (hv : cellsOf v = [v]) (hone : St.one v = true)
    (hk : ∀ S', At S' b (.cells (cs.set o v) more false none) → Mod (fun c => c = b) S S' → S'.next = S.next → k S') : evS (storeV E S t (.pointer (some ⟨b, o, none⟩)) v) k :=
  ⟨_, storeV_one h.get hd hs ho hv hone, hk _ (upd_at h) upd_mod rfl⟩

/-! ### Slices as lists -/
/-- The slice's elements are the list's (f: an element's cells, sz of them). -/
structure SlOf {α : Type} (f : α → List Value) (sz : Nat) (S : St) (s : Sl) (l : List α) : Prop where
  len : s.len = l.length
  mem : l ≠ [] → ∃ b o cs more ro fz, s.a = some ⟨b, o, none⟩ ∧ At S b (.cells cs more ro fz) ∧ (cs.drop o).take (l.length * sz) = l.flatMap f
/-- Its block is b, wholly its own; it grows by append. -/
def Gr {α : Type} (f : α → List Value) (sz : Nat) (N : Nat) (S : St) (s : Sl) (l : List α) : Prop :=
  (l = [] ∧ s = ⟨none, 0, 0⟩) ∨ ∃ b, N ≤ b ∧ s = ⟨some ⟨b, 0, none⟩, l.length, inex⟩ ∧ At S b (.cells (l.flatMap f) (some sz) false none)
theorem flat_len {α : Type} {f : α → List Value} {sz : Nat} (hf : ∀ x, (f x).length = sz) (l : List α) : (l.flatMap f).length = l.length * sz := by
  induction l with
  | nil => simp
  | cons x l ih => simp only [List.flatMap_cons, List.length_append, hf, ih, List.length_cons, Nat.succ_mul]; omega
theorem flat_drop {α : Type} {f : α → List Value} {sz : Nat} (hf : ∀ x, (f x).length = sz) : ∀ (l : List α) (i : Nat), (l.flatMap f).drop (i * sz) = (l.drop i).flatMap f := by
  intro l
  induction l with
  | nil => intro i; simp
  | cons x l ih =>
    intro i
    cases i with
    | zero => simp
    | succ i =>
      rw [List.flatMap_cons, List.drop_succ_cons, ← ih i, Nat.succ_mul, Nat.add_comm, ← List.drop_drop, List.drop_append_of_le_length (by rw [hf]; exact Nat.le_refl _)]
      have : (f x).drop sz = [] := List.drop_of_length_le (by rw [hf]; exact Nat.le_refl _)
      rw [this]; rfl
theorem flat_at {α : Type} {f : α → List Value} {sz : Nat} (hf : ∀ x, (f x).length = sz) {l : List α} {i : Nat} (hi : i < l.length) : ((l.flatMap f).drop (i * sz)).take sz = f l[i] := by
  rw [flat_drop hf, List.drop_eq_getElem_cons hi, List.flatMap_cons, List.take_append_of_le_length (by rw [hf]; exact Nat.le_refl _), List.take_of_length_le (by rw [hf]; exact Nat.le_refl _)]
theorem Gr.of {α : Type} {f : α → List Value} {sz N : Nat} {S : St} {s : Sl} {l : List α} (hf : ∀ x, (f x).length = sz) (h : Gr f sz N S s l) : SlOf f sz S s l := by
  rcases h with ⟨rfl, rfl⟩ | ⟨b, _, rfl, h⟩
  · exact ⟨rfl, fun h => (h rfl).elim⟩
  · exact ⟨rfl, fun _ => ⟨b, 0, _, _, _, _, rfl, h, by rw [List.drop_zero, List.take_of_length_le]; rw [flat_len hf]; exact Nat.le_refl _⟩⟩
theorem Mod.slOf {α : Type} {f : α → List Value} {sz : Nat} {F : Nat → Prop} {S S' : St} {s : Sl} {l : List α} (h : Mod F S S') (hs : SlOf f sz S s l) (hn : ∀ b o, s.a = some ⟨b, o, none⟩ → b < S.next → ¬ F b) : SlOf f sz S' s l :=
  ⟨hs.len, fun hl => let ⟨b, o, cs, more, ro, fz, h1, h2, h3⟩ := hs.mem hl; ⟨b, o, cs, more, ro, fz, h1, h.at h2 (hn b o h1 h2.lt), h3⟩⟩
theorem Ext.slOf {α : Type} {f : α → List Value} {sz : Nat} {S S' : St} {s : Sl} {l : List α} (h : Ext S S') (hs : SlOf f sz S s l) : SlOf f sz S' s l := Mod.slOf h hs fun _ _ _ _ h => h
theorem Mod.gr {α : Type} {f : α → List Value} {sz N : Nat} {F : Nat → Prop} {S S' : St} {s : Sl} {l : List α} (h : Mod F S S') (hs : Gr f sz N S s l) (hn : ∀ b, N ≤ b → b < S.next → ¬ F b) : Gr f sz N S' s l := by
  rcases hs with hs | ⟨b, h1, h2, h3⟩
  · exact .inl hs
  · exact .inr ⟨b, h1, h2, h.at h3 (hn b h1 h3.lt)⟩
theorem Ext.gr {α : Type} {f : α → List Value} {sz N : Nat} {S S' : St} {s : Sl} {l : List α} (h : Ext S S') (hs : Gr f sz N S s l) : Gr f sz N S' s l := Mod.gr h hs fun _ _ _ h => h
theorem Gr.down {α : Type} {f : α → List Value} {sz N N' : Nat} {S : St} {s : Sl} {l : List α} (hs : Gr f sz N S s l) (h : N' ≤ N) : Gr f sz N' S s l := by
  rcases hs with hs | ⟨b, h1, h2, h3⟩
  · exact .inl hs
  · exact .inr ⟨b, Nat.le_trans h h1, h2, h3⟩
theorem Gr.nil {α : Type} {f : α → List Value} {sz N : Nat} {S : St} : Gr f sz N S ⟨none, 0, 0⟩ [] := .inl ⟨rfl, rfl⟩

/-- Where an element stands. -/
theorem SlOf.idx {α : Type} {f : α → List Value} {sz : Nat} {S : St} {s : Sl} {l : List α} (hf : ∀ x, (f x).length = sz) (h : SlOf f sz S s l) {i : Int} (h0 : 0 ≤ i) (h1 : i < (l.length : Int)) {k : Nat → Nat → Prop}
    (hk : ∀ b o cs more ro fz, At S b (.cells cs more ro fz) → s.a = some ⟨b, o, none⟩ → (cs.drop (o + i.toNat * sz)).take sz = f (l[i.toNat]'(by omega)) → k b o) : idxW s.a s.len i k := by
  have hl : l ≠ [] := by rintro rfl; simp at h1; omega
  obtain ⟨b, o, cs, more, ro, fz, e1, e2, e3⟩ := h.mem hl
  refine ⟨b, o, e1, h0, by rw [h.len]; exact h1, hk b o cs more ro fz e2 e1 ?_⟩
  have hi : i.toNat < l.length := by omega
  rw [← flat_at hf hi, ← e3, List.drop_take, List.drop_drop, List.take_take]
  congr 1
  have : i.toNat * sz + sz ≤ l.length * sz := by rw [← Nat.succ_mul]; exact Nat.mul_le_mul_right _ hi
  omega
theorem at_of_take {cs : List Value} {o : Nat} {v : Value} (h : (cs.drop o).take 1 = [v]) : cs[o]? = some v := by
  rw [← List.head?_drop]
  cases hd : cs.drop o with
  | nil => rw [hd] at h; cases h
  | cons x r => rw [hd] at h; simp at h; simp [h]
/-- An element of one cell is read. -/
theorem SlOf.get1 {α : Type} {g : α → Value} {E : Env} {S : St} {s : Sl} {l : List α} (h : SlOf (fun x => [g x]) 1 S s l) {t : Nat} {d : DInfo} (hd : E.inf t = some d) (ha : aggD d.und = false) {i : Int} (h0 : 0 ≤ i) (h1 : i < (l.length : Int)) {k : Nat → Nat → Prop}
    (hk : ∀ b o, (∀ S', S'.heap.get b = S.heap.get b → loadV E S' t (.pointer (some ⟨b, o + i.toNat * 1, none⟩)) = some (g (l[i.toNat]'(by omega)))) → b < S.next → k b o) : idxW s.a s.len i k := by
  refine h.idx (sz := 1) (f := fun x => [g x]) (fun _ => rfl) h0 h1 fun b o cs more ro fz e _ e2 => hk b o (fun S' hS' => ?_) e.lt
  exact loadV_one (hS'.trans e.get) hd ha (at_of_take e2)

theorem SlOf.get1n {α : Type} {g : α → Value} {E : Env} {S : St} {s : Sl} {l : List α} (h : SlOf (fun x => [g x]) 1 S s l) {t : Nat} {d : DInfo} (hd : E.inf t = some d) (ha : aggD d.und = false) {n : Nat} (hn : n < l.length) {k : Nat → Nat → Prop}
    (hk : ∀ b o, (∀ S', S'.heap.get b = S.heap.get b → loadV E S' t (.pointer (some ⟨b, o + (n : Int).toNat * 1, none⟩)) = some (g l[n])) → b < S.next → k b o) : idxW s.a s.len (n : Int) k :=
  h.get1 hd ha (by omega) (by omega) hk
theorem tOk_of {E : Env} {e sz : Nat} {xd : TypeDesc} (h : (apK xd && tagOk E e sz) = true) : apK xd = true ∧ Nat.blt sz TB = true ∧ Nat.blt e TB = true ∧ tagA E e sz = sz := by
  unfold tagOk at h
  simp only [Bool.and_eq_true] at h
  exact ⟨h.1, h.2.1.1, h.2.1.2, Nat.eq_of_beq_eq_true h.2.2⟩
/-- Elements are appended to a slice that is one's own. -/
theorem Gr.append {α : Type} {f : α → List Value} {sz N : Nat} {E : Env} {S : St} {s : Sl} {l : List α} (hf : ∀ x, (f x).length = sz) (hsz : 0 < sz) (h : Gr f sz N S s l) {st xt e : Nat} {d : DInfo} {xd : TypeDesc} {z : Value} (hst : E.und st = some (.slice e)) (he : E.inf e = some d) (hxt : E.und xt = some xd) (hxd : (apK xd && tagOk E e sz) = true)
    (hds : d.size = sz) (hz : d.zero = some z) (hzl : (cellsOf z).length = sz) {x : Value} {vs : List α} (hn : lenOfD x = some vs.length) (hx : firstD S sz vs.length x = some (vs.flatMap f)) (hone : (vs.flatMap f).all St.one = true)
    (hb : (l.length + vs.length) * d.bytes ≤ 17592186044416) (hb2 : l.length + vs.length ≤ 17592186044416) (hvs : vs ≠ [])
    {k : Sl → St → Prop} (hk : ∀ s' S', Gr f sz N S' s' (l ++ vs) → Mod (fun b => N ≤ b ∧ s.a = some ⟨b, 0, none⟩) S S' → S'.next = S.next + 1 → k s' S') (hN : N ≤ S.next) :
    evP tS (appendD E S st xt (.slice s.a s.len s.cap) x) k := by
  have hv0 : ¬ vs.length = 0 := fun hh => hvs (List.length_eq_zero_iff.1 hh)
  have tOk := tOk_of hxd
  have hbz : Nat.beq vs.length 0 = false := Bool.eq_false_iff.2 fun hh => hv0 (Nat.eq_of_beq_eq_true hh)
  have hfl : (vs.flatMap f).length = vs.length * sz := flat_len hf vs
  have g1 : Nat.beq (cellsOf z).length sz = true := by rw [hzl, Nat.beq_refl]
  have g2 : Nat.blt 0 sz = true := by simpa [Nat.blt] using Nat.ble_eq_true_of_le hsz
  have g3 : Nat.beq (vs.flatMap f).length (vs.length * sz) = true := by rw [hfl, Nat.beq_refl]
  rcases h with ⟨rfl, rfl⟩ | ⟨b, hbN, rfl, hat⟩
  · have g4 : Nat.ble ((0 + vs.length) * d.bytes) 17592186044416 = true := Nat.ble_eq_true_of_le (by simpa using hb)
    have g5 : Nat.ble (0 + vs.length) 17592186044416 = true := Nat.ble_eq_true_of_le (by simpa using hb2)
    refine ⟨⟨some ⟨S.next, 0, none⟩, vs.length, inex⟩, (S.alloc (.cells (vs.flatMap f) (some sz) false none)).2, ?_, hk _ _ (.inr ⟨S.next, hN, ?_, ?_⟩) (alloc_ext.mono fun _ h _ => h.elim) rfl⟩
    · simp only [appendD, hst, he, hxt, tOk.1, tOk.2.1, tOk.2.2.1, tOk.2.2.2, Bool.true_or, Bool.true_and, cond_true, hz, Option.bind_some, hn, hds, hx, g1, g2, g3, g4, g5, Bool.and_true, hbz, cond_false, TT.enc, Ty.enc, Sc.enc]
    · simp
    · simpa using alloc_at
  · have g4 : Nat.ble ((l.length + vs.length) * d.bytes) 17592186044416 = true := Nat.ble_eq_true_of_le hb
    have g5 : Nat.ble (l.length + vs.length) 17592186044416 = true := Nat.ble_eq_true_of_le hb2
    have g6 : Nat.ble (0 + (l.length + vs.length) * sz) (l.flatMap f).length = false := by
      rw [flat_len hf, Bool.eq_false_iff]
      intro hh
      have := Nat.le_of_ble_eq_true hh
      have h2 : 0 < vs.length * sz := Nat.mul_pos (Nat.pos_of_ne_zero hv0) hsz
      rw [Nat.add_mul] at this
      omega
    have g7 : Nat.ble (0 + l.length * sz) (l.flatMap f).length = true := Nat.ble_eq_true_of_le (by rw [flat_len hf]; omega)
    have g8 : ((l.flatMap f).drop 0).take (l.length * sz) = l.flatMap f := by rw [List.drop_zero, List.take_of_length_le]; rw [flat_len hf]; exact Nat.le_refl _
    have hm : Mod (fun c => N ≤ c ∧ (some (⟨b, 0, none⟩ : Addr)) = some ⟨c, 0, none⟩) S ((S.upd b .dead).alloc (.cells (l.flatMap f ++ vs.flatMap f) (some sz) false none)).2 :=
      (upd_mod.mono fun c hc _ => by subst hc; exact ⟨hbN, rfl⟩).ext alloc_ext fun _ h => h.elim
    refine ⟨⟨some ⟨S.next, 0, none⟩, l.length + vs.length, inex⟩, ((S.upd b .dead).alloc (.cells (l.flatMap f ++ vs.flatMap f) (some sz) false none)).2, ?_, hk _ _ (.inr ⟨S.next, hN, ?_, ?_⟩) hm rfl⟩
    · simp only [appendD, hst, he, hxt, tOk.1, tOk.2.1, tOk.2.2.1, tOk.2.2.2, Bool.true_or, Bool.true_and, cond_true, hz, Option.bind_some, hn, hds, hx, g1, g2, g3, g4, g5, Bool.and_true, hbz, cond_false, TT.enc, Ty.enc, Sc.enc, Nat.beq_refl, hat.get, g6, g7, Bool.not_false, hone, St.fzOk, g8, Option.map_none]
    · simp
    · rw [List.flatMap_append]; exact alloc_at

/-- One element is appended. -/
theorem Gr.append1 {α : Type} {f : α → List Value} {sz N : Nat} {E : Env} {S : St} {s : Sl} {l : List α} (hf : ∀ x, (f x).length = sz) (hsz : 0 < sz) (h : Gr f sz N S s l) {st xt e : Nat} {d : DInfo} {xd : TypeDesc} {z : Value} (hst : E.und st = some (.slice e)) (he : E.inf e = some d) (hxt : E.und xt = some xd) (hxd : (apK xd && tagOk E e sz) = true)
    (hds : d.size = sz) (hz : d.zero = some z) (hzl : (cellsOf z).length = sz) {b : Nat} {v : α} (hat : At S b (.cells (f v) none false none)) (hone : (f v).all St.one = true)
    (hb : (l.length + 1) * d.bytes ≤ 17592186044416) (hb2 : l.length + 1 ≤ 17592186044416)
    {k : Sl → St → Prop} (hk : ∀ s' S', Gr f sz N S' s' (l ++ [v]) → Mod (fun b => N ≤ b ∧ s.a = some ⟨b, 0, none⟩) S S' → S'.next = S.next + 1 → k s' S') (hN : N ≤ S.next) :
    evP tS (appendD E S st xt (.slice s.a s.len s.cap) (.slice (some ⟨b, 0, none⟩) 1 1)) k := by
  have g : Nat.beq (1 * sz) 0 = false := Bool.eq_false_iff.2 fun hh => by have := Nat.eq_of_beq_eq_true hh; omega
  refine h.append hf hsz hst he hxt hxd hds hz hzl (vs := [v]) rfl ?_ (by simpa using hone) hb hb2 (by simp) hk hN
  have e : ((f v).drop 0).take (1 * sz) = f v := by rw [List.drop_zero, List.take_of_length_le]; rw [hf]; omega
  have e2 : Nat.beq (f v).length (1 * sz) = true := by rw [hf, Nat.one_mul, Nat.beq_refl]
  simp only [firstD, List.length_singleton, g, cond_false, St.loadN, hat.get, e, e2, cond_true, List.flatMap_cons, List.flatMap_nil, List.append_nil]

/-! ### Parts of slices -/
theorem natOf_int {k : IntKind} {n : Nat} : natOf (.int k (n : Int)) = some n := by
  simp only [natOf, show decide ((0 : Int) ≤ (n : Int)) = true by simp, cond_true, Int.toNat_natCast]
/-- s[lo:hi:mx] of a slice whose capacity is known. -/
theorem sliceD_some {E : Env} {S : St} {t e sz : Nat} {a : Option Addr} {b o len cap lo hi mx : Nat} (ht : E.und t = some (.slice e)) (he : E.size e = some sz) (ha : a = some ⟨b, o, none⟩) (hc : cap < inex) {vl vh vm : Option Value}
    (hl : optNat (some 0) vl = some lo) (hm : optNat (some cap) vm = some mx) (hh : optNat (cond vm.isNone (some len) none) vh = some hi) (h1 : lo ≤ hi) (h2 : hi ≤ mx) (h3 : mx ≤ cap) :
    sliceD E S t (.slice a len cap) vl vh vm = some (.slice (some ⟨b, cond (Nat.beq mx lo) o (o + lo * sz), none⟩) (hi - lo) (mx - lo)) := by
  subst ha
  have hk : kcapD S sz (some ⟨b, o, none⟩) len cap = cap := by
    unfold kcapD
    rw [PM.beq_f (Nat.ne_of_lt hc)]; rfl
  have hx : mx < inex := Nat.lt_of_le_of_lt h3 hc
  simp only [sliceD, ht, he, Option.bind_some, hk, hm, hh, hl, Nat.ble_eq_true_of_le h3, Nat.ble_eq_true_of_le h2, Nat.ble_eq_true_of_le h1, Nat.blt_eq.mpr hx, Bool.and_true, Bool.true_and, cond_true, PM.beq_f (Nat.ne_of_lt hc), Bool.false_and, cond_false]
theorem SlOf.part {α : Type} {f : α → List Value} {sz : Nat} (hf : ∀ x, (f x).length = sz) {S : St} {s : Sl} {l : List α} (h : SlOf f sz S s l) {b o lo hi c o' : Nat} (ha : s.a = some ⟨b, o, none⟩) (h1 : lo ≤ hi) (h2 : hi ≤ l.length) (ho : hi ≠ lo → o' = o + lo * sz) : SlOf f sz S ⟨some ⟨b, o', none⟩, hi - lo, c⟩ ((l.drop lo).take (hi - lo)) := by
  refine ⟨by simp; omega, fun hn => ?_⟩
  have hne : hi ≠ lo := by rintro rfl; simp at hn
  have hl : l ≠ [] := by rintro rfl; simp at hn
  obtain ⟨b', o1, cs, more, ro, fz, e1, e2, e3⟩ := h.mem hl
  rw [ha] at e1
  cases e1
  refine ⟨b, o', cs, more, ro, fz, rfl, e2, ?_⟩
  have hlen : ((l.drop lo).take (hi - lo)).length = hi - lo := by simp; omega
  rw [hlen, ho hne]
  have key : ((l.flatMap f).drop (lo * sz)).take ((hi - lo) * sz) = ((l.drop lo).take (hi - lo)).flatMap f := by
    rw [flat_drop hf]
    have : ((l.drop lo).take (hi - lo)).flatMap f ++ ((l.drop lo).drop (hi - lo)).flatMap f = (l.drop lo).flatMap f := by rw [← List.flatMap_append, List.take_append_drop]
    rw [← this, List.take_append_of_le_length (by rw [flat_len hf, hlen]; exact Nat.le_refl _), List.take_of_length_le (by rw [flat_len hf, hlen]; exact Nat.le_refl _)]
  rw [← key, ← e3, List.drop_take, List.drop_drop, List.take_take]
  congr 1
  have : hi * sz ≤ l.length * sz := Nat.mul_le_mul_right _ h2
  have e : (hi - lo) * sz + lo * sz = hi * sz := by rw [← Nat.add_mul]; congr 1; omega
  omega

/-! ### Numbers -/
theorem wrap_i64 {n : Int} (h1 : -9223372036854775808 ≤ n) (h2 : n < 9223372036854775808) : wrapI .i64 n = n := by
  simp only [wrapI_eq, wrapD, inRange, h1, h2, decide_true, Bool.and_true, cond_true]
theorem wrap_u64 {n : Int} (h1 : 0 ≤ n) (h2 : n < 18446744073709551616) : wrapI .u64 n = n := by
  simp only [wrapI_eq, wrapD, inRange, h1, h2, decide_true, Bool.and_true, cond_true]
theorem wrap_u8 {n : Int} (h1 : 0 ≤ n) (h2 : n < 256) : wrapI .u8 n = n := by
  simp only [wrapI_eq, wrapD, inRange, h1, h2, decide_true, Bool.and_true, cond_true]
theorem wrap_u32 {n : Int} (h1 : 0 ≤ n) (h2 : n < 4294967296) : wrapI .u32 n = n := by
  simp only [wrapI_eq, wrapD, inRange, h1, h2, decide_true, Bool.and_true, cond_true]
theorem wrap_succ {n : Nat} (h : n < 9223372036854775807) : wrapI .i64 ((n : Int) + 1) = ((n + 1 : Nat) : Int) := by
  rw [wrap_i64 (by omega) (by omega)]; omega

end
end Go.Proofs.Ytcdignblakejoaa.D

/-
  D, part 28: a law's arguments: memory as it lies, as blocks that are never written; what was read of them, as lists.
-/
namespace Go.Proofs.Ytcdignblakejoaa.D
noncomputable section
open Go.RowKit
set_option linter.unusedVariables false
set_option linter.unusedSimpArgs false

def junkV : Value := .complex .f32 0 0
def okA (n : Nat) (a : Addr) : Bool := a.spot.isNone && Nat.blt a.block n
/-- A value of the world's, as D has it. -/
def nv (n : Nat) : Value → Value
  | .bool b => .bool b
  | .int k i => .int k i
  | .string s => .string s
  | .pointer none => .pointer none
  | .pointer (some a) => cond (okA n a) (.pointer (some a)) junkV
  | .slice none l c => cond (Nat.beq l 0 && Nat.beq c 0) (.slice none 0 0) junkV
  | .slice (some a) l c => cond (Nat.beq l 0 && Nat.beq c 0) (.slice (some ⟨0, 0, none⟩) 0 0) (cond (okA n a && (Nat.ble l c && Nat.blt c inex)) (.slice (some a) l c) junkV)
  | .map none => .map none
  | .nilFunc => .nilFunc
  | .nilIface => .nilIface
  | .iface t v => .iface t (nv n v)
  | .agg a => .agg (a.map (nv n))
  | .tuple a => .tuple (a.map (nv n))
  | _ => junkV
termination_by v => SizeOf.sizeOf v

section
variable {m : Mp} {n : Nat} (hm : ∀ b, b < n → ∃ x, m b = some x ∧ x.blk = b ∧ x.base = 0)
include hm
theorem okA_ptr {a : Addr} (h : okA n a = true) : ∃ x : BM, m a.block = some x ∧ a = ⟨x.blk, x.base + a.off, none⟩ ∧ a = ⟨a.block, a.off, none⟩ := by
  simp only [okA, Bool.and_eq_true, Option.isNone_iff_eq_none, Nat.blt_eq] at h
  obtain ⟨x, h1, h2, h3⟩ := hm a.block h.2
  refine ⟨x, h1, ?_, ?_⟩ <;> (obtain ⟨b, o, s⟩ := a; simp at h ⊢; simp [h.1, h2, h3])
theorem nv_vr : ∀ (v : Value), VR m (nv n v) v
  | .bool b => by unfold nv; exact .bool b
  | .int k i => by unfold nv; exact .int k i
  | .string s => by unfold nv; exact .string s
  | .pointer none => by unfold nv; exact .nilp
  | .pointer (some a) => by
    unfold nv
    cases h : okA n a with
    | false => exact .junk _ (by simp) (by simp) (by simp)
    | true =>
      obtain ⟨x, h1, h2, h3⟩ := okA_ptr hm h
      have := VR.ptr a.block a.off x h1
      rw [← h2, ← h3] at this
      exact this
  | .slice none l c => by
    unfold nv
    cases h : (Nat.beq l 0 && Nat.beq c 0) with
    | false => exact .junk _ (by simp) (by simp) (by simp)
    | true =>
      rw [Bool.and_eq_true] at h
      rw [Nat.eq_of_beq_eq_true h.1, Nat.eq_of_beq_eq_true h.2]
      exact .nils
  | .slice (some a) l c => by
    unfold nv
    cases h : (Nat.beq l 0 && Nat.beq c 0) with
    | true =>
      rw [Bool.and_eq_true] at h
      rw [Nat.eq_of_beq_eq_true h.1, Nat.eq_of_beq_eq_true h.2]
      exact .slz 0 0 a
    | false =>
      cases h2 : (okA n a && (Nat.ble l c && Nat.blt c inex)) with
      | false => exact .junk _ (by simp) (by simp) (by simp)
      | true =>
        simp only [Bool.and_eq_true] at h2
        obtain ⟨x, h3, h4, h5⟩ := okA_ptr hm h2.1
        have hc : c < inex := Nat.blt_eq.mp h2.2.2
        have := VR.sl a.block a.off l c x h3 (Nat.ne_of_lt hc) (Nat.le_of_ble_eq_true h2.2.1)
        rw [← h4, ← h5] at this
        exact this
  | .map none => by unfold nv; exact .nilm
  | .map (some r) => by unfold nv; exact .junk _ (by simp) (by simp) (by simp)
  | .nilFunc => by unfold nv; exact .nilf
  | .nilIface => by unfold nv; exact .nili
  | .agg a => by
    unfold nv
    refine .agg _ _ (by simp) fun i v v' h1 h2 => ?_
    rw [Array.getElem?_map, h2] at h1
    cases h1
    have := Array.sizeOf_lt_of_mem (Array.mem_of_getElem? h2)
    exact nv_vr v'
  | .tuple a => by
    unfold nv
    refine .tup _ _ (by simp) fun i v v' h1 h2 => ?_
    rw [Array.getElem?_map, h2] at h1
    cases h1
    have := Array.sizeOf_lt_of_mem (Array.mem_of_getElem? h2)
    exact nv_vr v'
  | .float k b => by unfold nv; exact .junk _ (by simp) (by simp) (by simp)
  | .complex k r i => by unfold nv; exact .junk _ (by simp) (by simp) (by simp)
  | .chan r => by unfold nv; exact .junk _ (by simp) (by simp) (by simp)
  | .func f a b => by unfold nv; exact .junk _ (by simp) (by simp) (by simp)
  | .iface t v => by unfold nv; exact .iface t _ _ (nv_vr v)
termination_by v => SizeOf.sizeOf v
theorem nv_vrs : ∀ (l : List Value), VRs m (l.map (nv n)) l
  | [] => .nil
  | v :: l => .cons (nv_vr hm v) (nv_vrs l)
end

/-! ### Memory as it lies -/
def argO (n : Nat) : Obj → DObj
  | .cells c _ _ => .cells (c.toList.map (nv n)) none true (some (0, c.size))
  | _ => .dead
def argN (E : Env) (W : World) : Nat := max W.heap.size E.globs
def argS (E : Env) (W : World) : St := ⟨PM.ofList (W.heap.toList.map (argO (argN E W))) 0 .leaf, argN E W, argN E W⟩
def argM (E : Env) (W : World) : Mp := fun b => if b < argN E W then some ⟨b, 0, (match W.heap[b]? with | some (.cells c _ _) => c.size | _ => 0), 0⟩ else none
theorem argM_ok (E : Env) (W : World) (b : Nat) (h : b < argN E W) : ∃ x, argM E W b = some x ∧ x.blk = b ∧ x.base = 0 := ⟨_, by unfold argM; rw [if_pos h], rfl, rfl⟩
theorem argS_get (E : Env) (W : World) (b : Nat) : (argS E W).heap.get b = (W.heap[b]?).map (argO (argN E W)) := by
  simp only [argS, PM.get_ofList, Nat.zero_le, true_and, Nat.zero_add, List.length_map, Array.length_toList, Nat.sub_zero, List.getElem?_map, Array.getElem?_toList, PM.get_leaf]
  split
  · rfl
  · rename_i h
    rw [Array.getElem?_eq_none (by omega)]; rfl
theorem argO_wr {n : Nat} {o : Obj} : (argO n o).wr = false := by unfold argO; split <;> rfl
theorem argHR (E : Env) (W : World) : HR E (argM E W) (argS E W) W where
  dom := by
    intro b x h
    unfold argM at h
    split at h
    · assumption
    · cases h
  glob := by
    intro g hg
    obtain ⟨x, h1, h2, h3⟩ := argM_ok E W g (by unfold argN; omega)
    exact ⟨x, h1, h2, h3⟩
  obj := by
    intro b o x0 h hl hmx
    rw [argS_get] at h
    cases hw : W.heap[b]? with
    | none => rw [hw] at h; cases h
    | some ob =>
      rw [hw] at h
      cases h
      have hb : b < W.heap.size := (Array.getElem?_eq_some_iff.1 hw).1
      have hbn : b < argN E W := by unfold argN; omega
      unfold argM at hmx
      rw [if_pos hbn] at hmx
      cases hmx
      cases ob with
      | cells c e fr =>
        refine ⟨c, e, fr, hw, by rw [hw], ?_, ?_, ?_, by simp⟩
        · rw [hw]; simp
        · simp only [argO, List.length_map, List.drop_zero]
          rw [List.take_of_length_le (by simp)]
          exact nv_vrs (argM_ok E W) _
        · intro i _ _ _ hi
          rw [hw] at hi
          have hi : i < c.size := hi
          constructor
          · omega
          · show i - 0 < c.size
            omega
      | _ => simp [argO, DObj.live] at hl
  inj := by
    intro b b' o o' x x' h h' _ _ _ hw
    rw [argS_get] at h h'
    rw [Option.map_eq_some_iff] at h h'
    obtain ⟨_, _, rfl⟩ := h
    obtain ⟨_, _, rfl⟩ := h'
    simp [argO_wr] at hw
theorem arg_noOwn (E : Env) (W : World) (c : Nat) : ¬ Own (argM E W) (argS E W) c := by
  rintro ⟨b, o, x, h, hw, _⟩
  rw [argS_get, Option.map_eq_some_iff] at h
  obtain ⟨_, _, rfl⟩ := h
  rw [argO_wr] at hw; cases hw
/-- A law of arguments: D's condition holds of them. -/
theorem calls_args {E : Env} {P : Program} (hE : E.Ok P) (hm : P.follows .mixedOrders = true) (hprim : PrimOk E P) (hplw : PrimLw E) {f : Nat} {args : Array Value} {W : World}
    (h : WC E f (args.toList.map (nv (argN E W))) (argS E W) fun v _ => v = .bool true) (hf : E.prim f = none := by rfl) : Calls P f args W fun e w' => e = .returned (.bool true) ∧ Below W.heap.size W w' := by
  obtain ⟨k, v, S', h1, rfl⟩ := h
  exact calls_true hE hm hprim hplw h1 (argHR E W) (nv_vrs (argM_ok E W) _) (fun c _ => arg_noOwn E W c) hf

/-! ### What was read, as lists -/
theorem mapM_range {α : Type} {f : Nat → Option α} : ∀ {n : Nat} {r : List α}, (List.range n).mapM f = some r → r.length = n ∧ ∀ i (h : i < r.length), f i = some r[i] := by
  have key : ∀ (l : List Nat) (r : List α), l.mapM f = some r → r.length = l.length ∧ ∀ i (h : i < r.length) (h' : i < l.length), f l[i] = some r[i] := by
    intro l
    induction l with
    | nil => intro r h; simp at h; subst h; simp
    | cons x l ih =>
      intro r h
      rw [List.mapM_cons] at h
      cases hx : f x with
      | none => rw [hx] at h; cases h
      | some y =>
        rw [hx] at h
        cases hl : l.mapM f with
        | none => rw [hl] at h; cases h
        | some ys =>
          rw [hl] at h
          cases h
          obtain ⟨h1, h2⟩ := ih ys hl
          refine ⟨by simp [h1], fun i h h' => ?_⟩
          cases i with
          | zero => simpa using hx
          | succ i => simpa using h2 i (by simpa using h) (by simpa using h')
  intro n r h
  obtain ⟨h1, h2⟩ := key _ _ h
  refine ⟨by simpa using h1, fun i hi => ?_⟩
  have := h2 i hi (by rw [← h1]; exact hi)
  simpa using this
theorem cell_some {W : World} {a : Addr} {v : Value} (h : W.cell? a = some v) : ∃ c e fr, W.heap[a.block]? = some (.cells c e fr) ∧ a.spot = none ∧ c[a.off]? = some v := by
  unfold World.cell? at h
  split at h
  · rename_i c e fr hc
    split at h
    · cases h
    · rename_i hs
      exact ⟨c, e, fr, hc, by simpa using hs, h⟩
  · cases h
theorem add_off {a : Addr} (h : a.spot = none) (n : Nat) : a.add n = ⟨a.block, a.off + n, none⟩ := by
  unfold Addr.add
  obtain ⟨b, o, s⟩ := a
  simp at h
  subst h
  split
  · rename_i hn; subst hn; rfl
  · rfl
/-- Cells that are read, as D has them. -/
theorem cells_at {E : Env} {W : World} {base : Nat} {a : Addr} {n : Nat} {cs : List Value} (h : W.cells? base a n = some cs) (hn : 0 < n) :
    a.spot = none ∧ ∃ c e fr, W.heap[a.block]? = some (.cells c e fr) ∧ At (argS E W) a.block (.cells (c.toList.map (nv (argN E W))) none true (some (0, c.size))) ∧
      ((c.toList.map (nv (argN E W))).drop a.off).take n = cs.map (nv (argN E W)) ∧ cs.length = n := by
  unfold World.cells? at h
  split at h
  · obtain ⟨h1, h2⟩ := mapM_range h
    have h0 := h2 0 (by omega)
    obtain ⟨c, e, fr, hc, hs, _⟩ := cell_some h0
    have hs0 : a.spot = none := by simpa [Addr.add] using hs
    rw [add_off hs0] at hc
    have hc : W.heap[a.block]? = some (.cells c e fr) := hc
    refine ⟨hs0, c, e, fr, hc, ⟨?_, ?_⟩, ?_, h1⟩
    · rw [argS_get, hc]; rfl
    · have := (Array.getElem?_eq_some_iff.1 hc).1
      show a.block < argN E W
      unfold argN
      omega
    · rw [← List.map_drop, ← List.map_take]
      congr 1
      apply List.ext_getElem?
      intro i
      rw [List.getElem?_take, List.getElem?_drop, Array.getElem?_toList]
      split
      · rename_i hi
        have := h2 i (by omega)
        rw [add_off hs0] at this
        obtain ⟨c', e', fr', hc', _, hv⟩ := cell_some this
        rw [hc] at hc'
        cases hc'
        rw [hv, List.getElem?_eq_getElem (by omega)]
      · rename_i hi
        rw [List.getElem?_eq_none (by omega)]
  · cases h
theorem take_flat {α : Type} {f : α → List Value} {sz : Nat} {cs : List Value} : ∀ {l : List α} {o : Nat}, (∀ i (h : i < l.length), (cs.drop (o + i * sz)).take sz = f l[i]) → (∀ x, (f x).length = sz) → (cs.drop o).take (l.length * sz) = l.flatMap f := by
  intro l
  induction l with
  | nil => intro o _ _; simp
  | cons x l ih =>
    intro o h hf
    have h0 := h 0 (by simp)
    simp only [Nat.zero_mul, Nat.add_zero, List.getElem_cons_zero] at h0
    have ih := ih (o := o + sz) (fun i hi => by
      have := h (i + 1) (by simpa using hi)
      simp only [List.getElem_cons_succ] at this
      rw [← this]
      congr 2
      rw [Nat.succ_mul]; omega) hf
    rw [List.flatMap_cons, ← ih, ← h0, List.length_cons, Nat.succ_mul, Nat.add_comm, List.take_add, List.drop_drop]
theorem list_of {α : Type} {p : Nat → α → Prop} : ∀ {n : Nat}, (∀ i, i < n → ∃ x, p i x) → ∃ l : List α, l.length = n ∧ ∀ i (h : i < l.length), p i l[i] := by
  intro n
  induction n with
  | zero => intro _; exact ⟨[], rfl, by simp⟩
  | succ n ih =>
    intro h
    obtain ⟨l, h1, h2⟩ := ih fun i hi => h i (by omega)
    obtain ⟨x, hx⟩ := h n (by omega)
    refine ⟨l ++ [x], by simp [h1], fun i hi => ?_⟩
    rw [List.getElem_append]
    split
    · exact h2 _ _
    · rename_i hn
      have : i = n := by simp at hi; omega
      subst this
      simpa [h1] using hx
section
variable {H : Type} {enc : TypeId × Value → H} {P : Program} {W : World} {base : Nat} {spare : Nat → Bool} {held : Bool} {E : Env}
/-- A slice that was read. -/
theorem trod_sl {α : Type} {f : α → List Value} {sz : Nat} {Wf : α → Prop} (hf : ∀ x, (f x).length = sz) (hsz : 0 < sz) {t e : TypeId} (hu : P.underlying t = some (.slice e)) (hce : P.cellsOf e = sz)
    (hel : ∀ fuel cs r, DataW.trod enc P W base spare held fuel e cs = some r → cs.length = sz → ∃ x, Wf x ∧ cs.map (nv (argN E W)) = f x) (hsp : ∀ b, spare b = true)
    {fuel : Nat} {v : Value} {d : DataW H} {ps : List MemPlace} (h : DataW.trod enc P W base spare held fuel t [v] = some (d, ps)) :
    ∃ s l, nv (argN E W) v = .slice s.a s.len s.cap ∧ SlOf f sz (argS E W) s l ∧ (∀ x ∈ l, Wf x) ∧ s.len ≤ s.cap ∧ s.cap < inex := by
  cases fuel with
  | zero => cases h
  | succ fuel =>
    unfold DataW.trod at h
    rw [hu] at h
    split at h <;> first | (cases (‹some (TypeDesc.slice e) = some _›); done) | (cases h; done) | skip
    · rename_i he hv
      cases hv
      exact ⟨⟨none, 0, 0⟩, [], by unfold nv; rfl, ⟨rfl, fun h => (h rfl).elim⟩, by simp, Nat.le_refl _, by decide⟩
    · rename_i e' a len cap he hv
      cases he
      cases hv
      split at h
      · rename_i hc
        obtain ⟨hc1, hc2, hc3⟩ := hc
        rw [hce] at h
        rw [Option.bind_eq_some_iff] at h
        obtain ⟨elems, h1, h⟩ := h
        rw [Option.map_eq_some_iff] at h
        obtain ⟨rest, h2, _⟩ := h
        rw [hsp, if_pos rfl] at h2
        obtain ⟨g1, g2⟩ := mapM_range h1
        obtain ⟨g3, g4⟩ := mapM_range h2
        have hcap : cap < inex := by
          have : cap ≤ 2 ^ 63 - 1 := hc3
          unfold inex
          omega
        by_cases h0 : cap = 0
        · subst h0
          have : len = 0 := by omega
          subst this
          exact ⟨⟨some ⟨0, 0, none⟩, 0, 0⟩, [], by unfold nv; rfl, ⟨rfl, fun h => (h rfl).elim⟩, by simp, Nat.le_refl _, by decide⟩
        · -- the first cell is read: the address is one
          have hat : ∀ i, i < cap → ∃ cs r, W.cells? base (a.add (i * sz)) sz = some cs ∧ DataW.trod enc P W base spare held fuel e cs = some r := by
            intro i hi
            by_cases hl : i < len
            · have := g2 i (by omega)
              rw [Option.bind_eq_some_iff] at this
              obtain ⟨cs, h5, h6⟩ := this
              exact ⟨cs, _, h5, h6⟩
            · have := g4 (i - len) (by omega)
              rw [Option.bind_eq_some_iff, show len + (i - len) = i by omega] at this
              obtain ⟨cs, h5, h6⟩ := this
              exact ⟨cs, _, h5, h6⟩
          obtain ⟨cs0, r0, h5, h6⟩ := hat 0 (by omega)
          obtain ⟨hs0, c, et, fr, hw, hA, _, _⟩ := cells_at (E := E) h5 hsz
          simp only [Nat.zero_mul, show a.add 0 = a by simp [Addr.add]] at hs0 hw hA
          obtain ⟨l, hl1, hl2⟩ := list_of (p := fun i x => Wf x ∧ ((c.toList.map (nv (argN E W))).drop (a.off + i * sz)).take sz = f x) (n := len) (fun i hi => by
            obtain ⟨cs, r, h7, h8⟩ := hat i (by omega)
            obtain ⟨_, c', et', fr', hw', hA', ht, hlen⟩ := cells_at (E := E) h7 hsz
            rw [add_off hs0] at hw' ht
            rw [hw] at hw'
            cases hw'
            obtain ⟨x, hx1, hx2⟩ := hel fuel cs r h8 hlen
            exact ⟨x, hx1, by rw [← hx2]; exact ht⟩)
          have hok : okA (argN E W) a = true := by
            have := hA.lt
            simp only [okA, hs0, Option.isNone_none, Bool.true_and]
            exact Nat.blt_eq.mpr this
          have ha : a = ⟨a.block, a.off, none⟩ := by
            obtain ⟨b, o, s⟩ := a
            simp at hs0
            rw [hs0]
          refine ⟨⟨some a, len, cap⟩, l, ?_, ⟨hl1.symm, fun _ => ⟨a.block, a.off, _, _, _, _, congrArg some ha, hA, take_flat (fun i hi => (hl2 i hi).2) hf⟩⟩, ?_, hc2, hcap⟩
          · unfold nv
            have e1 : (Nat.beq len 0 && Nat.beq cap 0) = false := by
              rw [Bool.and_eq_false_iff]
              exact .inr (PM.beq_f h0)
            rw [e1, hok, Nat.ble_eq_true_of_le hc2, Nat.blt_eq.mpr hcap]
            rfl
          · intro x hx
            obtain ⟨i, hi, rfl⟩ := List.getElem_of_mem hx
            exact (hl2 i hi).1
      · cases h
/-- A number that was read. -/
theorem trod_int {t : TypeId} {k : IntKind} (hu : P.underlying t = some (.int k)) {fuel : Nat} {cs : List Value} {r : DataW H × List MemPlace} (h : DataW.trod enc P W base spare held fuel t cs = some r) :
    ∃ n, cs = [.int k n] ∧ (Lit.int k n).wf = true := by
  cases fuel with
  | zero => cases h
  | succ fuel =>
    unfold DataW.trod at h
    rw [hu] at h
    split at h <;> first | (cases (‹some (TypeDesc.int k) = some _›); done) | (cases h; done) | skip
    · rename_i k0 k' n he
      cases he
      split at h
      · rename_i hc
        obtain ⟨rfl, h2⟩ := hc
        exact ⟨_, rfl, h2⟩
      · cases h
end
section
variable {H : Type} {enc : TypeId × Value → H} {P : Program} {W : World} {base : Nat} {spare : Nat → Bool} {held : Bool}
theorem mapM_each {α β : Type} {f : α → Option β} : ∀ {l : List α} {r : List β}, l.mapM f = some r → ∀ x ∈ l, ∃ y, f x = some y := by
  intro l
  induction l with
  | nil => intro r _ x hx; cases hx
  | cons a l ih =>
    intro r h x hx
    rw [List.mapM_cons] at h
    cases ha : f a with
    | none => rw [ha] at h; cases h
    | some y =>
      rw [ha] at h
      cases hl : l.mapM f with
      | none => rw [hl] at h; cases h
      | some ys =>
        rcases List.mem_cons.1 hx with rfl | hx
        · exact ⟨y, ha⟩
        · exact ih hl x hx
/-- A struct that was read: each field was. -/
theorem trod_struct {t : TypeId} {fs : Array Field} (hu : P.underlying t = some (.struct fs)) {fuel : Nat} {cs : List Value} {r : DataW H × List MemPlace} (h : DataW.trod enc P W base spare held fuel t cs = some r) :
    cs.length = P.cellsOf t ∧ ∃ fuel', ∀ f ∈ fs.toList, ∃ r', DataW.trod enc P W base spare held fuel' f.type ((cs.drop f.offset).take (P.cellsOf f.type)) = some r' := by
  cases fuel with
  | zero => cases h
  | succ fuel =>
    unfold DataW.trod at h
    rw [hu] at h
    split at h <;> first | (cases (‹some (TypeDesc.struct fs) = some _›); done) | (cases h; done) | (exact ((‹∀ fs_1 : Array Field, some (TypeDesc.struct fs) = some (TypeDesc.struct fs_1) → False›) _ rfl).elim) | skip
    rename_i fs' he
    cases he
    split at h
    · rename_i hc
      rw [Option.map_eq_some_iff] at h
      obtain ⟨xs, h1, _⟩ := h
      exact ⟨hc, fuel, fun f hf => mapM_each h1 f hf⟩
    · cases h
theorem trod_bool {t : TypeId} (hu : P.underlying t = some .bool) {fuel : Nat} {cs : List Value} {r : DataW H × List MemPlace} (h : DataW.trod enc P W base spare held fuel t cs = some r) : ∃ b, cs = [.bool b] := by
  cases fuel with
  | zero => cases h
  | succ fuel =>
    unfold DataW.trod at h
    rw [hu] at h
    split at h <;> first | (cases (‹some TypeDesc.bool = some _›); done) | (cases h; done) | skip
    exact ⟨_, rfl⟩
theorem trod_str {t : TypeId} (hu : P.underlying t = some .string) {fuel : Nat} {cs : List Value} {r : DataW H × List MemPlace} (h : DataW.trod enc P W base spare held fuel t cs = some r) : ∃ s, cs = [.string s] ∧ s.size ≤ maxLen := by
  cases fuel with
  | zero => cases h
  | succ fuel =>
    unfold DataW.trod at h
    rw [hu] at h
    split at h <;> first | (cases (‹some TypeDesc.string = some _›); done) | (cases h; done) | skip
    split at h
    · rename_i hs; exact ⟨_, rfl, hs⟩
    · cases h
/-- A slice's header that was read. -/
theorem trod_sl0 {E : Env} {t e : TypeId} (hu : P.underlying t = some (.slice e)) (hce : 0 < P.cellsOf e) (hsp : ∀ b, spare b = true) {fuel : Nat} {cs : List Value} {r : DataW H × List MemPlace} (h : DataW.trod enc P W base spare held fuel t cs = some r) :
    ∃ (v : Value) (s : Sl), cs = [v] ∧ nv (argN E W) v = .slice s.a s.len s.cap := by
  have h' := h
  have hv : ∃ v, cs = [v] := by
    cases fuel with
    | zero => cases h
    | succ fuel =>
      unfold DataW.trod at h
      rw [hu] at h
      split at h <;> first | (cases (‹some (TypeDesc.slice e) = some _›); done) | (cases h; done) | exact ⟨_, rfl⟩
  obtain ⟨v, rfl⟩ := hv
  obtain ⟨d, ps⟩ := r
  obtain ⟨s, l, h1, _⟩ := trod_sl (E := E) (f := fun (x : {l : List Value // l.length = P.cellsOf e}) => x.1) (Wf := fun _ => True) (fun x => x.2) hce hu rfl (fun fuel cs r _ hl => ⟨⟨cs.map (nv (argN E W)), by simpa using hl⟩, trivial, rfl⟩) hsp h'
  exact ⟨v, s, rfl, h1⟩
end
/-- A struct's value is its cells. -/
theorem okWide_agg {P : Program} {w : World} {r : Reach} {base : Nat} {t : TypeId} {v : Value} {fs : Array Field} (hu : P.underlying t = some (.struct fs)) (h : Value.okWide P w r base t v) : ∃ cs, v = .agg cs := by
  unfold Value.okWide at h
  rw [hu] at h
  obtain ⟨cs, h1, _⟩ := h
  exact ⟨cs, h1⟩
/-- A value that is no struct is one cell. -/
theorem okWide_cell {P : Program} {w : World} {r : Reach} {base : Nat} {t : TypeId} {v : Value} {u : TypeDesc} (hu : P.underlying t = some u) (hs : aggD u = false) (h : Value.okWide P w r base t v) : v.cells.toList = [v] := by
  have key : ∀ a, v ≠ .agg a := by
    rintro a rfl
    unfold Value.okWide at h
    rw [hu] at h
    cases u <;> first | (cases hs; done) | (simp [Cell.okWide, Cell.ok, hu] at h; done)
  cases v <;> first | rfl | exact (key _ rfl).elim
section
variable {H : Type} {enc : TypeId × Value → H} {P : Program} {W : World} {base b0 : Nat} {spare : Nat → Bool} {held : Bool} {E : Env} {r : Reach}
theorem arg_sl {α : Type} {f : α → List Value} {sz : Nat} {Wf : α → Prop} (hf : ∀ x, (f x).length = sz) (hsz : 0 < sz) {t e : TypeId} (hu : P.underlying t = some (.slice e)) (hce : P.cellsOf e = sz)
    (hel : ∀ fuel cs r, DataW.trod enc P W base spare held fuel e cs = some r → cs.length = sz → ∃ x, Wf x ∧ cs.map (nv (argN E W)) = f x) (hsp : ∀ b, spare b = true)
    {v : Value} {d : DataW H} {ps : List MemPlace} (hok : Value.okWide P W r b0 t v) (h : DataW.Trod enc P W base spare held t v d ps) :
    ∃ s l, nv (argN E W) v = .slice s.a s.len s.cap ∧ SlOf f sz (argS E W) s l ∧ (∀ x ∈ l, Wf x) ∧ s.len ≤ s.cap ∧ s.cap < inex := by
  obtain ⟨fuel, h⟩ := h
  rw [okWide_cell hu rfl hok] at h
  exact trod_sl hf hsz hu hce hel hsp h
theorem arg_int {t : TypeId} {k : IntKind} (hu : P.underlying t = some (.int k)) {v : Value} {d : DataW H} {ps : List MemPlace} (hok : Value.okWide P W r b0 t v) (h : DataW.Trod enc P W base spare held t v d ps) :
    ∃ n, v = .int k n ∧ (Lit.int k n).wf = true := by
  obtain ⟨fuel, h⟩ := h
  rw [okWide_cell hu rfl hok] at h
  obtain ⟨n, h1, h2⟩ := trod_int hu h
  cases h1
  exact ⟨n, rfl, h2⟩
/-- Slices of numbers. -/
theorem arg_ints {t e : TypeId} {k : IntKind} (hu : P.underlying t = some (.slice e)) (hce : P.cellsOf e = 1) (hue : P.underlying e = some (.int k)) (hsp : ∀ b, spare b = true)
    {v : Value} {d : DataW H} {ps : List MemPlace} (hok : Value.okWide P W r b0 t v) (h : DataW.Trod enc P W base spare held t v d ps) :
    ∃ (s : Sl) (l : List Int), nv (argN E W) v = .slice s.a s.len s.cap ∧ SlOf (fun n => [Value.int k n]) 1 (argS E W) s l ∧ (∀ x ∈ l, (Lit.int k x).wf = true) ∧ s.len ≤ s.cap ∧ s.cap < inex :=
  arg_sl (f := fun n => [Value.int k n]) (sz := 1) (Wf := fun x => (Lit.int k x).wf = true) (fun _ => rfl) (by omega) hu hce (fun fuel cs r h _ => by
    obtain ⟨n, rfl, h2⟩ := trod_int hue h
    exact ⟨n, h2, by simp [nv]⟩) hsp hok h
end
@[simp] theorem nv_int (n : Nat) (k : IntKind) (i : Int) : nv n (.int k i) = .int k i := by unfold nv; rfl
@[simp] theorem nv_bool (n : Nat) (b : Bool) : nv n (.bool b) = .bool b := by unfold nv; rfl
@[simp] theorem nv_string (n : Nat) (s : ByteArray) : nv n (.string s) = .string s := by unfold nv; rfl
@[simp] theorem nv_agg (n : Nat) (a : Array Value) : nv n (.agg a) = .agg (a.map (nv n)) := by unfold nv; rfl

end
end Go.Proofs.Ytcdignblakejoaa.D

/-
  D, part 29: what one's blocks hold, as one fact that is carried along.
-/
namespace Go.Proofs.Ytcdignblakejoaa.D
noncomputable section
set_option linter.unusedVariables false
set_option linter.unusedSimpArgs false

/-- From S0 on only blocks of F were written, of those that were; L: blocks of one's own (new ones, or of F), and what they hold. -/
structure Hld (F : Nat → Prop) (S0 S : St) (L : List (Nat × DObj)) : Prop where
  mod : Mod F S0 S
  all : ∀ p ∈ L, At S p.1 p.2 ∧ (S0.next ≤ p.1 ∨ F p.1)
  dis : (L.map (·.1)).Nodup
theorem Hld.start (F : Nat → Prop) (S : St) : Hld F S S [] := ⟨Mod.refl _ _, by simp, by simp⟩
theorem Hld.at {F : Nat → Prop} {S0 S : St} {L : List (Nat × DObj)} (h : Hld F S0 S L) (i : Nat) {b : Nat} {o : DObj} (hi : L[i]? = some (b, o)) : At S b o := (h.all _ (List.mem_of_getElem? hi)).1
/-- A step that writes none of these blocks. -/
theorem Hld.step {F F' : Nat → Prop} {S0 S S' : St} {L : List (Nat × DObj)} (h : Hld F S0 S L) (e : Mod F' S S') (hf : ∀ b, F' b → b < S.next → (S0.next ≤ b ∨ F b) ∧ ∀ p ∈ L, p.1 ≠ b) : Hld F S0 S' L where
  mod := h.mod.trans e fun b hb hlt => by
    rcases (hf b hb (Nat.lt_of_lt_of_le hlt h.mod.next)).1 with h1 | h1
    · omega
    · exact h1
  all := fun p hp => ⟨e.at (h.all p hp).1 fun hb => (hf _ hb (h.all p hp).1.lt).2 p hp rfl, (h.all p hp).2⟩
  dis := h.dis
theorem Hld.ext {F : Nat → Prop} {S0 S S' : St} {L : List (Nat × DObj)} (h : Hld F S0 S L) (e : Ext S S') : Hld F S0 S' L := h.step e fun _ h => h.elim
/-- A new block. -/
theorem Hld.cons {F : Nat → Prop} {S0 S S' : St} {L : List (Nat × DObj)} (h : Hld F S0 S L) (e : Ext S S') {b : Nat} {o : DObj} (hb : S.next ≤ b) (ha : At S' b o) : Hld F S0 S' ((b, o) :: L) where
  mod := (h.ext e).mod
  all := by
    intro p hp
    rcases List.mem_cons.1 hp with rfl | hp
    · exact ⟨ha, .inl (Nat.le_trans h.mod.next hb)⟩
    · exact (h.ext e).all p hp
  dis := by
    rw [List.map_cons, List.nodup_cons]
    refine ⟨fun hm => ?_, h.dis⟩
    obtain ⟨p, hp, e2⟩ := List.mem_map.1 hm
    have := (h.all p hp).1.lt
    omega
theorem Hld.new {F : Nat → Prop} {S0 S : St} {L : List (Nat × DObj)} (h : Hld F S0 S L) {o : DObj} {k : Nat → St → Prop} (hk : ∀ b S', Hld F S0 S' ((b, o) :: L) → b = S.next → S'.next = S.next + 1 → k b S') : newW S o k :=
  newW_of fun b S' hb ha e hn => hk b S' (h.cons e (by omega) ha) hb hn
theorem nodup_ne {L : List (Nat × DObj)} (h : (L.map (·.1)).Nodup) {i : Nat} {p : Nat × DObj} (hi : L[i]? = some p) {j : Nat} {q : Nat × DObj} (hj : L[j]? = some q) (hne : j ≠ i) : q.1 ≠ p.1 := by
  intro e
  have h1 : (L.map (·.1))[i]? = some p.1 := by rw [List.getElem?_map, hi]; rfl
  have h2 : (L.map (·.1))[j]? = some p.1 := by rw [List.getElem?_map, hj, ← e]; rfl
  obtain ⟨hl1, g1⟩ := List.getElem?_eq_some_iff.1 h1
  obtain ⟨hl2, g2⟩ := List.getElem?_eq_some_iff.1 h2
  have key := List.pairwise_iff_getElem.1 h
  rcases Nat.lt_or_gt_of_ne hne with hlt | hlt
  · exact key j i hl2 hl1 hlt (g2.trans g1.symm)
  · exact key i j hl1 hl2 hlt (g1.trans g2.symm)
/-- Block i is written. -/
theorem Hld.set {F : Nat → Prop} {S0 S S' : St} {L : List (Nat × DObj)} (h : Hld F S0 S L) (i : Nat) {b : Nat} {o o' : DObj} (hi : L[i]? = some (b, o)) (e : Mod (fun c => c = b) S S') (ha : At S' b o') : Hld F S0 S' (L.set i (b, o')) where
  mod := h.mod.trans e fun c hc hlt => by
    subst hc
    rcases (h.all _ (List.mem_of_getElem? hi)).2 with h1 | h1
    · have h1 : S0.next ≤ c := h1; omega
    · exact h1
  all := by
    intro p hp
    obtain ⟨j, hj, hp⟩ := List.getElem_of_mem hp
    have hp : (L.set i (b, o'))[j]? = some p := by rw [List.getElem?_eq_getElem hj, hp]
    rw [List.getElem?_set] at hp
    split at hp
    · split at hp
      · cases hp
        exact ⟨ha, (h.all _ (List.mem_of_getElem? hi)).2⟩
      · cases hp
    · rename_i hne
      have := h.all p (List.mem_of_getElem? hp)
      exact ⟨e.at this.1 (nodup_ne h.dis hi hp (Ne.symm hne)), this.2⟩
  dis := by
    have : (L.set i (b, o')).map (·.1) = L.map (·.1) := by
      rw [List.map_set]
      apply List.ext_getElem?
      intro j
      rw [List.getElem?_set]
      split
      · rename_i hij
        subst hij
        split
        · rw [List.getElem?_map, hi]; rfl
        · rename_i hl; rw [List.getElem?_eq_none (by omega)]
      · rfl
    rw [this]; exact h.dis

/-! ### Reading and writing boxes -/
def ldOk (E : Env) (t : TypeId) : Bool := match E.inf t with | some d => !aggD d.und | none => false
def ldAgg (E : Env) (t : TypeId) (n : Nat) : Bool := match E.inf t with | some d => aggD d.und && Nat.beq d.size n | none => false
def stOk (E : Env) (t : TypeId) (n : Nat) : Bool := match E.inf t with | some d => Nat.beq d.size n | none => false
theorem load_one {E : Env} {S : St} {t b o : Nat} {cs : List Value} {more : Option Nat} {ro : Bool} {fz : Option (Nat × Nat)} (h : At S b (.cells cs more ro fz)) (ht : ldOk E t = true) : loadV E S t (.pointer (some ⟨b, o, none⟩)) = cs[o]? := by
  unfold ldOk at ht
  split at ht
  · rename_i d hd
    have ha : aggD d.und = false := by simpa using ht
    simp only [loadV, hd, ha, cond_false, St.load1, h.get]
  · cases ht
theorem load_agg {E : Env} {S : St} {t b o n : Nat} {cs : List Value} {more : Option Nat} {ro : Bool} {fz : Option (Nat × Nat)} (h : At S b (.cells cs more ro fz)) (ht : ldAgg E t n = true) {vs : List Value} (hv : (cs.drop o).take n = vs) (hl : vs.length = n) :
    loadV E S t (.pointer (some ⟨b, o, none⟩)) = some (.agg vs.toArray) := by
  unfold ldAgg at ht
  split at ht
  · rename_i d hd
    rw [Bool.and_eq_true] at ht
    have e := Nat.eq_of_beq_eq_true ht.2
    exact loadV_agg h.get hd ht.1 (by rw [e]; exact hv) (by rw [e]; exact hl)
  · cases ht
theorem store_cells {E : Env} {S : St} {t b o n : Nat} {cs : List Value} {more : Option Nat} {v : Value} (h : At S b (.cells cs more false none)) (ht : stOk E t n = true) (hn : (cellsOf v).length = n) (ho : o + n ≤ cs.length) (hone : (cellsOf v).all St.one = true) :
    storeV E S t (.pointer (some ⟨b, o, none⟩)) v = some (S.upd b (.cells (cs.take o ++ (cellsOf v ++ cs.drop (o + n))) more false none)) := by
  unfold stOk at ht
  split at ht
  · rename_i d hd
    have e := Nat.eq_of_beq_eq_true ht
    have h1 : Nat.ble (o + n) cs.length = true := Nat.ble_eq_true_of_le ho
    simp only [storeV, hd, e, hn, Nat.beq_refl, cond_true, St.storeN, h.get, Bool.not_false, Bool.true_and, h1, hone, St.fzOk, Bool.and_true]
  · cases ht
/-- A cell of block i is read. -/
theorem Hld.ld {F : Nat → Prop} {S0 S : St} {L : List (Nat × DObj)} (h : Hld F S0 S L) (i : Nat) {b o t : Nat} {cs : List Value} {more : Option Nat} {ro : Bool} {fz : Option (Nat × Nat)} {E : Env} {ty : TT} {k : ty.T → Prop} (hi : L[i]? = some (b, .cells cs more ro fz)) (ht : ldOk E t = true) (x : ty.T)
    (hv : cs[o]? = some (ty.enc x)) (hk : k x) : evV ty (loadV E S t (.pointer (some ⟨b, o, none⟩))) k :=
  ⟨x, (load_one (h.at i hi) ht).trans hv, hk⟩
/-- A struct of block i is read. -/
theorem Hld.lda {F : Nat → Prop} {S0 S : St} {L : List (Nat × DObj)} (h : Hld F S0 S L) (i : Nat) {b o t : Nat} {cs : List Value} {more : Option Nat} {ro : Bool} {fz : Option (Nat × Nat)} {E : Env} {l : List Sc} {k : Tup Sc.T l → Prop} (hi : L[i]? = some (b, .cells cs more ro fz)) (ht : ldAgg E t l.length = true) (x : Tup Sc.T l)
    (hv : decs Sc.dec l ((cs.drop o).take l.length) = some x) (hk : k x) : evV (.one (.agg l)) (loadV E S t (.pointer (some ⟨b, o, none⟩))) k :=
  ⟨x, load_agg (h.at i hi) ht (decs_some (enc := Sc.enc) (fun _ _ _ h => Sc.dec_some h) hv) (encs_len l x), hk⟩
/-- Block i is written: cells from o on. -/
theorem Hld.st {F : Nat → Prop} {S0 S : St} {L : List (Nat × DObj)} (h : Hld F S0 S L) (i : Nat) {b o t : Nat} (n : Nat) {cs cs' : List Value} {more : Option Nat} {E : Env} {v : Value} {k : St → Prop} (hi : L[i]? = some (b, .cells cs more false none)) (ht : stOk E t n = true) (hn : (cellsOf v).length = n) (ho : o + n ≤ cs.length)
    (hone : (cellsOf v).all St.one = true) (hcs : cs.take o ++ (cellsOf v ++ cs.drop (o + n)) = cs') (hk : ∀ S', Hld F S0 S' (L.set i (b, .cells cs' more false none)) → S'.next = S.next → k S') : evS (storeV E S t (.pointer (some ⟨b, o, none⟩)) v) k := by
  subst hcs
  exact ⟨_, store_cells (h.at i hi) ht hn ho hone, hk _ (h.set i hi upd_mod (upd_at (h.at i hi))) rfl⟩
/-- A record's state. -/
theorem Hld.upd {F : Nat → Prop} {S0 S : St} {L : List (Nat × DObj)} (h : Hld F S0 S L) (i : Nat) {b : Nat} {o o' : DObj} {k : St → Prop} (hi : L[i]? = some (b, o)) (hk : ∀ S', Hld F S0 S' (L.set i (b, o')) → S'.next = S.next → k S') : updW S b o' k :=
  updW_of (h.at i hi).lt fun S' ha e hn => hk S' (h.set i hi e ha) hn
theorem Hld.has {F : Nat → Prop} {S0 S : St} {L : List (Nat × DObj)} (h : Hld F S0 S L) (i : Nat) {b : Nat} {o : DObj} {K : Prop} (hi : L[i]? = some (b, o)) (hk : K) : hasW S b o K := ⟨(h.at i hi).get, hk⟩
theorem ptrW_of {b o : Nat} {k : Nat → Nat → Prop} (h : k b o) : ptrW (some ⟨b, o, none⟩) k := ⟨b, o, rfl, h⟩
@[simp] theorem ptrW_some {b o : Nat} {k : Nat → Nat → Prop} : ptrW (some ⟨b, o, none⟩) k = k b o := by
  apply propext
  constructor
  · rintro ⟨b', o', h, hk⟩; cases h; exact hk
  · exact ptrW_of

end
end Go.Proofs.Ytcdignblakejoaa.D

/-
  D, part 30: loops over functions, drawn regions: steps over one's own blocks.
-/
namespace Go.Proofs.Ytcdignblakejoaa.D
noncomputable section
set_option linter.unusedVariables false

/-- It reads the same. -/
theorem sameV_of {v : Value} {X : Prop} (x : X) : sameV v v X := ⟨rfl, x⟩
theorem Mod.setLow {F : Nat → Prop} {S0 S S' : St} (h : Mod F S0 S) (h1 : S'.heap = S.heap) (h2 : S'.next = S.next) (h3 : ∀ lim, lim ≤ S0.low → lim ≤ S0.next → (∀ b, F b → lim ≤ b) → lim ≤ S'.low) : Mod F S0 S' :=
  ⟨by rw [h2]; exact h.next, fun b hb hn => by rw [h1]; exact h.keep b hb hn, h3⟩
theorem Hld.setLow {F : Nat → Prop} {S0 S S' : St} {L : List (Nat × DObj)} (h : Hld F S0 S L) (h1 : S'.heap = S.heap) (h2 : S'.next = S.next) (h3 : ∀ lim, lim ≤ S0.low → lim ≤ S0.next → (∀ b, F b → lim ≤ b) → lim ≤ S'.low) : Hld F S0 S' L where
  mod := h.mod.setLow h1 h2 h3
  all := fun p hp => ⟨⟨by rw [h1]; exact (h.all p hp).1.get, by rw [h2]; exact (h.all p hp).1.lt⟩, (h.all p hp).2⟩
  dis := h.dis
/-- A quiet operation begins .. -/
theorem Hld.quiet {F : Nat → Prop} {S0 S : St} {L : List (Nat × DObj)} (h : Hld F S0 S L) {k : St → Prop} (hk : ∀ S', Hld F S0 S' L → Ext S S' → S'.next = S.next → S'.low = S.next → k S') : setLowW S S.next k :=
  setLowW_of fun S' h1 h2 h3 => hk S' (h.setLow h1 h2 fun lim _ hl _ => by have := h.mod.next; omega) ⟨by omega, fun b _ _ => by rw [h1], fun lim _ hl _ => by omega⟩ h2 h3
/-- .. and ends. -/
theorem Hld.loud {F : Nat → Prop} {S0 S S2 : St} {L L' : List (Nat × DObj)} (h : Hld F S0 S L) (h' : Hld F S0 S2 L') {lim : Nat} (hlim : S.next ≤ lim) {k : St → Prop} (hk : ∀ S', Hld F S0 S' L' → S'.heap = S2.heap → S'.next = S2.next → k S') : setLowW S2 (Nat.min S.low lim) k :=
  setLowW_of fun S' h1 h2 h3 => hk S' (h'.setLow h1 h2 fun l hl hn hf => by
    have a := h.mod.low l hl hn hf
    have b := h.mod.next
    have c : S'.low = min S.low lim := h3
    omega) h1 h2
theorem Hld.quiet' {F : Nat → Prop} {S0 S : St} {L : List (Nat × DObj)} (h : Hld F S0 S L) {lim : Nat} (hlim : S0.next ≤ lim) {k : St → Prop} (hk : ∀ S', Hld F S0 S' L → S'.heap = S.heap → S'.next = S.next → S'.low = lim → k S') : setLowW S lim k :=
  setLowW_of fun S' h1 h2 h3 => hk S' (h.setLow h1 h2 fun l _ hl _ => by omega) h1 h2 h3
theorem Hld.loud' {F : Nat → Prop} {S0 S S2 : St} {L L' : List (Nat × DObj)} (h : Hld F S0 S L) (h' : Hld F S0 S2 L') {lim : Nat} (hlim : S0.next ≤ lim) {k : St → Prop} (hk : ∀ S', Hld F S0 S' L' → S'.heap = S2.heap → S'.next = S2.next → k S') : setLowW S2 (Nat.min S.low lim) k :=
  setLowW_of fun S' h1 h2 h3 => hk S' (h'.setLow h1 h2 fun l hl hn hf => by
    have a := h.mod.low l hl hn hf
    have c : S'.low = min S.low lim := h3
    omega) h1 h2
/-- Boxes are written; a slice that grows in blocks from N on stays. -/
theorem Hld.updG {α : Type} {f : α → List Value} {sz N : Nat} {s : Sl} {l : List α} {F : Nat → Prop} {S0 S : St} {L : List (Nat × DObj)} (h : Hld F S0 S L) (g : Gr f sz N S s l) (i : Nat) {b : Nat} {o o' : DObj} {k : St → Prop} (hi : L[i]? = some (b, o)) (hb : b < N)
    (hk : ∀ S', Hld F S0 S' (L.set i (b, o')) → Gr f sz N S' s l → S'.next = S.next → k S') : updW S b o' k :=
  updW_of (h.at i hi).lt fun S' ha e hn => hk S' (h.set i hi e ha) (e.gr g fun c h1 _ h2 => by omega) hn
theorem Hld.stG {α : Type} {f : α → List Value} {sz N : Nat} {s : Sl} {l : List α} {F : Nat → Prop} {S0 S : St} {L : List (Nat × DObj)} (h : Hld F S0 S L) (g : Gr f sz N S s l) (i : Nat) {b o t : Nat} (n : Nat) {cs cs' : List Value} {more : Option Nat} {E : Env} {v : Value} {k : St → Prop} (hi : L[i]? = some (b, .cells cs more false none)) (hb : b < N) (ht : stOk E t n = true) (hn : (cellsOf v).length = n) (ho : o + n ≤ cs.length)
    (hone : (cellsOf v).all St.one = true) (hcs : cs.take o ++ (cellsOf v ++ cs.drop (o + n)) = cs') (hk : ∀ S', Hld F S0 S' (L.set i (b, .cells cs' more false none)) → Gr f sz N S' s l → S'.next = S.next → k S') : evS (storeV E S t (.pointer (some ⟨b, o, none⟩)) v) k := by
  subst hcs
  exact ⟨_, store_cells (h.at i hi) ht hn ho hone, hk _ (h.set i hi upd_mod (upd_at (h.at i hi))) (Mod.gr upd_mod g fun c h1 _ h2 => by omega) rfl⟩
theorem Gr.same {α : Type} {f : α → List Value} {sz N : Nat} {s : Sl} {l : List α} {S S' : St} (g : Gr f sz N S s l) (h1 : S'.heap = S.heap) (h2 : S'.next = S.next) : Gr f sz N S' s l := by
  rcases g with h | ⟨b, hb, e, ha⟩
  · exact .inl h
  · exact .inr ⟨b, hb, e, ⟨by rw [h1]; exact ha.get, by rw [h2]; exact ha.lt⟩⟩
theorem Gr.len {α : Type} {f : α → List Value} {sz N : Nat} {s : Sl} {l : List α} {S : St} (g : Gr f sz N S s l) : s.len = l.length := by
  rcases g with ⟨rfl, rfl⟩ | ⟨b, hb, rfl, ha⟩ <;> rfl
/-- The record of a loop over a function is laid. -/
theorem Hld.record {F : Nat → Prop} {S0 S : St} {L : List (Nat × DObj)} (h : Hld F S0 S L) {o : DObj} : Hld F S0 (S.alloc o).2 ((S.next, o) :: L) := h.cons alloc_ext (Nat.le_refl _) alloc_at
theorem WG_of {E : Env} {f : Nat} {first cap : Array Value} {l : Nat} {S : St} {Q : St → Prop} (hp : E.prim f = none) (h : WC E f (first.toList ++ [.func (.yield l) #[] #[]] ++ cap.toList) S fun _ S' => Q S') : WG E (.func (.func f) first cap) l S Q :=
  ⟨f, first, cap, rfl, hp, h⟩
/-- A letter of a text. -/
theorem indexD_str {E : Env} {t : TypeId} (ht : E.und t = some .string) {l : List UInt8} {n : Nat} (hn : n < l.length) : indexD E t (.string ⟨l.toArray⟩) (.int .i64 (n : Int)) = some (.int .u8 (l[n].toNat : Int)) := by
  have h0 : decide ((0 : Int) ≤ (n : Int)) = true := by simp
  simp only [indexD, ht, h0, cond_true, Int.toNat_natCast]
  rw [List.getElem?_eq_getElem hn]; rfl
theorem minmax_min (a b : Int) : (cond false (cond (decide (b > a)) b a) (cond (decide (b < a)) b a)) = min a b := by
  by_cases h : b < a
  · rw [decide_eq_true h]; show b = min a b; omega
  · rw [decide_eq_false h]; show a = min a b; omega
theorem minmax_max (a b : Int) : (cond true (cond (decide (b > a)) b a) (cond (decide (b < a)) b a)) = max a b := by
  by_cases h : b > a
  · rw [decide_eq_true h]; show b = max a b; omega
  · rw [decide_eq_false h]; show a = max a b; omega

end
end Go.Proofs.Ytcdignblakejoaa.D

/-
  D, part 31: slices that grow and shrink: behind the elements spare cells may stand.
-/
namespace Go.Proofs.Ytcdignblakejoaa.D
noncomputable section
set_option linter.unusedVariables false
set_option linter.unusedSimpArgs false

/-- As Gr, with spare cells behind. -/
def GrX {α : Type} (f : α → List Value) (sz : Nat) (N : Nat) (S : St) (s : Sl) (l : List α) : Prop :=
  (l = [] ∧ s = ⟨none, 0, 0⟩) ∨ ∃ b rest, N ≤ b ∧ s = ⟨some ⟨b, 0, none⟩, l.length, inex⟩ ∧ At S b (.cells (l.flatMap f ++ rest) (some sz) false none) ∧ l.length * sz + rest.length < inex
theorem Gr.x {α : Type} {f : α → List Value} {sz N : Nat} {S : St} {s : Sl} {l : List α} (h : Gr f sz N S s l) (hl : l.length * sz < inex) : GrX f sz N S s l := by
  rcases h with h | ⟨b, h1, h2, h3⟩
  · exact .inl h
  · exact .inr ⟨b, [], h1, h2, by rw [List.append_nil]; exact h3, hl⟩
theorem GrX.of {α : Type} {f : α → List Value} {sz N : Nat} {S : St} {s : Sl} {l : List α} (hf : ∀ x, (f x).length = sz) (h : GrX f sz N S s l) : SlOf f sz S s l := by
  rcases h with ⟨rfl, rfl⟩ | ⟨b, rest, _, rfl, ha, _⟩
  · exact ⟨rfl, fun h => (h rfl).elim⟩
  · refine ⟨rfl, fun _ => ⟨b, 0, _, _, _, _, rfl, ha, ?_⟩⟩
    rw [List.drop_zero, List.take_append_of_le_length (by rw [flat_len hf]; exact Nat.le_refl _), List.take_of_length_le (by rw [flat_len hf]; exact Nat.le_refl _)]
theorem GrX.len {α : Type} {f : α → List Value} {sz N : Nat} {s : Sl} {l : List α} {S : St} (g : GrX f sz N S s l) : s.len = l.length := by
  rcases g with ⟨rfl, rfl⟩ | ⟨b, rest, hb, rfl, ha, _⟩ <;> rfl
theorem Mod.grX {α : Type} {f : α → List Value} {sz N : Nat} {F : Nat → Prop} {S S' : St} {s : Sl} {l : List α} (h : Mod F S S') (hs : GrX f sz N S s l) (hn : ∀ b, N ≤ b → b < S.next → ¬ F b) : GrX f sz N S' s l := by
  rcases hs with h1 | ⟨b, rest, h1, h2, h3, h4⟩
  · exact .inl h1
  · exact .inr ⟨b, rest, h1, h2, h.at h3 (hn b h1 h3.lt), h4⟩
theorem GrX.same {α : Type} {f : α → List Value} {sz N : Nat} {s : Sl} {l : List α} {S S' : St} (g : GrX f sz N S s l) (h1 : S'.heap = S.heap) (h2 : S'.next = S.next) : GrX f sz N S' s l := by
  rcases g with h | ⟨b, rest, hb, e, ha, hl⟩
  · exact .inl h
  · exact .inr ⟨b, rest, hb, e, ⟨by rw [h1]; exact ha.get, by rw [h2]; exact ha.lt⟩, hl⟩
/-- Elements are appended. -/
theorem GrX.append {α : Type} {f : α → List Value} {sz N : Nat} {E : Env} {S : St} {s : Sl} {l : List α} (hf : ∀ x, (f x).length = sz) (hsz : 0 < sz) (h : GrX f sz N S s l) {st xt e : Nat} {d : DInfo} {xd : TypeDesc} {z : Value} (hst : E.und st = some (.slice e)) (he : E.inf e = some d) (hxt : E.und xt = some xd) (hxd : (apK xd && tagOk E e sz) = true)
    (hds : d.size = sz) (hz : d.zero = some z) (hzl : (cellsOf z).length = sz) {x : Value} {vs : List α} (hn : lenOfD x = some vs.length) (hx : firstD S sz vs.length x = some (vs.flatMap f)) (hone : (vs.flatMap f).all St.one = true)
    (hb : (l.length + vs.length) * d.bytes ≤ 17592186044416) (hb2 : l.length + vs.length ≤ 17592186044416) (hvs : vs ≠ []) (hb3 : (l.length + vs.length) * sz < inex)
    {k : Sl → St → Prop} (hk : ∀ s' S', GrX f sz N S' s' (l ++ vs) → Mod (fun b => N ≤ b ∧ s.a = some ⟨b, 0, none⟩) S S' → (s'.a = s.a ∨ ∃ b, s'.a = some ⟨b, 0, none⟩ ∧ S.next ≤ b) → k s' S') (hN : N ≤ S.next) :
    evP tS (appendD E S st xt (.slice s.a s.len s.cap) x) k := by
  have hv0 : ¬ vs.length = 0 := fun hh => hvs (List.length_eq_zero_iff.1 hh)
  have tOk := tOk_of hxd
  have hbz : Nat.beq vs.length 0 = false := Bool.eq_false_iff.2 fun hh => hv0 (Nat.eq_of_beq_eq_true hh)
  have hfl : (vs.flatMap f).length = vs.length * sz := flat_len hf vs
  have g1 : Nat.beq (cellsOf z).length sz = true := by rw [hzl, Nat.beq_refl]
  have g2 : Nat.blt 0 sz = true := by simpa [Nat.blt] using Nat.ble_eq_true_of_le hsz
  have g3 : Nat.beq (vs.flatMap f).length (vs.length * sz) = true := by rw [hfl, Nat.beq_refl]
  rcases h with ⟨rfl, rfl⟩ | ⟨b, rest, hbN, rfl, hat, hlt⟩
  · have g4 : Nat.ble ((0 + vs.length) * d.bytes) 17592186044416 = true := Nat.ble_eq_true_of_le (by simpa using hb)
    have g5 : Nat.ble (0 + vs.length) 17592186044416 = true := Nat.ble_eq_true_of_le (by simpa using hb2)
    refine ⟨⟨some ⟨S.next, 0, none⟩, vs.length, inex⟩, (S.alloc (.cells (vs.flatMap f) (some sz) false none)).2, ?_, hk _ _ (.inr ⟨S.next, [], hN, ?_, ?_, by simpa using hb3⟩) (alloc_ext.mono fun _ h _ => h.elim) (.inr ⟨_, rfl, Nat.le_refl _⟩)⟩
    · simp only [appendD, hst, he, hxt, tOk.1, tOk.2.1, tOk.2.2.1, tOk.2.2.2, Bool.true_or, Bool.true_and, cond_true, hz, Option.bind_some, hn, hds, hx, g1, g2, g3, g4, g5, Bool.and_true, hbz, cond_false, TT.enc, Ty.enc, Sc.enc]
    · simp
    · simpa using alloc_at
  · have g4 : Nat.ble ((l.length + vs.length) * d.bytes) 17592186044416 = true := Nat.ble_eq_true_of_le hb
    have g5 : Nat.ble (l.length + vs.length) 17592186044416 = true := Nat.ble_eq_true_of_le hb2
    have hll : (l.flatMap f ++ rest).length = l.length * sz + rest.length := by rw [List.length_append, flat_len hf]
    by_cases hfit : (l.length + vs.length) * sz ≤ (l.flatMap f ++ rest).length
    · have g6 : Nat.ble (0 + (l.length + vs.length) * sz) (l.flatMap f ++ rest).length = true := Nat.ble_eq_true_of_le (by omega)
      have g7 : Nat.ble (0 + l.length * sz + vs.length * sz) (l.flatMap f ++ rest).length = true := Nat.ble_eq_true_of_le (by rw [Nat.add_mul] at hfit; omega)
      have hcs : (l.flatMap f ++ rest).take (0 + l.length * sz) ++ (vs.flatMap f ++ (l.flatMap f ++ rest).drop (0 + l.length * sz + vs.length * sz)) = (l ++ vs).flatMap f ++ rest.drop (vs.length * sz) := by
        rw [Nat.zero_add, List.take_append_of_le_length (by rw [flat_len hf]; exact Nat.le_refl _), List.take_of_length_le (by rw [flat_len hf]; exact Nat.le_refl _), List.flatMap_append, List.append_assoc]
        congr 2
        rw [← List.drop_drop, List.drop_left' (flat_len hf l)]
      refine ⟨⟨some ⟨b, 0, none⟩, l.length + vs.length, inex⟩, S.upd b (.cells ((l ++ vs).flatMap f ++ rest.drop (vs.length * sz)) (some sz) false none), ?_, hk _ _ (.inr ⟨b, rest.drop (vs.length * sz), hbN, ?_, upd_at hat, by rw [List.length_append, List.length_drop]; rw [hll] at hfit; rw [Nat.add_mul] at hfit ⊢; omega⟩) (upd_mod.mono fun c hc _ => by subst hc; exact ⟨hbN, rfl⟩) (.inl rfl)⟩
      · simp only [appendD, hst, he, hxt, tOk.1, tOk.2.1, tOk.2.2.1, tOk.2.2.2, Bool.true_or, Bool.true_and, cond_true, hz, Option.bind_some, hn, hds, hx, g1, g2, g3, g4, g5, Bool.and_true, hbz, cond_false, TT.enc, Ty.enc, Sc.enc, Nat.beq_refl, hat.get, g6, g7, Bool.not_false, hone, St.fzOk, St.storeN, hfl, Bool.true_and, hcs, Option.map_some]
      · simp
    · have g6 : Nat.ble (0 + (l.length + vs.length) * sz) (l.flatMap f ++ rest).length = false := by
        rw [Bool.eq_false_iff]
        intro hh
        have := Nat.le_of_ble_eq_true hh
        omega
      have g7 : Nat.ble (0 + l.length * sz) (l.flatMap f ++ rest).length = true := Nat.ble_eq_true_of_le (by rw [hll]; omega)
      have g8 : ((l.flatMap f ++ rest).drop 0).take (l.length * sz) = l.flatMap f := by
        rw [List.drop_zero, List.take_append_of_le_length (by rw [flat_len hf]; exact Nat.le_refl _), List.take_of_length_le (by rw [flat_len hf]; exact Nat.le_refl _)]
      have hm : Mod (fun c => N ≤ c ∧ (some (⟨b, 0, none⟩ : Addr)) = some ⟨c, 0, none⟩) S ((S.upd b .dead).alloc (.cells (l.flatMap f ++ vs.flatMap f) (some sz) false none)).2 :=
        (upd_mod.mono fun c hc _ => by subst hc; exact ⟨hbN, rfl⟩).ext alloc_ext fun _ h => h.elim
      refine ⟨⟨some ⟨S.next, 0, none⟩, l.length + vs.length, inex⟩, ((S.upd b .dead).alloc (.cells (l.flatMap f ++ vs.flatMap f) (some sz) false none)).2, ?_, hk _ _ (.inr ⟨S.next, [], hN, ?_, ?_, by simpa using hb3⟩) hm (.inr ⟨_, rfl, Nat.le_refl _⟩)⟩
      · simp only [appendD, hst, he, hxt, tOk.1, tOk.2.1, tOk.2.2.1, tOk.2.2.2, Bool.true_or, Bool.true_and, cond_true, hz, Option.bind_some, hn, hds, hx, g1, g2, g3, g4, g5, Bool.and_true, hbz, cond_false, TT.enc, Ty.enc, Sc.enc, Nat.beq_refl, hat.get, g6, g7, Bool.not_false, hone, St.fzOk, g8, Option.map_none]
      · simp
      · rw [List.flatMap_append, List.append_nil]; exact alloc_at
/-- s[lo:hi] of a slice that grows. -/
theorem sliceD_grow {E : Env} {S : St} {t e sz : Nat} {b o len lo hi : Nat} {cs : List Value} {ro : Bool} {fz : Option (Nat × Nat)} (ht : E.und t = some (.slice e)) (he : E.size e = some sz) (hat : At S b (.cells cs (some sz) ro fz)) {vl vh : Option Value}
    (hl : optNat (some 0) vl = some lo) (hh : optNat (some len) vh = some hi) (h1 : lo ≤ hi) (h2 : hi ≤ Nat.max len (roomD S b o sz)) (h3 : Nat.max len (roomD S b o sz) < inex) (hT : szT sz = sz := by rfl) :
    sliceD E S t (.slice (some ⟨b, o, none⟩) len inex) vl vh none = some (.slice (some ⟨b, o + lo * sz, none⟩) (hi - lo) inex) := by
  have hk : kcapD S sz (some ⟨b, o, none⟩) len inex = Nat.max len (roomD S b o sz) := by
    unfold kcapD
    rw [Nat.beq_refl]; rfl
  have hm : moreIs S b sz = true := by simp only [moreIs, hat.get, hT, Nat.beq_refl]
  have hx : optNat (some (Nat.max len (roomD S b o sz))) none = some (Nat.max len (roomD S b o sz)) := rfl
  simp only [sliceD, ht, he, Option.bind_some, hk, hx, Option.isNone_none, cond_true, hh, hl, Nat.ble_eq_true_of_le (Nat.le_refl _), Nat.ble_eq_true_of_le h2, Nat.ble_eq_true_of_le h1, Nat.blt_eq.mpr h3, Bool.and_true, Nat.beq_refl, hm]
/-- s[lo:hi:mx] of a slice that grows. -/
theorem sliceD_grow3 {E : Env} {S : St} {t e sz : Nat} {b o len lo hi mx : Nat} {cs : List Value} {ro : Bool} {fz : Option (Nat × Nat)} (ht : E.und t = some (.slice e)) (he : E.size e = some sz) (hat : At S b (.cells cs (some sz) ro fz)) {vl vh vm : Option Value} (hv : vm.isNone = false)
    (hl : optNat (some 0) vl = some lo) (hh : optNat none vh = some hi) (hm : optNat (some (Nat.max len (roomD S b o sz))) vm = some mx) (h1 : lo ≤ hi) (h2 : hi ≤ mx) (h3 : mx ≤ Nat.max len (roomD S b o sz)) (h4 : mx < inex) :
    sliceD E S t (.slice (some ⟨b, o, none⟩) len inex) vl vh vm = some (.slice (some ⟨b, cond (Nat.beq mx lo) o (o + lo * sz), none⟩) (hi - lo) (mx - lo)) := by
  have hk : kcapD S sz (some ⟨b, o, none⟩) len inex = Nat.max len (roomD S b o sz) := by
    unfold kcapD
    rw [Nat.beq_refl]; rfl
  simp only [sliceD, ht, he, Option.bind_some, hk, hm, hv, cond_false, hh, hl, Nat.ble_eq_true_of_le h3, Nat.ble_eq_true_of_le h2, Nat.ble_eq_true_of_le h1, Nat.blt_eq.mpr h4, Bool.and_true, cond_true, Bool.and_false]
theorem roomD_at {S : St} {b o sz : Nat} {cs : List Value} {ro : Bool} {fz : Option (Nat × Nat)} (hat : At S b (.cells cs (some sz) ro fz)) (hsz : 0 < sz) (hT : szT sz = sz := by rfl) : roomD S b o sz = (cs.length - o) / sz := by
  have h : Nat.blt 0 sz = true := Nat.blt_eq.mpr hsz
  simp only [roomD, hat.get, hT, Nat.beq_refl, h, Bool.and_true, cond_true]
theorem Mod.slOfN {α : Type} {f : α → List Value} {sz : Nat} {F : Nat → Prop} {S S' : St} {s : Sl} {l : List α} (h : Mod F S S') (hs : SlOf f sz S s l) (hn : l ≠ [] → ∀ b o, s.a = some ⟨b, o, none⟩ → b < S.next → ¬ F b) : SlOf f sz S' s l :=
  ⟨hs.len, fun hl => let ⟨b, o, cs, more, ro, fz, h1, h2, h3⟩ := hs.mem hl; ⟨b, o, cs, more, ro, fz, h1, h.at h2 (hn hl b o h1 h2.lt), h3⟩⟩
/-- The same blocks, told from here on .. -/
theorem Hld.re {F : Nat → Prop} {S0 S : St} {L : List (Nat × DObj)} (h : Hld F S0 S L) : Hld (fun c => c ∈ L.map (·.1)) S S L :=
  ⟨Mod.refl _ _, fun p hp => ⟨(h.all p hp).1, .inr (List.mem_map_of_mem hp)⟩, h.dis⟩
/-- .. and back. -/
theorem Hld.back {F : Nat → Prop} {S0 S S' : St} {L : List (Nat × DObj)} (h : Hld F S0 S L) (m : Mod (fun c => c ∈ L.map (·.1)) S S') : Mod F S0 S' :=
  h.mod.trans m fun b hb hlt => by
    obtain ⟨p, hp, rfl⟩ := List.mem_map.1 hb
    rcases (h.all p hp).2 with h1 | h1
    · omega
    · exact h1
end
end Go.Proofs.Ytcdignblakejoaa.D

/-
  D, part 32: one's own boxes, and beside them a fact that hangs on other blocks (its own), carried along together.
-/
namespace Go.Proofs.Ytcdignblakejoaa.D
noncomputable section
set_option linter.unusedVariables false
set_option linter.unusedSimpArgs false

/-- Only blocks of F, of those that were, are other ones. -/
structure Kp (F : Nat → Prop) (S S' : St) : Prop where
  next : S.next ≤ S'.next
  keep : ∀ b, b < S.next → ¬ F b → S'.heap.get b = S.heap.get b
theorem Mod.kp {F : Nat → Prop} {S S' : St} (h : Mod F S S') : Kp F S S' := ⟨h.next, h.keep⟩
theorem kp_same {F : Nat → Prop} {S S' : St} (h1 : S'.heap = S.heap) (h2 : S'.next = S.next) : Kp F S S' := ⟨by omega, fun b _ _ => by rw [h1]⟩
theorem Kp.at {F : Nat → Prop} {S S' : St} (h : Kp F S S') {b : Nat} {o : DObj} (ha : At S b o) (hn : ¬ F b) : At S' b o := ⟨(h.keep b ha.lt hn).trans ha.get, Nat.lt_of_lt_of_le ha.lt h.next⟩
theorem Kp.slOf {α : Type} {f : α → List Value} {sz : Nat} {F : Nat → Prop} {S S' : St} {s : Sl} {l : List α} (h : Kp F S S') (hs : SlOf f sz S s l) (hn : l ≠ [] → ∀ b o, s.a = some ⟨b, o, none⟩ → b < S.next → ¬ F b) : SlOf f sz S' s l :=
  ⟨hs.len, fun hl => let ⟨b, o, cs, more, ro, fz, h1, h2, h3⟩ := hs.mem hl; ⟨b, o, cs, more, ro, fz, h1, h.at h2 (hn hl b o h1 h2.lt), h3⟩⟩
theorem Kp.gr {α : Type} {f : α → List Value} {sz N : Nat} {F : Nat → Prop} {S S' : St} {s : Sl} {l : List α} (h : Kp F S S') (hs : Gr f sz N S s l) (hn : ∀ b, N ≤ b → b < S.next → s.a = some ⟨b, 0, none⟩ → ¬ F b) : Gr f sz N S' s l := by
  rcases hs with hs | ⟨b, h1, h2, h3⟩
  · exact .inl hs
  · exact .inr ⟨b, h1, h2, h.at h3 (hn b h1 h3.lt (by rw [h2]))⟩
theorem Kp.grX {α : Type} {f : α → List Value} {sz N : Nat} {F : Nat → Prop} {S S' : St} {s : Sl} {l : List α} (h : Kp F S S') (hs : GrX f sz N S s l) (hn : ∀ b, N ≤ b → b < S.next → s.a = some ⟨b, 0, none⟩ → ¬ F b) : GrX f sz N S' s l := by
  rcases hs with hs | ⟨b, rest, h1, h2, h3, h4⟩
  · exact .inl hs
  · exact .inr ⟨b, rest, h1, h2, h.at h3 (hn b h1 h3.lt (by rw [h2])), h4⟩
theorem SlOf.idxL {α : Type} {f : α → List Value} {sz : Nat} {S : St} {s : Sl} {l : List α} (hf : ∀ x, (f x).length = sz) (h : SlOf f sz S s l) {n0 n : Nat} (e : n0 = l.length) (h1 : n < l.length) {k : Nat → Nat → Prop}
    (hk : ∀ b o cs more ro fz, At S b (.cells cs more ro fz) → s.a = some ⟨b, o, none⟩ → (cs.drop (o + (n : Int).toNat * sz)).take sz = f l[n] → k b o) : idxW s.a n0 (n : Int) k := by
  have e' : n0 = s.len := by rw [h.len]; exact e
  subst e'
  exact h.idx hf (by omega) (by omega) hk
/-- P hangs on the blocks O alone. -/
def Frm (O : Nat → Prop) (P : St → Prop) : Prop := ∀ F S S', Kp F S S' → (∀ c, O c → ¬ F c) → P S → P S'
theorem Frm.and {O O' : Nat → Prop} {P P' : St → Prop} (h : Frm O P) (h' : Frm O' P') : Frm (fun c => O c ∨ O' c) (fun S => P S ∧ P' S) :=
  fun F S S' m hF hp => ⟨h F S S' m (fun c hc => hF c (.inl hc)) hp.1, h' F S S' m (fun c hc => hF c (.inr hc)) hp.2⟩
theorem Frm.true : Frm noB (fun _ => True) := fun _ _ _ _ _ _ => trivial
theorem Frm.pure {p : Prop} : Frm noB (fun _ => p) := fun _ _ _ _ _ h => h
/-- From S0 on only blocks of W were written, of those that were; L: boxes (new ones, or of W), and what they hold; P holds, which hangs on blocks O alone, none of them a box. -/
structure Cx (W : Nat → Prop) (S0 S : St) (L : List (Nat × DObj)) (O : Nat → Prop) (P : St → Prop) : Prop where
  h : Hld W S0 S L
  lt : ∀ c, O c → c < S.next
  sep : ∀ p ∈ L, ¬ O p.1
  p : P S
  fr : Frm O P
section
variable {W O : Nat → Prop} {S0 S : St} {L : List (Nat × DObj)} {P : St → Prop}
theorem Cx.start (W : Nat → Prop) (hP : P S) (fr : Frm O P) (lt : ∀ c, O c → c < S.next) : Cx W S S [] O P := ⟨Hld.start W S, lt, by simp, hP, fr⟩
/-- .. with boxes that were. -/
theorem Cx.startL (W : Nat → Prop) {L : List (Nat × DObj)} (hL : ∀ p ∈ L, At S p.1 p.2 ∧ W p.1) (hd : (L.map (·.1)).Nodup) (hP : P S) (fr : Frm O P) (lt : ∀ c, O c → c < S.next) (sep : ∀ p ∈ L, ¬ O p.1) : Cx W S S L O P :=
  ⟨⟨Mod.refl _ _, fun p hp => ⟨(hL p hp).1, .inr (hL p hp).2⟩, hd⟩, lt, sep, hP, fr⟩
theorem Cx.mod (h : Cx W S0 S L O P) : Mod W S0 S := h.h.mod
theorem Cx.at (h : Cx W S0 S L O P) (i : Nat) {b : Nat} {o : DObj} (hi : L[i]? = some (b, o)) : At S b o := h.h.at i hi
theorem Cx.ext (h : Cx W S0 S L O P) {S' : St} (e : Ext S S') : Cx W S0 S' L O P :=
  ⟨h.h.ext e, fun c hc => Nat.lt_of_lt_of_le (h.lt c hc) e.next, h.sep, h.fr _ _ _ e.kp (fun _ _ h => h) h.p, h.fr⟩
theorem Cx.ne (h : Cx W S0 S L O P) {c : Nat} (hc : O c) {i : Nat} {b : Nat} {o : DObj} (hi : L[i]? = some (b, o)) : c ≠ b := fun e => h.sep _ (List.mem_of_getElem? hi) (e ▸ hc)
theorem Cx.new (h : Cx W S0 S L O P) {o : DObj} {k : Nat → St → Prop} (hk : ∀ b S', Cx W S0 S' ((b, o) :: L) O P → b = S.next → S'.next = S.next + 1 → k b S') : newW S o k :=
  newW_of fun b S' hb ha e hn => hk b S' ⟨h.h.cons e (by omega) ha, fun c hc => Nat.lt_of_lt_of_le (h.lt c hc) e.next, fun p hp => by
    rcases List.mem_cons.1 hp with rfl | hp
    · intro hc; have := h.lt _ hc; simp only at this; omega
    · exact h.sep p hp, h.fr _ _ _ e.kp (fun _ _ h => h) h.p, h.fr⟩ hb hn
theorem Cx.newX (h : Cx W S0 S L O P) {o : DObj} {k : Nat → St → Prop} (hk : ∀ b S', Cx W S0 S' ((b, o) :: L) O P → b = S.next → S'.next = S.next + 1 → Ext S S' → k b S') : newW S o k :=
  newW_of fun b S' hb ha e hn => hk b S' ⟨h.h.cons e (by omega) ha, fun c hc => Nat.lt_of_lt_of_le (h.lt c hc) e.next, fun p hp => by
    rcases List.mem_cons.1 hp with rfl | hp
    · intro hc; have := h.lt _ hc; simp only at this; omega
    · exact h.sep p hp, h.fr _ _ _ e.kp (fun _ _ h => h) h.p, h.fr⟩ hb hn e
/-- A box is written. -/
theorem Cx.set (h : Cx W S0 S L O P) {S' : St} (i : Nat) {b : Nat} {o o' : DObj} (hi : L[i]? = some (b, o)) (e : Mod (fun c => c = b) S S') (ha : At S' b o') : Cx W S0 S' (L.set i (b, o')) O P := by
  refine ⟨h.h.set i hi e ha, fun c hc => Nat.lt_of_lt_of_le (h.lt c hc) e.next, fun p hp => ?_, h.fr _ _ _ e.kp (fun c hc hb => h.ne hc hi hb) h.p, h.fr⟩
  · rcases List.mem_or_eq_of_mem_set hp with hp | rfl
    · exact h.sep p hp
    · exact h.sep (b, o) (List.mem_of_getElem? hi)
theorem Cx.ld (h : Cx W S0 S L O P) (i : Nat) {b o t : Nat} {cs : List Value} {more : Option Nat} {ro : Bool} {fz : Option (Nat × Nat)} {E : Env} {ty : TT} {k : ty.T → Prop} (hi : L[i]? = some (b, .cells cs more ro fz)) (ht : ldOk E t = true) (x : ty.T)
    (hv : cs[o]? = some (ty.enc x)) (hk : k x) : evV ty (loadV E S t (.pointer (some ⟨b, o, none⟩))) k := h.h.ld i hi ht x hv hk
theorem Cx.lda (h : Cx W S0 S L O P) (i : Nat) {b o t : Nat} {cs : List Value} {more : Option Nat} {ro : Bool} {fz : Option (Nat × Nat)} {E : Env} {l : List Sc} {k : Tup Sc.T l → Prop} (hi : L[i]? = some (b, .cells cs more ro fz)) (ht : ldAgg E t l.length = true) (x : Tup Sc.T l)
    (hv : decs Sc.dec l ((cs.drop o).take l.length) = some x) (hk : k x) : evV (.one (.agg l)) (loadV E S t (.pointer (some ⟨b, o, none⟩))) k := h.h.lda i hi ht x hv hk
theorem Cx.st (h : Cx W S0 S L O P) (i : Nat) {b o t : Nat} (n : Nat) {cs cs' : List Value} {more : Option Nat} {E : Env} {v : Value} {k : St → Prop} (hi : L[i]? = some (b, .cells cs more false none)) (ht : stOk E t n = true) (hn : (cellsOf v).length = n) (ho : o + n ≤ cs.length)
    (hone : (cellsOf v).all St.one = true) (hcs : cs.take o ++ (cellsOf v ++ cs.drop (o + n)) = cs') (hk : ∀ S', Cx W S0 S' (L.set i (b, .cells cs' more false none)) O P → S'.next = S.next → k S') : evS (storeV E S t (.pointer (some ⟨b, o, none⟩)) v) k := by
  subst hcs
  exact ⟨_, store_cells (h.at i hi) ht hn ho hone, hk _ (h.set i hi upd_mod (upd_at (h.at i hi))) rfl⟩
theorem Cx.upd (h : Cx W S0 S L O P) (i : Nat) {b : Nat} {o o' : DObj} {k : St → Prop} (hi : L[i]? = some (b, o)) (hk : ∀ S', Cx W S0 S' (L.set i (b, o')) O P → S'.next = S.next → k S') : updW S b o' k :=
  updW_of (h.at i hi).lt fun S' ha e hn => hk S' (h.set i hi e ha) hn
theorem Cx.has (h : Cx W S0 S L O P) (i : Nat) {b : Nat} {o : DObj} {K : Prop} (hi : L[i]? = some (b, o)) (hk : K) : hasW S b o K := ⟨(h.at i hi).get, hk⟩
theorem Cx.record (h : Cx W S0 S L O P) {o : DObj} : Cx W S0 (S.alloc o).2 ((S.next, o) :: L) O P :=
  ⟨h.h.record, fun c hc => Nat.lt_of_lt_of_le (h.lt c hc) (alloc_ext (o := o)).next, fun p hp => by
    rcases List.mem_cons.1 hp with rfl | hp
    · intro hc; have := h.lt _ hc; simp only at this; omega
    · exact h.sep p hp, h.fr _ _ _ (alloc_ext (o := o)).kp (fun _ _ h => h) h.p, h.fr⟩
/-- The first boxes are forgotten. -/
theorem Cx.tl (h : Cx W S0 S L O P) (n : Nat) : Cx W S0 S (L.drop n) O P :=
  ⟨⟨h.mod, fun q hq => h.h.all q (List.mem_of_mem_drop hq), by rw [List.map_drop]; exact h.h.dis.sublist (List.drop_sublist _ _)⟩, h.lt, fun q hq => h.sep q (List.mem_of_mem_drop hq), h.p, h.fr⟩
/-- A step that writes P's own blocks alone, and makes P' of it. -/
theorem Cx.op (h : Cx W S0 S L O P) {S' : St} {F O' : Nat → Prop} {P' : St → Prop} (e : Mod F S S') (hF : ∀ c, F c → O c) (hW : ∀ c, F c → c < S0.next → W c) (hP : P' S') (fr : Frm O' P') (hO : ∀ c, O' c → O c ∨ S.next ≤ c) (hlt : ∀ c, O' c → c < S'.next) : Cx W S0 S' L O' P' :=
  ⟨h.h.step e fun b hb hl => ⟨by
      by_cases hlt : b < S0.next
      · exact .inr (hW b hb hlt)
      · exact .inl (by omega), fun p hp e => h.sep p hp (e ▸ hF b hb)⟩, hlt, fun p hp hc => by
    rcases hO _ hc with hc | hc
    · exact h.sep p hp hc
    · have := (h.h.all p hp).1.lt; omega, hP, fr⟩
/-- The fact is put in other words. -/
theorem Cx.as (h : Cx W S0 S L O P) {O' : Nat → Prop} {P' : St → Prop} (hP : P' S) (fr : Frm O' P') (hO : ∀ c, O' c → O c) : Cx W S0 S L O' P' :=
  ⟨h.h, fun c hc => h.lt c (hO c hc), fun p hp hc => h.sep p hp (hO _ hc), hP, fr⟩
theorem Cx.low (h : Cx W S0 S L O P) {S' : St} (h1 : S'.heap = S.heap) (h2 : S'.next = S.next) (h3 : ∀ lim, lim ≤ S0.low → lim ≤ S0.next → (∀ b, W b → lim ≤ b) → lim ≤ S'.low) : Cx W S0 S' L O P :=
  ⟨h.h.setLow h1 h2 h3, fun c hc => by rw [h2]; exact h.lt c hc, h.sep, h.fr noB S S' (kp_same h1 h2) (fun _ _ h => h) h.p, h.fr⟩
/-- A quiet operation begins .. -/
theorem Cx.quiet (h : Cx W S0 S L O P) {k : St → Prop} (hk : ∀ S', Cx W S0 S' L O P → Ext S S' → S'.next = S.next → S'.low = S.next → k S') : setLowW S S.next k :=
  setLowW_of fun S' h1 h2 h3 => hk S' (h.low h1 h2 fun lim _ hl _ => by have := h.mod.next; omega) ⟨by omega, fun b _ _ => by rw [h1], fun lim _ hl _ => by omega⟩ h2 h3
/-- .. and ends. -/
theorem Cx.loud (h : Cx W S0 S L O P) {S2 : St} {L' : List (Nat × DObj)} {O' : Nat → Prop} {P' : St → Prop} (h' : Cx W S0 S2 L' O' P') {lim : Nat} (hlim : S.next ≤ lim) {k : St → Prop} (hk : ∀ S', Cx W S0 S' L' O' P' → S'.heap = S2.heap → S'.next = S2.next → k S') : setLowW S2 (Nat.min S.low lim) k :=
  setLowW_of fun S' h1 h2 h3 => hk S' (h'.low h1 h2 fun l hl hn hf => by
    have a := h.mod.low l hl hn hf
    have b := h.mod.next
    have c : S'.low = min S.low lim := h3
    omega) h1 h2
theorem Cx.quiet' (h : Cx W S0 S L O P) {lim : Nat} (hlim : S0.next ≤ lim) {k : St → Prop} (hk : ∀ S', Cx W S0 S' L O P → S'.heap = S.heap → S'.next = S.next → S'.low = lim → k S') : setLowW S lim k :=
  setLowW_of fun S' h1 h2 h3 => hk S' (h.low h1 h2 fun l _ hl _ => by omega) h1 h2 h3
theorem Cx.loud' (h : Cx W S0 S L O P) {S2 : St} {L' : List (Nat × DObj)} {O' : Nat → Prop} {P' : St → Prop} (h' : Cx W S0 S2 L' O' P') {lim : Nat} (hlim : S0.next ≤ lim) {k : St → Prop} (hk : ∀ S', Cx W S0 S' L' O' P' → S'.heap = S2.heap → S'.next = S2.next → k S') : setLowW S2 (Nat.min S.low lim) k :=
  setLowW_of fun S' h1 h2 h3 => hk S' (h'.low h1 h2 fun l hl hn hf => by
    have a := h.mod.low l hl hn hf
    have c : S'.low = min S.low lim := h3
    omega) h1 h2
end
end
end Go.Proofs.Ytcdignblakejoaa.D

/-
  D, part 33: arguments that are slices, with what is known of where they stand; single cells of structs.
-/
namespace Go.Proofs.Ytcdignblakejoaa.D
open Go.ChangeShapes Go.WideShapes Go.ChangeAt Go.RowKit
noncomputable section
set_option linter.unusedVariables false
set_option linter.unusedSimpArgs false

theorem at_take {cs : List Value} {o n j : Nat} {vs : List Value} (h : (cs.drop o).take n = vs) (hj : j < n) : cs[o + j]? = vs[j]? := by
  rw [← h, List.getElem?_take, if_pos hj, List.getElem?_drop]
section
variable {H : Type} {enc : TypeId × Value → H} {P : Program} {W : World} {base : Nat} {spare : Nat → Bool} {held : Bool} {E : Env}
/-- A slice that was read. -/
theorem trod_slX {α : Type} {f : α → List Value} {sz : Nat} {Wf : α → Prop} (hf : ∀ x, (f x).length = sz) (hsz : 0 < sz) {t e : TypeId} (hu : P.underlying t = some (.slice e)) (hce : P.cellsOf e = sz)
    (hel : ∀ fuel cs r, DataW.trod enc P W base spare held fuel e cs = some r → cs.length = sz → ∃ x, Wf x ∧ cs.map (nv (argN E W)) = f x) (hsp : ∀ b, spare b = true)
    {fuel : Nat} {v : Value} {d : DataW H} {ps : List MemPlace} (h : DataW.trod enc P W base spare held fuel t [v] = some (d, ps)) :
    ∃ s l, nv (argN E W) v = .slice s.a s.len s.cap ∧ SlOf f sz (argS E W) s l ∧ (∀ x ∈ l, Wf x) ∧ s.len ≤ s.cap ∧ s.cap < inex ∧ ∀ a, s.a = some a → a.spot = none := by
  cases fuel with
  | zero => cases h
  | succ fuel =>
    unfold DataW.trod at h
    rw [hu] at h
    split at h <;> first | (cases (‹some (TypeDesc.slice e) = some _›); done) | (cases h; done) | skip
    · rename_i he hv
      cases hv
      exact ⟨⟨none, 0, 0⟩, [], by unfold nv; rfl, ⟨rfl, fun h => (h rfl).elim⟩, by simp, Nat.le_refl _, by decide, fun a h => by cases h⟩
    · rename_i e' a len cap he hv
      cases he
      cases hv
      split at h
      · rename_i hc
        obtain ⟨hc1, hc2, hc3⟩ := hc
        rw [hce] at h
        rw [Option.bind_eq_some_iff] at h
        obtain ⟨elems, h1, h⟩ := h
        rw [Option.map_eq_some_iff] at h
        obtain ⟨rest, h2, _⟩ := h
        rw [hsp, if_pos rfl] at h2
        obtain ⟨g1, g2⟩ := mapM_range h1
        obtain ⟨g3, g4⟩ := mapM_range h2
        have hcap : cap < inex := by
          have : cap ≤ 2 ^ 63 - 1 := hc3
          unfold inex
          omega
        by_cases h0 : cap = 0
        · subst h0
          have : len = 0 := by omega
          subst this
          exact ⟨⟨some ⟨0, 0, none⟩, 0, 0⟩, [], by unfold nv; rfl, ⟨rfl, fun h => (h rfl).elim⟩, by simp, Nat.le_refl _, by decide, fun a h => by cases h; rfl⟩
        · -- the first cell is read: the address is one
          have hat : ∀ i, i < cap → ∃ cs r, W.cells? base (a.add (i * sz)) sz = some cs ∧ DataW.trod enc P W base spare held fuel e cs = some r := by
            intro i hi
            by_cases hl : i < len
            · have := g2 i (by omega)
              rw [Option.bind_eq_some_iff] at this
              obtain ⟨cs, h5, h6⟩ := this
              exact ⟨cs, _, h5, h6⟩
            · have := g4 (i - len) (by omega)
              rw [Option.bind_eq_some_iff, show len + (i - len) = i by omega] at this
              obtain ⟨cs, h5, h6⟩ := this
              exact ⟨cs, _, h5, h6⟩
          obtain ⟨cs0, r0, h5, h6⟩ := hat 0 (by omega)
          obtain ⟨hs0, c, et, fr, hw, hA, _, _⟩ := cells_at (E := E) h5 hsz
          simp only [Nat.zero_mul, show a.add 0 = a by simp [Addr.add]] at hs0 hw hA
          obtain ⟨l, hl1, hl2⟩ := list_of (p := fun i x => Wf x ∧ ((c.toList.map (nv (argN E W))).drop (a.off + i * sz)).take sz = f x) (n := len) (fun i hi => by
            obtain ⟨cs, r, h7, h8⟩ := hat i (by omega)
            obtain ⟨_, c', et', fr', hw', hA', ht, hlen⟩ := cells_at (E := E) h7 hsz
            rw [add_off hs0] at hw' ht
            rw [hw] at hw'
            cases hw'
            obtain ⟨x, hx1, hx2⟩ := hel fuel cs r h8 hlen
            exact ⟨x, hx1, by rw [← hx2]; exact ht⟩)
          have hok : okA (argN E W) a = true := by
            have := hA.lt
            simp only [okA, hs0, Option.isNone_none, Bool.true_and]
            exact Nat.blt_eq.mpr this
          have ha : a = ⟨a.block, a.off, none⟩ := by
            obtain ⟨b, o, s⟩ := a
            simp at hs0
            rw [hs0]
          refine ⟨⟨some a, len, cap⟩, l, ?_, ⟨hl1.symm, fun _ => ⟨a.block, a.off, _, _, _, _, congrArg some ha, hA, take_flat (fun i hi => (hl2 i hi).2) hf⟩⟩, ?_, hc2, hcap, fun a' h => by cases h; exact hs0⟩
          · unfold nv
            have e1 : (Nat.beq len 0 && Nat.beq cap 0) = false := by
              rw [Bool.and_eq_false_iff]
              exact .inr (PM.beq_f h0)
            rw [e1, hok, Nat.ble_eq_true_of_le hc2, Nat.blt_eq.mpr hcap]
            rfl
          · intro x hx
            obtain ⟨i, hi, rfl⟩ := List.getElem_of_mem hx
            exact (hl2 i hi).1
      · cases h
end
section
variable {H : Type} {enc : TypeId × Value → H} {P : Program} {W : World} {base b0 : Nat} {spare : Nat → Bool} {held : Bool} {E : Env} {r : Reach}
theorem arg_slX {α : Type} {f : α → List Value} {sz : Nat} {Wf : α → Prop} (hf : ∀ x, (f x).length = sz) (hsz : 0 < sz) {t e : TypeId} (hu : P.underlying t = some (.slice e)) (hce : P.cellsOf e = sz)
    (hel : ∀ fuel cs r, DataW.trod enc P W base spare held fuel e cs = some r → cs.length = sz → ∃ x, Wf x ∧ cs.map (nv (argN E W)) = f x) (hsp : ∀ b, spare b = true)
    {v : Value} {d : DataW H} {ps : List MemPlace} (hok : Value.okWide P W r b0 t v) (h : DataW.Trod enc P W base spare held t v d ps) :
    ∃ s l, nv (argN E W) v = .slice s.a s.len s.cap ∧ SlOf f sz (argS E W) s l ∧ (∀ x ∈ l, Wf x) ∧ s.len ≤ s.cap ∧ s.cap < inex ∧ ∀ a, s.a = some a → a.spot = none := by
  obtain ⟨fuel, h⟩ := h
  rw [okWide_cell hu rfl hok] at h
  exact trod_slX hf hsz hu hce hel hsp h
end
end
end Go.Proofs.Ytcdignblakejoaa.D

/-
  D, part 34: a slice's elements appended to one that grows.
-/
namespace Go.Proofs.Ytcdignblakejoaa.D
noncomputable section
set_option linter.unusedVariables false
set_option linter.unusedSimpArgs false

theorem SlOf.first {α : Type} {f : α → List Value} {sz : Nat} (hf : ∀ x, (f x).length = sz) {S : St} {x : Sl} {vs : List α} (hv : SlOf f sz S x vs) (hsp : ∀ a, x.a = some a → a.spot = none) : firstD S sz vs.length (.slice x.a x.len x.cap) = some (vs.flatMap f) := by
  by_cases h0 : vs = []
  · subst h0
    have hl : x.len = 0 := hv.len
    rw [hl]
    cases ha : x.a with
    | none => simp only [firstD, List.length_nil, Nat.zero_mul]; rfl
    | some a =>
      obtain ⟨b, o, sp⟩ := a
      have := hsp _ ha
      cases sp with
      | none => simp only [firstD, List.length_nil, Nat.zero_mul]; rfl
      | some _ => cases this
  · obtain ⟨b, o, cs, more, ro, fz, ea, eat, ecs⟩ := hv.mem h0
    rw [ea]
    by_cases hz : vs.length * sz = 0
    · have h1 : vs.flatMap f = [] := List.length_eq_zero_iff.1 (by rw [flat_len hf]; exact hz)
      simp only [firstD, hz, h1, Nat.beq_refl, cond_true]
    · have g0 : Nat.beq (vs.length * sz) 0 = false := Bool.eq_false_iff.2 fun hh => hz (Nat.eq_of_beq_eq_true hh)
      simp only [firstD, g0, cond_false, St.loadN, eat.get, ecs, flat_len hf, Nat.beq_refl, cond_true]
theorem GrX.appendS {α : Type} {f : α → List Value} {sz N : Nat} {E : Env} {S : St} {s x : Sl} {l vs : List α} (hf : ∀ x, (f x).length = sz) (hsz : 0 < sz) (h : GrX f sz N S s l) (hv : SlOf f sz S x vs) (hsp : ∀ a, x.a = some a → a.spot = none) {st xt e : Nat} {d : DInfo} {xd : TypeDesc} {z : Value}
    (hst : E.und st = some (.slice e)) (he : E.inf e = some d) (hxt : E.und xt = some xd) (hxd : (apK xd && tagOk E e sz) = true) (hds : d.size = sz) (hz : d.zero = some z) (hzl : (cellsOf z).length = sz) (hone : (vs.flatMap f).all St.one = true)
    (hb : (l.length + vs.length) * d.bytes ≤ 17592186044416) (hb2 : l.length + vs.length ≤ 17592186044416) (hb3 : (l.length + vs.length) * sz < inex)
    {k : Sl → St → Prop} (hk : ∀ s' S', GrX f sz N S' s' (l ++ vs) → Mod (fun b => N ≤ b ∧ s.a = some ⟨b, 0, none⟩) S S' → (s'.a = s.a ∨ ∃ b, s'.a = some ⟨b, 0, none⟩ ∧ S.next ≤ b) → k s' S') (hN : N ≤ S.next) :
    evP tS (appendD E S st xt (.slice s.a s.len s.cap) (.slice x.a x.len x.cap)) k := by
  have hx := hv.first hf hsp
  have hl := hv.len
  have tOk := tOk_of hxd
  by_cases h0 : vs = []
  · subst h0
    have hg : GrX f sz N S s (l ++ []) := by rw [List.append_nil]; exact h
    have hlen := h.len
    refine ⟨s, S, ?_, hk s S hg (Mod.refl _ _) (.inl rfl)⟩
    have g1 : Nat.beq (cellsOf z).length sz = true := by rw [hzl, Nat.beq_refl]
    have g2 : Nat.blt 0 sz = true := by simpa [Nat.blt] using Nat.ble_eq_true_of_le hsz
    have g3 : Nat.beq ([] : List Value).length (0 * sz) = true := by simp [Nat.beq_refl]
    have g4 : Nat.ble ((s.len + 0) * d.bytes) 17592186044416 = true := Nat.ble_eq_true_of_le (by rw [hlen]; simpa using hb)
    have g5 : Nat.ble (s.len + 0) 17592186044416 = true := Nat.ble_eq_true_of_le (by rw [hlen]; simpa using hb2)
    have hl0 : x.len = 0 := hl
    rw [hl0] at hx ⊢
    have hx' : firstD S sz 0 (.slice x.a 0 x.cap) = some [] := hx
    rcases h with ⟨_, rfl⟩ | ⟨b, rest, hbN, rfl, hat, hlt⟩
    · simp only [appendD, hst, he, hxt, tOk.1, tOk.2.1, tOk.2.2.1, tOk.2.2.2, Bool.true_or, Bool.true_and, cond_true, hz, Option.bind_some, lenOfD, hds, hx', g1, g2, g3, g4, g5, Bool.and_true, Nat.beq_refl, TT.enc, Ty.enc, Sc.enc]
    · simp only [appendD, hst, he, hxt, tOk.1, tOk.2.1, tOk.2.2.1, tOk.2.2.2, Bool.true_or, Bool.true_and, cond_true, hz, Option.bind_some, lenOfD, hds, hx', g1, g2, g3, g4, g5, Bool.and_true, Nat.beq_refl, TT.enc, Ty.enc, Sc.enc]
  · exact GrX.append hf hsz h hst he hxt hxd hds hz hzl (by simp only [lenOfD, hl]) hx hone hb hb2 h0 hb3 hk hN
/-- Where a slice's elements stand. -/
def SlB {α : Type} (x : Sl) (l : List α) (c : Nat) : Prop := l ≠ [] ∧ ∃ o, x.a = some ⟨c, o, none⟩
theorem Frm.sl {α : Type} {f : α → List Value} {sz : Nat} {x : Sl} {l : List α} : Frm (SlB x l) (fun S => SlOf f sz S x l) :=
  fun F S S' m hF h => m.slOf h fun hl b o e _ => hF b ⟨hl, o, e⟩
theorem SlOf.lt {α : Type} {f : α → List Value} {sz : Nat} {S : St} {x : Sl} {l : List α} (h : SlOf f sz S x l) {c : Nat} (hc : SlB x l c) : c < S.next := by
  obtain ⟨hl, o, e⟩ := hc
  obtain ⟨b, o', cs, more, ro, fz, e', ha, _⟩ := h.mem hl
  rw [e] at e'; cases e'
  exact ha.lt
end
end Go.Proofs.Ytcdignblakejoaa.D
