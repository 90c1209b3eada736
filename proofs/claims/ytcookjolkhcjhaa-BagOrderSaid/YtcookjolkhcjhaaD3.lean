/-
  D, part 3: the relation between the abstract heap and the model's, and the steps that keep it.
-/
import Derived.Test.YtcookjolkhcjhaaD2
namespace Go.Proofs.Ytcookjolkhcjhaa.D

/-! ### Entries of a map, the record of a loop -/
structure ER (m : Mp) (e e' : MapEntry) : Prop where
  key : VR m e.key e'.key
  val : VR m e.val e'.val
  born : e.born = e'.born
inductive ERs (m : Mp) : List MapEntry → List MapEntry → Prop
  | nil : ERs m [] []
  | cons {e e' : MapEntry} {l l' : List MapEntry} : ER m e e' → ERs m l l' → ERs m (e :: l) (e' :: l')
theorem ER.mono {m m' : Mp} (h : m.le m') {e e' : MapEntry} (r : ER m e e') : ER m' e e' := ⟨r.key.mono h, r.val.mono h, r.born⟩
namespace ERs
variable {m m' : Mp}
theorem mono (h : m.le m') {l l' : List MapEntry} (r : ERs m l l') : ERs m' l l' := by
  induction r with
  | nil => exact .nil
  | cons h1 _ ih => exact .cons (h1.mono h) ih
theorem length {l l' : List MapEntry} (r : ERs m l l') : l.length = l'.length := by
  induction r with
  | nil => rfl
  | cons _ _ ih => simp [ih]
theorem snoc {l l' : List MapEntry} (r : ERs m l l') {e e' : MapEntry} (h : ER m e e') : ERs m (l ++ [e]) (l' ++ [e']) := by
  induction r with
  | nil => exact .cons h .nil
  | cons h1 _ ih => exact .cons h1 ih
theorem modify {l l' : List MapEntry} (r : ERs m l l') {f f' : MapEntry → MapEntry} (hf : ∀ e e', ER m e e' → ER m (f e) (f' e')) : ∀ i, ERs m (l.modify i f) (l'.modify i f') := by
  induction r with
  | nil => intro i; cases i <;> simp <;> exact .nil
  | cons h1 h2 ih =>
    intro i; cases i with
    | zero => simp; exact .cons (hf _ _ h1) h2
    | succ i => simp; exact .cons h1 (ih i)
theorem erase {l l' : List MapEntry} (r : ERs m l l') : ∀ i, ERs m (l.eraseIdx i) (l'.eraseIdx i) := by
  induction r with
  | nil => intro i; simp; exact .nil
  | cons h1 h2 ih =>
    intro i; cases i with
    | zero => simp; exact h2
    | succ i => simp; exact .cons h1 (ih i)
theorem get {l l' : List MapEntry} (r : ERs m l l') : ∀ {i : Nat} {e : MapEntry}, l[i]? = some e → ∃ e', l'[i]? = some e' ∧ ER m e e' := by
  induction r with
  | nil => intro i e h; simp at h
  | cons h1 _ ih =>
    intro i e h
    cases i with
    | zero => simp at h; subst h; exact ⟨_, by simp, h1⟩
    | succ i => simp at h; obtain ⟨e', h', hr⟩ := ih h; exact ⟨e', by simpa using h', hr⟩
end ERs

/-- Temporaries. -/
structure TR (m : Mp) (regs : PM Value) (n : Nat) (tmps : Array Value) : Prop where
  size : tmps.size = n
  reg : ∀ t, VR m ((regs.get t).getD undef) (tmps.getD t undef)
theorem TR.mono {m m' : Mp} (h : m.le m') {regs : PM Value} {n : Nat} {tmps : Array Value} (r : TR m regs n tmps) : TR m' regs n tmps := ⟨r.size, fun t => (r.reg t).mono h⟩
theorem TR.set {m : Mp} {regs : PM Value} {n : Nat} {tmps : Array Value} (r : TR m regs n tmps) {d : Nat} (hd : d < n) {v v' : Value} (hv : VR m v v') :
    TR m (regs.set d v) n (tmps.setIfInBounds d v') := by
  refine ⟨by simp [r.size], fun t => ?_⟩
  rw [PM.get_set]
  by_cases h : t = d
  · subst h
    rw [if_pos rfl]
    have : t < tmps.size := by rw [r.size]; exact hd
    simpa [Array.getD_eq_getD_getElem?, this] using hv
  · rw [if_neg h]
    have := r.reg t
    simpa [Array.getD_eq_getD_getElem?, Array.getElem?_setIfInBounds_ne (Ne.symm h)] using this

structure LR (m : Mp) (r : DLoop) (r' : Loop) : Prop where
  state : r'.state = r.state
  pending : r'.pending = r.pending
  tmps : TR m r.regs r.n r'.tmps
  params : r'.params = r.params
  assign : r'.assign = r.assign
  body : r'.body = r.body
  dfr : ∃ x, m r.dfr = some x ∧ x.blk = r'.defers
theorem LR.mono {m m' : Mp} (h : m.le m') {r : DLoop} {r' : Loop} (l : LR m r r') : LR m' r r' :=
  ⟨l.state, l.pending, l.tmps.mono h, l.params, l.assign, l.body, let ⟨x, h1, h2⟩ := l.dfr; ⟨x, h _ _ h1, h2⟩⟩

/-! ### The heap -/
def FZ (fz : Option (Nat × Nat)) (x : BM) (fr : Nat × Nat) : Prop :=
  match fz with
  | none => fr = (0, 0)
  | some p => ∀ i, fr.1 ≤ i → i < fr.2 → x.base ≤ i → i < x.tot → p.1 ≤ i - x.base ∧ i - x.base < p.2

def OR (m : Mp) (x : BM) (o : DObj) (c : Option Obj) : Prop :=
  match o with
  | .cells cs more _ fz => ∃ ccs e fr, c = some (.cells ccs e fr) ∧ ccs.size = x.tot ∧ x.base + cs.length ≤ x.tot ∧
      VRs m cs ((ccs.toList.drop x.base).take cs.length) ∧ FZ fz x fr ∧ ∀ s, more = some s → x.sz = s
  | .map es clock => ∃ ces, c = some (.map ces clock) ∧ ERs m es ces.toList
  | .loop r => ∃ r', c = some (.loop r') ∧ LR m r r'
  | .deferred => c = some (.deferred (some []))
  | .dead => True
theorem OR.mono {m m' : Mp} (h : m.le m') {x : BM} {o : DObj} {c : Option Obj} (r : OR m x o c) : OR m' x o c := by
  cases o with
  | cells cs more ro fz => obtain ⟨ccs, e, fr, h1, h2, h3, h4, h5⟩ := r; exact ⟨ccs, e, fr, h1, h2, h3, h4.mono h, h5⟩
  | map es clock => obtain ⟨ces, h1, h2⟩ := r; exact ⟨ces, h1, h2.mono h⟩
  | loop l => obtain ⟨r', h1, h2⟩ := r; exact ⟨r', h1, h2.mono h⟩
  | deferred => exact r
  | dead => trivial

structure HR (E : Env) (m : Mp) (S : St) (w : World) : Prop where
  dom : ∀ b x, m b = some x → b < S.next
  glob : ∀ g, g < E.globs → ∃ x, m g = some x ∧ x.blk = g ∧ x.base = 0
  obj : ∀ b o, S.heap.get b = some o → o.live = true → ∃ x, m b = some x ∧ OR m x o w.heap[x.blk]?
  inj : ∀ b b' o o' x x', S.heap.get b = some o → S.heap.get b' = some o' → o.live = true → o'.live = true → b ≠ b' → (o.wr = true ∨ o'.wr = true) →
    m b = some x → m b' = some x' → x.blk ≠ x'.blk

/-- The blocks that the run may write. -/
def Own (m : Mp) (S : St) (c : Nat) : Prop := ∃ b o x, S.heap.get b = some o ∧ o.wr = true ∧ m b = some x ∧ x.blk = c

structure Fr (m : Mp) (S : St) (w : World) (m' : Mp) (S' : St) (w' : World) : Prop where
  le : m.le m'
  size : w.heap.size ≤ w'.heap.size
  os : w'.os = w.os
  tape : w'.tape = w.tape
  output : w'.output = w.output
  keep : ∀ c, c < w.heap.size → ¬ Own m S c → w'.heap[c]? = w.heap[c]?
  own : ∀ c, c < w.heap.size → Own m' S' c → Own m S c
theorem Fr.refl (m : Mp) (S : St) (w : World) : Fr m S w m S w := ⟨Mp.le_refl m, Nat.le_refl _, rfl, rfl, rfl, fun _ _ _ => rfl, fun _ _ h => h⟩
theorem Fr.trans {m m' m'' : Mp} {S S' S'' : St} {w w' w'' : World} (h : Fr m S w m' S' w') (k : Fr m' S' w' m'' S'' w'') : Fr m S w m'' S'' w'' :=
  ⟨Mp.le_trans h.le k.le, Nat.le_trans h.size k.size, k.os.trans h.os, k.tape.trans h.tape, k.output.trans h.output,
   fun c hc hn => (k.keep c (Nat.lt_of_lt_of_le hc h.size) fun ho => hn (h.own c hc ho)).trans (h.keep c hc hn),
   fun c hc ho => h.own c hc (k.own c (Nat.lt_of_lt_of_le hc h.size) ho)⟩

section
variable {E : Env} {m : Mp} {S : St} {w : World}

theorem DObj.live_of_wr {o : DObj} (h : o.wr = true) : o.live = true := by cases o <;> simp_all [DObj.wr, DObj.live]

/-- Only the heap counts. -/
theorem HR.of_heap {w' : World} (h : HR E m S w) (e : w'.heap = w.heap) : HR E m S w' := ⟨h.dom, h.glob, by rw [e]; exact h.obj, h.inj⟩
theorem HR.drew (h : HR E m S w) : HR E m S w.drew := h.of_heap rfl
theorem Fr.of_heap {w' : World} (e : w'.heap = w.heap) (h1 : w'.os = w.os) (h2 : w'.tape = w.tape) (h3 : w'.output = w.output) : Fr m S w m S w' :=
  ⟨Mp.le_refl m, by rw [e]; exact Nat.le_refl _, h1, h2, h3, fun _ _ _ => by rw [e], fun _ _ h => h⟩
theorem Fr.drew : Fr m S w m S w.drew := .of_heap rfl rfl rfl rfl

theorem HR.fresh (h : HR E m S w) : m S.next = none := by
  cases e : m S.next with
  | none => rfl
  | some x => exact absurd (h.dom _ _ e) (Nat.lt_irrefl _)

/-- A live block that is written lies in the model's heap. -/
theorem OR.lt {x : BM} {o : DObj} (hl : o.live = true) (h : OR m x o w.heap[x.blk]?) : x.blk < w.heap.size := by
  rcases Nat.lt_or_ge x.blk w.heap.size with hlt | hge
  · exact hlt
  · have e : w.heap[x.blk]? = none := Array.getElem?_eq_none hge
    rw [e] at h
    cases o with
    | cells cs more ro fz => obtain ⟨_, _, _, h1, _⟩ := h; cases h1
    | map es clock => obtain ⟨_, h1, _⟩ := h; cases h1
    | loop l => obtain ⟨_, h1, _⟩ := h; cases h1
    | deferred => cases h
    | dead => cases hl

/-- A new block. -/
theorem HR.alloc (h : HR E m S w) (o : DObj) (O : Obj) (x : BM) (hx : x.blk = w.heap.size) (ho : OR (m.put S.next x) x o (some O)) :
    HR E (m.put S.next x) (S.alloc o).2 (w.alloc O) ∧ Fr m S w (m.put S.next x) (S.alloc o).2 (w.alloc O) := by
  have hf := h.fresh
  have hle : m.le (m.put S.next x) := Mp.le_put hf
  have hold : ∀ c, c < w.heap.size → (w.alloc O).heap[c]? = w.heap[c]? := fun c hc => RowKit.Below.heap_alloc w O c hc
  have hnew : (w.alloc O).heap[w.heap.size]? = some O := World.alloc_heap_new w O
  have hback : ∀ b y, b ≠ S.next → m.put S.next x b = some y → m b = some y := fun b y hb e => by rwa [Mp.put_ne hb] at e
  have hm : ∀ b o', S.heap.get b = some o' → o'.live = true → b ≠ S.next := fun b o' hg hl e => by
    obtain ⟨y, hy, _⟩ := h.obj b o' hg hl
    rw [e, hf] at hy; cases hy
  refine ⟨⟨?_, ?_, ?_, ?_⟩, ⟨hle, by simp, rfl, rfl, rfl, fun c hc _ => hold c hc, ?_⟩⟩
  · intro b y e
    by_cases hb : b = S.next
    · subst hb; simp [St.alloc]
    · have := h.dom b y (hback b y hb e); simp [St.alloc]; omega
  · intro g hg
    obtain ⟨y, h1, h2⟩ := h.glob g hg
    exact ⟨y, hle _ _ h1, h2⟩
  · intro b o' hg hl
    simp only [St.alloc, PM.get_set] at hg
    by_cases hb : b = S.next
    · rw [if_pos hb] at hg; cases hg
      exact ⟨x, by rw [hb]; simp, by rw [hx, hnew]; exact ho⟩
    · rw [if_neg hb] at hg
      obtain ⟨y, h1, h2⟩ := h.obj b o' hg hl
      exact ⟨y, hle _ _ h1, by rw [hold _ (OR.lt hl h2)]; exact h2.mono hle⟩
  · intro b b' o1 o2 y y' hg hg' hl hl' hne hw e e'
    simp only [St.alloc, PM.get_set] at hg hg'
    by_cases hb : b = S.next
    · by_cases hb' : b' = S.next
      · exact absurd (hb.trans hb'.symm) hne
      · rw [if_neg hb'] at hg'
        obtain ⟨z, h1, h2⟩ := h.obj b' o2 hg' hl'
        have := OR.lt hl' h2
        rw [hb] at e; simp at e; subst e
        have e2 := hback b' y' hb' e'
        rw [h1] at e2; cases e2
        omega
    · rw [if_neg hb] at hg
      obtain ⟨z, h1, h2⟩ := h.obj b o1 hg hl
      have hlt := OR.lt hl h2
      have e2 := hback b y hb e
      by_cases hb' : b' = S.next
      · rw [hb'] at e'; simp at e'; subst e'
        rw [h1] at e2; cases e2
        omega
      · rw [if_neg hb'] at hg'
        exact h.inj b b' o1 o2 y y' hg hg' hl hl' hne hw e2 (hback b' y' hb' e')
  · rintro c hc ⟨b, o', y, hg, hw, e, rfl⟩
    simp only [St.alloc, PM.get_set] at hg
    by_cases hb : b = S.next
    · rw [hb] at e; simp at e; subst e; omega
    · rw [if_neg hb] at hg
      exact ⟨b, o', y, hg, hw, hback b y hb e, rfl⟩

/-- A block that may be written becomes another one; in the model's heap its block alone turns. -/
theorem HR.upd (h : HR E m S w) {b : Nat} {o o' : DObj} {x : BM} {w' : World} (hg : S.heap.get b = some o) (hw : o.wr = true) (hm : m b = some x)
    (ho : OR m x o' w'.heap[x.blk]?) (hsz : w'.heap.size = w.heap.size) (hk : ∀ c, c ≠ x.blk → w'.heap[c]? = w.heap[c]?)
    (h1 : w'.os = w.os) (h2 : w'.tape = w.tape) (h3 : w'.output = w.output) :
    HR E m (S.upd b o') w' ∧ Fr m S w m (S.upd b o') w' := by
  have hl := DObj.live_of_wr hw
  refine ⟨⟨h.dom, h.glob, ?_, ?_⟩, ⟨Mp.le_refl m, by omega, h1, h2, h3, ?_, ?_⟩⟩
  · intro c oc hc hlc
    simp only [St.upd, PM.get_set] at hc
    by_cases hcb : c = b
    · rw [if_pos hcb] at hc; cases hc; subst hcb
      exact ⟨x, hm, ho⟩
    · rw [if_neg hcb] at hc
      obtain ⟨y, hy1, hy2⟩ := h.obj c oc hc hlc
      have hne := h.inj c b oc o y x hc hg hlc hl hcb (.inr hw) hy1 hm
      exact ⟨y, hy1, by rw [hk _ hne]; exact hy2⟩
  · intro c c' oc oc' y y' hc hc' hlc hlc' hne hww e e'
    simp only [St.upd, PM.get_set] at hc hc'
    by_cases hcb : c = b
    · by_cases hcb' : c' = b
      · exact absurd (hcb.trans hcb'.symm) hne
      · rw [if_neg hcb'] at hc'
        subst hcb
        exact h.inj c c' o oc' y y' hg hc' hl hlc' hne (.inl hw) e e'
    · rw [if_neg hcb] at hc
      by_cases hcb' : c' = b
      · subst hcb'
        exact h.inj c c' oc o y y' hc hg hlc hl hne (.inr hw) e e'
      · rw [if_neg hcb'] at hc'
        exact h.inj c c' oc oc' y y' hc hc' hlc hlc' hne hww e e'
  · intro c _ hn
    exact hk c fun e => hn ⟨b, o, x, hg, hw, hm, e.symm⟩
  · rintro c _ ⟨c', oc, y, hc, hwc, e, rfl⟩
    simp only [St.upd, PM.get_set] at hc
    by_cases hcb : c' = b
    · subst hcb; exact ⟨c', o, y, hg, hw, e, rfl⟩
    · rw [if_neg hcb] at hc; exact ⟨c', oc, y, hc, hwc, e, rfl⟩

/-- A block is given up. -/
theorem HR.kill (h : HR E m S w) (b : Nat) : HR E m (S.upd b .dead) w ∧ Fr m S w m (S.upd b .dead) w := by
  refine ⟨⟨h.dom, h.glob, ?_, ?_⟩, ⟨Mp.le_refl m, Nat.le_refl _, rfl, rfl, rfl, fun _ _ _ => rfl, ?_⟩⟩
  · intro c oc hc hlc
    simp only [St.upd, PM.get_set] at hc
    by_cases hcb : c = b
    · rw [if_pos hcb] at hc; cases hc; cases hlc
    · rw [if_neg hcb] at hc; exact h.obj c oc hc hlc
  · intro c c' oc oc' y y' hc hc' hlc hlc' hne hww e e'
    simp only [St.upd, PM.get_set] at hc hc'
    by_cases hcb : c = b
    · rw [if_pos hcb] at hc; cases hc; cases hlc
    · rw [if_neg hcb] at hc
      by_cases hcb' : c' = b
      · rw [if_pos hcb'] at hc'; cases hc'; cases hlc'
      · rw [if_neg hcb'] at hc'
        exact h.inj c c' oc oc' y y' hc hc' hlc hlc' hne hww e e'
  · rintro c _ ⟨c', oc, y, hc, hwc, e, rfl⟩
    simp only [St.upd, PM.get_set] at hc
    by_cases hcb : c' = b
    · rw [if_pos hcb] at hc; cases hc; cases hwc
    · rw [if_neg hcb] at hc; exact ⟨c', oc, y, hc, hwc, e, rfl⟩

/-- A block is given up, and turns in the model's heap. -/
theorem HR.killW (h : HR E m S w) {b : Nat} {o : DObj} {x : BM} {w' : World} (hg : S.heap.get b = some o) (hw : o.wr = true) (hm : m b = some x)
    (hsz : w'.heap.size = w.heap.size) (hk : ∀ c, c ≠ x.blk → w'.heap[c]? = w.heap[c]?) (h1 : w'.os = w.os) (h2 : w'.tape = w.tape) (h3 : w'.output = w.output) :
    HR E m (S.upd b .dead) w' ∧ Fr m S w m (S.upd b .dead) w' := by
  have hl := DObj.live_of_wr hw
  refine ⟨⟨h.dom, h.glob, ?_, ?_⟩, ⟨Mp.le_refl m, by omega, h1, h2, h3, ?_, ?_⟩⟩
  · intro c oc hc hlc
    simp only [St.upd, PM.get_set] at hc
    by_cases hcb : c = b
    · rw [if_pos hcb] at hc; cases hc; cases hlc
    · rw [if_neg hcb] at hc
      obtain ⟨y, hy1, hy2⟩ := h.obj c oc hc hlc
      have hne := h.inj c b oc o y x hc hg hlc hl hcb (.inr hw) hy1 hm
      exact ⟨y, hy1, by rw [hk _ hne]; exact hy2⟩
  · intro c c' oc oc' y y' hc hc' hlc hlc' hne hww e e'
    simp only [St.upd, PM.get_set] at hc hc'
    by_cases hcb : c = b
    · rw [if_pos hcb] at hc; cases hc; cases hlc
    · rw [if_neg hcb] at hc
      by_cases hcb' : c' = b
      · rw [if_pos hcb'] at hc'; cases hc'; cases hlc'
      · rw [if_neg hcb'] at hc'
        exact h.inj c c' oc oc' y y' hc hc' hlc hlc' hne hww e e'
  · intro c _ hn
    exact hk c fun e => hn ⟨b, o, x, hg, hw, hm, e.symm⟩
  · rintro c _ ⟨c', oc, y, hc, hwc, e, rfl⟩
    simp only [St.upd, PM.get_set] at hc
    by_cases hcb : c' = b
    · rw [if_pos hcb] at hc; cases hc; cases hwc
    · rw [if_neg hcb] at hc; exact ⟨c', oc, y, hc, hwc, e, rfl⟩

/-- A block is given up, and another one takes its place in the model's heap. -/
theorem HR.move (h : HR E m S w) {b : Nat} {o o' : DObj} {x x' : BM} {w' : World} (hg : S.heap.get b = some o) (hw : o.wr = true) (hm : m b = some x)
    (hx : x'.blk = x.blk) (ho : OR (m.put S.next x') x' o' w'.heap[x.blk]?) (hsz : w'.heap.size = w.heap.size) (hk : ∀ c, c ≠ x.blk → w'.heap[c]? = w.heap[c]?)
    (h1 : w'.os = w.os) (h2 : w'.tape = w.tape) (h3 : w'.output = w.output) :
    HR E (m.put S.next x') ((S.upd b .dead).alloc o').2 w' ∧ Fr m S w (m.put S.next x') ((S.upd b .dead).alloc o').2 w' := by
  have hl := DObj.live_of_wr hw
  have hf := h.fresh
  have hle : m.le (m.put S.next x') := Mp.le_put hf
  have hbn : b ≠ S.next := fun e => by rw [e, hf] at hm; cases hm
  have hback : ∀ b y, b ≠ S.next → m.put S.next x' b = some y → m b = some y := fun b y hb e => by rwa [Mp.put_ne hb] at e
  have hget : ∀ c oc, ((S.upd b .dead).alloc o').2.heap.get c = some oc → oc.live = true → (c = S.next ∧ oc = o') ∨ (c ≠ S.next ∧ c ≠ b ∧ S.heap.get c = some oc) := by
    intro c oc hc hlc
    simp only [St.alloc, St.upd, PM.get_set] at hc
    by_cases h1 : c = S.next
    · rw [if_pos h1] at hc; cases hc; exact .inl ⟨h1, rfl⟩
    · rw [if_neg h1] at hc
      by_cases h2 : c = b
      · rw [if_pos h2] at hc; cases hc; cases hlc
      · rw [if_neg h2] at hc; exact .inr ⟨h1, h2, hc⟩
  refine ⟨⟨?_, ?_, ?_, ?_⟩, ⟨hle, by omega, h1, h2, h3, ?_, ?_⟩⟩
  · intro c y e
    show c < S.next + 1
    by_cases hb : c = S.next
    · omega
    · have := h.dom c y (hback c y hb e); omega
  · intro g hgl
    obtain ⟨y, h1, h2⟩ := h.glob g hgl
    exact ⟨y, hle _ _ h1, h2⟩
  · intro c oc hc hlc
    rcases hget c oc hc hlc with ⟨rfl, rfl⟩ | ⟨hn, hnb, hc⟩
    · exact ⟨x', by simp, by rw [hx]; exact ho⟩
    · obtain ⟨y, hy1, hy2⟩ := h.obj c oc hc hlc
      have hne := h.inj c b oc o y x hc hg hlc hl hnb (.inr hw) hy1 hm
      exact ⟨y, hle _ _ hy1, by rw [hk _ hne]; exact hy2.mono hle⟩
  · intro c c' oc oc' y y' hc hc' hlc hlc' hne hww e e'
    rcases hget c oc hc hlc with ⟨h5, h6⟩ | ⟨hn, hnb, hc0⟩
    · rcases hget c' oc' hc' hlc' with ⟨h5', h6'⟩ | ⟨hn', hnb', hc0'⟩
      · exact absurd (h5.trans h5'.symm) hne
      · rw [h5] at e; simp at e; subst e; rw [hx]
        exact fun e => h.inj c' b oc' o y' x hc0' hg hlc' hl hnb' (.inr hw) (hback _ _ hn' e') hm e.symm
    · rcases hget c' oc' hc' hlc' with ⟨h5', h6'⟩ | ⟨hn', hnb', hc0'⟩
      · rw [h5'] at e'; simp at e'; subst e'; rw [hx]
        exact h.inj c b oc o y x hc0 hg hlc hl hnb (.inr hw) (hback _ _ hn e) hm
      · exact h.inj c c' oc oc' y y' hc0 hc0' hlc hlc' hne hww (hback _ _ hn e) (hback _ _ hn' e')
  · intro c _ hn
    exact hk c fun e => hn ⟨b, o, x, hg, hw, hm, e.symm⟩
  · rintro c _ ⟨c', oc, y, hc, hwc, e, rfl⟩
    rcases hget c' oc hc (DObj.live_of_wr hwc) with ⟨rfl, rfl⟩ | ⟨hn, hnb, hc⟩
    · simp at e; subst e; exact ⟨b, o, x, hg, hw, hm, hx.symm⟩
    · exact ⟨c', oc, y, hc, hwc, hback _ _ hn e, rfl⟩
end

end Go.Proofs.Ytcookjolkhcjhaa.D
