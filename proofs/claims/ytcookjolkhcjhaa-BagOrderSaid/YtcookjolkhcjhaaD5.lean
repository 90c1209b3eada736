/-
  D, part 5: one operation of D, and the model's: memory, numbers, equality.
-/
import Derived.Test.YtcookjolkhcjhaaD4
import Derived.Laws.Strings
namespace Go.Proofs.Ytcookjolkhcjhaa.D
set_option linter.unusedSectionVars false

/-- Activations. -/
structure AR (E : Env) (m : Mp) (A : Ac) (a : Act) (round : Option Nat) : Prop where
  tmps : TR m A.regs A.n a.tmps
  defs : a.defers.length = A.defers.length ∧ ∀ (i d : Nat), A.defers[i]? = some d → ∃ x, m d = some x ∧ a.defers[i]? = some (⟨.collected x.blk, #[]⟩ : Deferred)
  rd : match A.rd with | none => round = none | some l => ∃ x, m l = some x ∧ round = some x.blk
theorem AR.mono {E : Env} {m m' : Mp} (h : m.le m') {A : Ac} {a : Act} {r : Option Nat} (k : AR E m A a r) : AR E m' A a r := by
  refine ⟨k.tmps.mono h, ⟨k.defs.1, fun i d e => let ⟨x, h1, h2⟩ := k.defs.2 i d e; ⟨x, h _ _ h1, h2⟩⟩, ?_⟩
  have := k.rd
  cases hr : A.rd with
  | none => rw [hr] at this; exact this
  | some l => rw [hr] at this; obtain ⟨x, h1, h2⟩ := this; exact ⟨x, h _ _ h1, h2⟩

theorem VR.undef {m : Mp} : VR m undef undef := .tup _ _ rfl (by simp)

section
variable {E : Env} {P : Program} {m : Mp} {S : St} {w : World} {A : Ac} {a : Act} {r : Option Nat} (hH : HR E m S w) (hA : AR E m A a r)
include hH hA
theorem eval_vr {x : Operand} {v : Value} (h : A.eval E x = some v) : VR m v (a.eval x) := by
  cases x with
  | tmp t => cases h; exact hA.tmps.reg t
  | const u => obtain ⟨h1, h2⟩ := cond_some h; cases h2; exact (plainB_sound h1).vr
  | global g =>
    obtain ⟨h1, h2⟩ := cond_some h; cases h2
    obtain ⟨x, h3, h4, h5⟩ := hH.glob g (Nat.blt_eq.mp h1)
    have := VR.ptr (m := m) g 0 x h3
    rw [h4, h5] at this; exact this
  | func f => cases h; exact .fn _ _ _ _ _ (by simp) rfl (by simp) rfl (by simp)
theorem evals_vr : ∀ {xs : List Operand} {vs : List Value}, A.evals E xs = some vs → VRs m vs (xs.map a.eval) := by
  intro xs
  induction xs with
  | nil => intro vs h; cases h; exact .nil
  | cons x xs ih =>
    intro vs h
    simp only [Ac.evals, Option.bind_eq_some_iff, Option.map_eq_some_iff] at h
    obtain ⟨v, h1, us, h2, rfl⟩ := h
    exact .cons (eval_vr hH hA h1) (ih h2)
end

theorem put_ar {E : Env} {m : Mp} {A A' : Ac} {a : Act} {r : Option Nat} (hA : AR E m A a r) {dst : Option Tmp} {v v' : Value} (h : A.put dst v = some A') (hv : VR m v v') : AR E m A' (a.put dst v') r := by
  cases dst with
  | none => cases h; exact hA
  | some d =>
    obtain ⟨h1, h2⟩ := cond_some h; cases h2
    exact ⟨hA.tmps.set (Nat.blt_eq.mp h1) hv, hA.defs, hA.rd⟩

theorem cells_vr {m : Mp} {v v' : Value} (h : VR m v v') : VRs m (cellsOf v) v'.cells.toList := by
  cases h
  case agg a a' h1 h2 => exact VRs.of_array h1 h2
  case junk h1 h2 h3 =>
    have e : v'.cells.toList = [v'] := by cases v' <;> first | rfl | exact (h1 _ rfl).elim
    rw [e]
    exact .cons (.junk _ h1 h2 h3) .nil
  all_goals (refine .cons ?_ .nil)
  case bool b => exact .bool b
  case int k n => exact .int k n
  case string s => exact .string s
  case nilp => exact .nilp
  case ptr b o x e => exact .ptr b o x e
  case nils => exact .nils
  case sl b o len cap x e h1 h2 => exact .sl b o len cap x e h1 h2
  case slx b o len cap x e h1 h2 => exact .slx b o len cap x e h1 h2
  case sle b o a x e h1 => exact .sle b o a x e h1
  case slz b o a => exact .slz b o a
  case nilm => exact .nilm
  case mp b x e => exact .mp b x e
  case fn f fs fs' cs cs' h1 h2 h3 h4 h5 => exact .fn f fs fs' cs cs' h1 h2 h3 h4 h5
  case yield l x e => exact .yield l x e
  case nilf => exact .nilf
  case iface t v v' h => exact .iface t v v' h
  case nili => exact .nili
  case tup a a' h1 h2 => exact .tup a a' h1 h2

def Sim (E : Env) (P : Program) (m : Mp) (S : St) (w : World) (s : Sem Next) : DN → Prop
  | .val v S' => ∃ v' m' w', s.run P w = .ok (.value v') w' ∧ VR m' v v' ∧ HR E m' S' w' ∧ Fr m S w m' S' w'
  | .skip S' => ∃ m' w', s.run P w = .ok .skip w' ∧ HR E m' S' w' ∧ Fr m S w m' S' w'
  | .enter f args S' => S' = S ∧ (Enterable P f → ∃ args', s.run P w = .ok (.enter f args') w ∧ VRs m args args'.toList)
  | .yield l args S' => S' = S ∧ ∃ x args', m l = some x ∧ s.run P w = (Instr.yield x.blk args').run P w ∧ VRs m args args'.toList

/-- An operation that hands back a value and leaves memory alone. -/
def SV (P : Program) (m : Mp) (w : World) (s : Sem Value) (v : Value) : Prop := ∃ v', s.run P w = .ok v' w ∧ VR m v v'
/-- An operation that hands back a value. -/
def SP (E : Env) (P : Program) (m : Mp) (S : St) (w : World) (s : Sem Value) (v : Value) (S' : St) : Prop :=
  ∃ v' m' w', s.run P w = .ok v' w' ∧ VR m' v v' ∧ HR E m' S' w' ∧ Fr m S w m' S' w'
def SU (E : Env) (P : Program) (m : Mp) (S : St) (w : World) (s : Sem Unit) (S' : St) : Prop :=
  ∃ m' w', s.run P w = .ok () w' ∧ HR E m' S' w' ∧ Fr m S w m' S' w'
theorem SV.sp {E : Env} {P : Program} {m : Mp} {S : St} {w : World} (hH : HR E m S w) {s : Sem Value} {v : Value} (h : SV P m w s v) : SP E P m S w s v S := by
  obtain ⟨v', h1, h2⟩ := h
  exact ⟨v', m, w, h1, h2, hH, .refl _ _ _⟩

theorem isReady_eq {s : LoopState} (h : isReady s = true) : s = .ready := by cases s <;> simp_all [isReady]

section
variable {E : Env} {P : Program} (hE : E.Ok P) {m : Mp} {S : St} {w : World} (hH : HR E m S w)
include hE hH

theorem loadVar_run {t : TypeId} {d : DInfo} (hd : E.inf t = some d) {b o : Nat} {u : Value}
    (h : cond (aggD d.und) ((S.loadN b o d.size).map fun l => .agg l.toArray) (S.load1 b o) = some u) :
    ∃ x u', m b = some x ∧ (loadVar t ⟨x.blk, x.base + o, none⟩).run P w = .ok u' w ∧ VR m u u' := by
  cases ha : aggD d.und with
  | true =>
    rw [ha] at h
    simp only [cond_true, Option.map_eq_some_iff] at h
    obtain ⟨l, h1, rfl⟩ := h
    obtain ⟨x, l', h2, h3, h4⟩ := loadN_run (P := P) hH h1
    refine ⟨x, .agg l', h2, ?_, ?_⟩
    · simp only [loadVar, Sem.run_bind, run_isAgg hE hd w, ha, Result.andThen_ok, if_true, run_size hE hd w, h3, Sem.run_pure]
    · obtain ⟨h5, h6⟩ := VRs.array (a := l.toArray) (a' := l') (by simpa using h4)
      exact .agg _ _ h5 h6
  | false =>
    rw [ha] at h
    obtain ⟨x, v', h2, h3, h4⟩ := load1_run (P := P) hH h
    refine ⟨x, v', h2, ?_, h4⟩
    simp only [loadVar, Sem.run_bind, run_isAgg hE hd w, ha, Result.andThen_ok, Bool.false_eq_true, if_false, h3]

theorem loadV_sim {t : TypeId} {p p' u : Value} (h : loadV E S t p = some u) (hp : VR m p p') : SV P m w (Instr.loadAt t p') u := by
  unfold loadV at h
  split at h
  · rename_i b o
    split at h
    · rename_i d hd
      obtain ⟨x, u', h1, h2, h3⟩ := loadVar_run hE hH hd h
      cases hp with
      | ptr _ _ y hy =>
        rw [h1] at hy; cases hy
        exact ⟨u', by simp only [Instr.loadAt, Instr.sureAddr, Sem.run_bind, Sem.run_pure, Result.andThen_ok, h2], h3⟩
    · cases h
  · cases h

theorem storeV_sim {t : TypeId} {p p' v v' : Value} {S' : St} (h : storeV E S t p v = some S') (hp : VR m p p') (hv : VR m v v') : SU E P m S w (Instr.storeAt t p' v') S' := by
  unfold storeV at h
  split at h
  · rename_i b o
    split at h
    · rename_i d hd
      obtain ⟨hl, h⟩ := cond_some h
      have hl := Nat.eq_of_beq_eq_true hl
      have hc := cells_vr hv
      obtain ⟨x, w', h1, h2, h3, h4⟩ := storeN_run (P := P) hH h hc
      cases hp with
      | ptr _ _ y hy =>
        rw [h1] at hy; cases hy
        have hs : v'.cells.size = d.size := by have := hc.length; simp at this; omega
        refine ⟨m, w', ?_, h3, h4⟩
        simp only [Instr.storeAt, Instr.sureAddr, storeVar, Sem.run_bind, Sem.run_pure, Result.andThen_ok, run_size hE hd w, hs, ne_eq, not_true, if_false, h2]
    · cases h
  · cases h

omit hE in
/-- A new row of cells, at its head. -/
theorem newCells_run {cs cs' : List Value} (hc : VRs m cs cs') (e : TypeId) :
    ∃ x, x.blk = w.heap.size ∧ x.base = 0 ∧ HR E (m.put S.next x) (S.alloc (.cells cs none false none)).2 (w.alloc (.cells cs'.toArray e)) ∧
      Fr m S w (m.put S.next x) (S.alloc (.cells cs none false none)).2 (w.alloc (.cells cs'.toArray e)) := by
  have hlen := hc.length
  let x : BM := ⟨w.heap.size, 0, cs'.length, 1⟩
  have hle : m.le (m.put S.next x) := Mp.le_put hH.fresh
  obtain ⟨h1, h2⟩ := HR.alloc hH (.cells cs none false none) (.cells cs'.toArray e) x rfl
    ⟨cs'.toArray, e, (0, 0), rfl, by simp [x], by simp [x, hlen], by
      have : List.take cs.length (List.drop x.base cs'.toArray.toList) = cs' := by simp [x, hlen]
      rw [this]; exact hc.mono hle, rfl, by simp⟩
  exact ⟨x, rfl, rfl, h1, h2⟩
omit hE in
/-- As 'newCells_run', for a row with spare cells behind it. -/
theorem newRow_run {cs cs' sp : List Value} (hc : VRs m cs cs') (e : TypeId) (sz : Nat) (fz : Option (Nat × Nat)) :
    ∃ x, x.blk = w.heap.size ∧ x.base = 0 ∧ x.tot = cs'.length + sp.length ∧ x.sz = sz ∧ HR E (m.put S.next x) (S.alloc (.cells cs (some sz) false fz)).2 (w.alloc (.cells (cs' ++ sp).toArray e)) ∧
      Fr m S w (m.put S.next x) (S.alloc (.cells cs (some sz) false fz)).2 (w.alloc (.cells (cs' ++ sp).toArray e)) := by
  have hlen := hc.length
  let x : BM := ⟨w.heap.size, 0, cs'.length + sp.length, sz⟩
  have hle : m.le (m.put S.next x) := Mp.le_put hH.fresh
  obtain ⟨h1, h2⟩ := HR.alloc hH (.cells cs (some sz) false fz) (.cells (cs' ++ sp).toArray e) x rfl
    ⟨(cs' ++ sp).toArray, e, (0, 0), rfl, by simp [x], by simp [x, hlen], by
      have : List.take cs.length (List.drop x.base (cs' ++ sp).toArray.toList) = cs' := by simp [x, hlen]
      rw [this]; exact hc.mono hle, by cases fz <;> simp [FZ], by intro s hs; cases hs; rfl⟩
  exact ⟨x, rfl, rfl, rfl, rfl, h1, h2⟩

theorem alloc_sim {t : TypeId} {z : Value} (h : E.zero t = some z) :
    SP E P m S w (Instr.alloc t true (.tuple #[])) (.pointer (some ⟨S.next, 0, none⟩)) (S.alloc (.cells (cellsOf z) none false none)).2 := by
  unfold Env.zero at h
  rw [Option.bind_eq_some_iff] at h
  obtain ⟨d, hd, hz⟩ := h
  have hc := cells_vr (zero_plain hE hd hz).vr (m := m)
  obtain ⟨x, h1, h2, h3, h4⟩ := newCells_run hH hc t
  refine ⟨.pointer (some ⟨w.heap.size, 0, none⟩), _, _, ?_, ?_, h3, h4⟩
  · simp [Instr.alloc, run_zero hE hd w hz, newVar, newRow, Result.andThen]
  · have := VR.ptr (m := m.put S.next x) S.next 0 x (by simp)
    rw [h1, h2] at this; exact this
theorem box_sim {t : TypeId} {v v' : Value} (hv : VR m v v') :
    SP E P m S w (Instr.box t v') (.pointer (some ⟨S.next, 0, none⟩)) (S.alloc (.cells (cellsOf v) none false none)).2 := by
  obtain ⟨x, h1, h2, h3, h4⟩ := newCells_run hH (cells_vr hv) t
  refine ⟨.pointer (some ⟨w.heap.size, 0, none⟩), _, _, ?_, ?_, h3, h4⟩
  · simp [Instr.box, newVar, newRow, Result.andThen]
  · have := VR.ptr (m := m.put S.next x) S.next 0 x (by simp)
    rw [h1, h2] at this; exact this
end

/-! ### Numbers, strings -/
theorem wrapD_eq (k : IntKind) (n : Int) : wrapD k n = k.wrap n := by
  unfold wrapD
  cases h : inRange k n with
  | false => rfl
  | true =>
    simp only [cond_true]
    cases k <;> simp only [inRange, Bool.and_eq_true, decide_eq_true_eq] at h <;> simp [IntKind.wrap, IntKind.bits, IntKind.signed] <;> omega
theorem kindEq_eq {k k' : IntKind} (h : kindEq k k' = true) : k = k' := by cases k <;> cases k' <;> simp_all [kindEq]

theorem beq_bytes (a b : ByteArray) : (a == b) = (a.data.toList == b.data.toList) := by
  cases a with | mk a => cases b with | mk b =>
  show (a == b) = (a.toList == b.toList)
  rw [Bool.eq_iff_iff]; simp
theorem toList_data (s : ByteArray) : s.toList = s.data.toList := ByteArray.toList_eq s


theorem intD_run {P : Program} {w : World} {t : TypeId} {op : BinOp} {k : IntKind} {a b : Int} {v : Value} (h : intD op k a b = some v) :
    (binOp op t (.int k a) (.int k b)).run P w = .ok v w ∧ Plain v := by
  cases op <;> simp only [intD, Option.some.injEq] at h
  case quo =>
    cases hb : decide (b = 0) with
    | true => rw [hb] at h; cases h
    | false =>
      rw [hb] at h; cases h
      simp only [decide_eq_false_iff_not] at hb
      exact ⟨by simp [binOp, Op.intDiv, hb, wrapD_eq], .int _ _⟩
  case rem =>
    cases hb : decide (b = 0) with
    | true => rw [hb] at h; cases h
    | false =>
      rw [hb] at h; cases h
      simp only [decide_eq_false_iff_not] at hb
      exact ⟨by simp [binOp, Op.intDiv, hb], .int _ _⟩
  case shl => cases h
  case shr => cases h
  all_goals subst h
  all_goals refine ⟨?_, by first | exact .int _ _ | exact .bool _⟩
  all_goals first
    | (simp [binOp, Op.intArith, wrapD_eq]; done)
    | (simp only [binOp, ne_eq, not_true, if_false, Op.intBits]; rfl)
    | (simp only [binOp, ne_eq, not_true, if_false, Op.intCmp]; rfl)
theorem shiftD_run {P : Program} {w : World} {t : TypeId} {l : Bool} {k k' : IntKind} {a b : Int} {v : Value} (h : shiftD l k a b = some v) :
    (binOp (if l then .shl else .shr) t (.int k a) (.int k' b)).run P w = .ok v w ∧ Plain v := by
  unfold shiftD at h
  cases hb : decide (b < 0) with
  | true => rw [hb] at h; cases h
  | false =>
    rw [hb] at h
    simp only [decide_eq_false_iff_not] at hb
    cases l with
    | true =>
      cases h
      exact ⟨by simp [binOp, Op.shift, hb, wrapD_eq], .int _ _⟩
    | false =>
      cases h
      exact ⟨by simp [binOp, Op.shift, hb], .int _ _⟩

theorem strD_run {P : Program} {w : World} {t : TypeId} {op : BinOp} {a b : ByteArray} {v : Value} (h : strD op a b = some v) :
    (binOp op t (.string a) (.string b)).run P w = .ok v w ∧ Plain v := by
  have ha := toList_data a
  have hb := toList_data b
  cases op <;> simp only [strD, Option.some.injEq] at h
  case add =>
    obtain ⟨h1, h2⟩ := cond_some h
    cases h2
    simp only [decide_eq_true_eq] at h1
    have h3 : ¬ (((a.size + b.size : Nat) : Int) > IntKind.i64.max) := by
      simp only [IntKind.max, IntKind.signed, IntKind.bits, ByteArray.size]
      simp at h1 ⊢; omega
    have h4 : (⟨(a.data.toList ++ b.data.toList).toArray⟩ : ByteArray) = a ++ b := by
      apply ByteArray.ext; apply Array.ext'; simp
    exact ⟨by rw [h4]; simp only [binOp, Op.stringOp, if_neg h3, Sem.run_pure], .string _⟩
  case sub => cases h
  case mul => cases h
  case quo => cases h
  case rem => cases h
  case and => cases h
  case or => cases h
  case xor => cases h
  case shl => cases h
  case shr => cases h
  case andNot => cases h
  all_goals (subst h; exact ⟨by simp [binOp, Op.stringOp, ha, hb, bytesLt], .bool _⟩)

theorem unD_run {P : Program} {w : World} {op : UnOp} {x v : Value} (h : unD op x = some v) : (Op.unary op x).run P w = .ok v w ∧ Plain v := by
  unfold unD at h
  split at h
  · cases op <;> simp only [Option.some.injEq] at h
    case neg => subst h; exact ⟨by simp [Op.unary, Op.intArith, wrapD_eq], .int _ _⟩
    case xor => subst h; exact ⟨by simp [Op.unary, Op.intBits], .int _ _⟩
    case not => cases h
    case plus => cases h
  · cases op <;> simp only [Option.some.injEq] at h
    case not => subst h; exact ⟨by simp [Op.unary], .bool _⟩
    all_goals cases h
  · cases h

/-! ### Equality -/
section
variable {E : Env} {P : Program} (hE : E.Ok P) {m : Mp} {S : St} {w : World} (hH : HR E m S w)
include hE

theorem partD_run {t : TypeId} {d : DInfo} (hd : E.inf t = some d) {cs : List Value} {cs' : Array Value} (hc : VRs m cs cs'.toList) {off : Nat} {v : Value} (h : partD d cs off = some v) :
    ∃ v', (part t cs' off).run P w = .ok v' w ∧ VR m v v' := by
  unfold partD at h
  cases ha : aggD d.und with
  | true =>
    rw [ha] at h
    obtain ⟨h1, h2⟩ := cond_some h
    have h1 := Nat.eq_of_beq_eq_true h1
    cases h2
    refine ⟨.agg (cs'.extract off (off + d.size)), ?_, ?_⟩
    · simp only [part, Sem.run_bind, run_isAgg hE hd w, ha, Result.andThen_ok, if_true, run_size hE hd w, Sem.run_pure]
    · have h3 := (hc.drop off).take d.size
      have h4 : VRs m ((cs.drop off).take d.size).toArray.toList (cs'.extract off (off + d.size)).toList := by
        simpa [Array.toList_extract, List.extract_eq_take_drop] using h3
      obtain ⟨h5, h6⟩ := h4.array
      exact .agg _ _ h5 h6
  | false =>
    rw [ha] at h
    obtain ⟨v', h1, h2⟩ := hc.get h
    refine ⟨v', ?_, h2⟩
    have : cs'[off]? = some v' := by simpa using h1
    simp only [part, Sem.run_bind, run_isAgg hE hd w, ha, Result.andThen_ok, Bool.false_eq_true, if_false, this, Sem.run_pure]

include hH
theorem clean_row {b : Nat} (h : clean S b = true) : ∃ x ccs e, m b = some x ∧ w.heap[x.blk]? = some (.cells ccs e (0, 0)) ∧ ∃ o, S.heap.get b = some o ∧ o.wr = true := by
  unfold clean at h
  split at h
  · rename_i cs more hg
    obtain ⟨x, ccs, e, fr, h1, h2, _, _, _, h3, _⟩ := hH.cells hg
    cases h3
    exact ⟨x, ccs, e, h1, h2, _, hg, rfl⟩
  · cases h

theorem sameAddr_run {b b' o o' : Nat} {x x' : BM} (hm : m b = some x) (hm' : m b' = some x') {r : Bool}
    (h : cond (Nat.beq b b') (some (Nat.beq o o')) (cond (clean S b && clean S b') (some false) none) = some r) :
    (sameAddr ⟨x.blk, x.base + o, none⟩ ⟨x'.blk, x'.base + o', none⟩).run P w = .ok r w := by
  cases hb : Nat.beq b b' with
  | true =>
    rw [hb] at h; cases h
    have e := Nat.eq_of_beq_eq_true hb
    subst e
    rw [hm] at hm'; cases hm'
    have e2 : ((⟨x.blk, x.base + o, none⟩ : Addr) == ⟨x.blk, x.base + o', none⟩) = Nat.beq o o' := by
      by_cases ho : o = o'
      · subst ho; simp
      · rw [PM.beq_f ho]; simpa using ho
    simp [sameAddr, e2]
  | false =>
    rw [hb] at h
    obtain ⟨h1, h2⟩ := cond_some h
    cases h2
    simp only [Bool.and_eq_true] at h1
    obtain ⟨y, ccs, e, h3, h4, oo, h5, h6⟩ := clean_row hE hH h1.1
    obtain ⟨y', ccs', e', h3', h4', oo', h5', h6'⟩ := clean_row hE hH h1.2
    rw [hm] at h3; cases h3
    rw [hm'] at h3'; cases h3'
    have hne : b ≠ b' := fun e => by subst e; simp at hb
    have hblk := hH.inj b b' oo oo' x x' h5 h5' (DObj.live_of_wr h6) (DObj.live_of_wr h6') hne (.inl h6) hm hm'
    have hbe : (x.blk == x'.blk) = false := by simpa using hblk
    have f1 : w.frozen? ⟨x.blk, x.base + o, none⟩ = false := by rw [frozen?_row h4]; simp
    have f2 : w.frozen? ⟨x'.blk, x'.base + o', none⟩ = false := by rw [frozen?_row h4']; simp
    have f3 : ∀ n, w.frozen? ⟨x.blk, n, none⟩ = false := fun n => by rw [frozen?_row h4]; simp
    have f4 : ∀ n, w.frozen? ⟨x'.blk, n, none⟩ = false := fun n => by rw [frozen?_row h4']; simp
    have s1 : w.shape? x.blk = some (e, ccs.size) := by simp [World.shape?, h4]
    have s2 : w.shape? x'.blk = some (e', ccs'.size) := by simp [World.shape?, h4']
    simp [sameAddr, hbe, f1, noView, viewAt, s1, s2, mayBeOne, stringish, f2, f3, f4, Result.andThen]

omit hH in
theorem fieldsEq_run {n dp : Nat} {xs ys : List Value} {xs' ys' : Array Value} (hx : VRs m xs xs'.toList) (hy : VRs m ys ys'.toList)
    (ih : ∀ (t : TypeId) (x y x' y' : Value) (r : Bool), eqD E S n t x y = some r → VR m x x' → VR m y y' → (Op.equalIn dp t x' y').run P w = .ok r w) :
    ∀ (fs : List Field) (r : Bool), (∀ f ∈ fs, f.name ≠ "_") → fieldsEq E (eqD E S n) xs ys fs = some r →
    (forIn (m := Sem) fs ((none, ()) : Option Bool × Unit) fun f __s =>
            if f.name ≠ "_" then do
              let __do_lift ← part f.type xs' f.offset
              let __do_lift_1 ← part f.type ys' f.offset
              let __do_lift ← Op.equalIn dp f.type __do_lift __do_lift_1
              if (!__do_lift) = true then pure (ForInStep.done (some false, ())) else pure (ForInStep.yield (none, ()))
            else pure (ForInStep.yield (none, ()))).run P w = .ok (if r then none else some false, ()) w := by
  intro fs
  induction fs with
  | nil => intro r _ h; cases h; simp
  | cons f fs ihf =>
    intro r hn h
    simp only [fieldsEq, Option.bind_eq_some_iff] at h
    obtain ⟨i, hi, x, h1, y, h2, e, h3, h4⟩ := h
    obtain ⟨x', h5, h6⟩ := partD_run hE (P := P) (w := w) hi hx h1
    obtain ⟨y', h7, h8⟩ := partD_run hE (P := P) (w := w) hi hy h2
    have h9 := ih _ _ _ _ _ _ h3 h6 h8
    rw [List.forIn_cons]
    simp only [hn f (by simp), ne_eq, not_false_eq_true, if_true, Sem.run_bind, h5, h7, h9, Result.andThen_ok]
    cases e with
    | false => simp only [cond_false, Option.some.injEq] at h4; subst h4; simp
    | true =>
      have := ihf r (fun g hg => hn g (by simp [hg])) h4
      simp at this ⊢
      exact this

theorem eqD_run : ∀ (n : Nat) (t : TypeId) (x y x' y' : Value) (r : Bool) (dp : Nat), eqD E S n t x y = some r → VR m x x' → VR m y y' → n ≤ dp →
    (Op.equalIn dp t x' y').run P w = .ok r w := by
  intro n
  induction n with
  | zero => intro t x y x' y' r dp h; cases h
  | succ n ih =>
    intro t x y x' y' r dp h hx hy hdp
    obtain ⟨dp, rfl⟩ : ∃ k, dp = k + 1 := ⟨dp - 1, by omega⟩
    unfold eqD at h
    split at h
    · cases h
    · rename_i d hd
      simp only [Op.equalIn, Sem.run_bind, run_und hE hd w, Result.andThen_ok]
      split at h
      all_goals (try (rename_i hu; rw [hu]))
      · cases h; cases hx; cases hy; rfl
      · obtain ⟨h1, h2⟩ := cond_some h; cases h2; cases hx; cases hy
        rw [kindEq_eq h1]; simp; rfl
      · cases h; cases hx; cases hy
        rename_i a b
        simp only [Sem.run_pure]
        congr 1
        exact beq_bytes a b
      · cases h; cases hx; cases hy; rfl
      · cases h; cases hx; cases hy; rfl
      · cases h; cases hx; cases hy; rfl
      · split at h
        · rename_i k hk
          unfold Env.size at hk
          rw [Option.map_eq_some_iff] at hk
          obtain ⟨de, hde, hsz⟩ := hk
          cases hx with
          | ptr _ _ x1 hm1 =>
            cases hy with
            | ptr _ _ x2 hm2 =>
              simp only [Sem.run_bind, run_size hE hde w, Result.andThen_ok, hsz]
              simp [sameAddr_run hE hH hm1 hm2 h]
        · cases h
      · cases h; cases hx; cases hy; rfl
      · cases h; cases hx; cases hy; rfl
      · cases h; cases hx; cases hy; rfl
      · rename_i tx vx ty vy
        cases hx with
        | iface _ _ vx' hvx =>
          cases hy with
          | iface _ _ vy' hvy =>
            cases hb : Nat.beq tx ty with
            | false =>
              rw [hb] at h; cases h
              have : tx ≠ ty := fun e => by subst e; simp at hb
              simp [this]
            | true =>
              rw [hb] at h
              have e := Nat.eq_of_beq_eq_true hb
              subst e
              simp only [cond_true] at h
              split at h
              · rename_i j hj
                obtain ⟨h1, h2⟩ := cond_some h
                obtain ⟨i, h3, _, _, _, h4⟩ := run_typeInfo hE hj w
                simp [h3, h4, h1, ih _ _ _ _ _ _ dp h2 hvx hvy (by omega)]
              · cases h
      · obtain ⟨h1, h2⟩ := cond_some h
        obtain ⟨_, _, hblank⟩ := hE.inf t d hd
        obtain ⟨hb1, hb2⟩ := hblank h1
        cases hx with
        | agg _ xs' hx1 hx2 =>
          cases hy with
          | agg _ ys' hy1 hy2 =>
            simp only [Sem.run_bind, run_program, Result.andThen_ok, hb1, Bool.false_eq_true, if_false]
            rw [← Array.forIn_toList, fieldsEq_run hE (VRs.of_array hx1 hx2) (VRs.of_array hy1 hy2) (fun t x y x' y' r g1 g2 g3 => ih t x y x' y' r dp g1 g2 g3 (by omega)) _ r (hb2 _ hu) h2]
            cases r <;> simp
      all_goals (first | (cases h; done) | (cases h; cases hx <;> cases hy <;> rfl))
end

end Go.Proofs.Ytcookjolkhcjhaa.D
