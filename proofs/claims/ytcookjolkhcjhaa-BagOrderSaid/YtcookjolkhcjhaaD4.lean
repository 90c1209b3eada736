/-
  D, part 4: the program's tables as D sees them; loads and stores, run.
-/
import Derived.Test.YtcookjolkhcjhaaD3
namespace Go.Proofs.Ytcookjolkhcjhaa.D

theorem cond_some {α : Type} {c : Bool} {x : Option α} {y : α} (h : cond c x none = some y) : c = true ∧ x = some y := by
  cases c with
  | false => cases h
  | true => exact ⟨rfl, h⟩

/-! ### The tables -/
/-- A function that a call may enter. -/
def Enterable (P : Program) (f : Nat) : Prop := ∃ fn, P.funcs[f]? = some fn ∧ fn.body.isNone = false ∧ (fn.name == "runtime.NumGoroutine") = false

structure InfOk (P : Program) (t : TypeId) (d : DInfo) : Prop where
  ex : ∃ i, P.info? t = some i ∧ P.underlying t = some d.und ∧ i.size = d.size ∧ i.bytes = d.bytes ∧ (∀ z, d.zero = some z → i.zero = some z ∧ Plain z) ∧ i.comparable = d.comparable
  eqg : P.eqGuardType P.depth t = d.eqg
  blank : d.noBlank = true → P.stoodInHeld t = false ∧ ∀ fs, d.und = .struct fs → ∀ f ∈ fs.toList, f.name ≠ "_"

structure Env.Ok (E : Env) (P : Program) : Prop where
  inf : ∀ t d, E.inf t = some d → InfOk P t d
  fn : ∀ f fn, E.fn f = some fn → P.funcs[f]? = some fn ∧ (fn.name == "runtime.NumGoroutine") = false

section
variable {E : Env} {P : Program} (hE : E.Ok P) {t : TypeId} {d : DInfo} (h : E.inf t = some d) (w : World)
include hE h
theorem run_typeInfo : ∃ i, (typeInfo t).run P w = .ok i w ∧ i.size = d.size ∧ i.bytes = d.bytes ∧ (∀ z, d.zero = some z → i.zero = some z ∧ Plain z) ∧ i.comparable = d.comparable := by
  obtain ⟨⟨i, h1, h2, h3⟩, _⟩ := hE.inf t d h
  exact ⟨i, by simp [typeInfo, h1], h3⟩
theorem run_und : (underlying t).run P w = .ok d.und w := by
  obtain ⟨⟨i, h1, h2, _⟩, _⟩ := hE.inf t d h
  simp [underlying, h2]
theorem run_size : (sizeOf t).run P w = .ok d.size w := by
  obtain ⟨i, h1, h2, _⟩ := run_typeInfo hE h w
  simp [sizeOf, h1, h2]
theorem run_zero {z : Value} (hz : d.zero = some z) : (zeroValue t).run P w = .ok z w := by
  obtain ⟨i, h1, _, _, h2, _⟩ := run_typeInfo hE h w
  simp [zeroValue, h1, (h2 z hz).1]
theorem zero_plain {z : Value} (hz : d.zero = some z) : Plain z := by
  obtain ⟨⟨i, _, _, _, _, h2, _⟩, _⟩ := hE.inf t d h
  exact (h2 z hz).2
theorem run_isAgg : (isAgg t).run P w = .ok (aggD d.und) w := by
  simp only [isAgg, Sem.run_bind, run_und hE h w, Result.andThen_ok]
  cases d.und <;> rfl
end

/-! ### Rows of the model's heap -/
def splice (l : List Value) (o : Nat) (vs : List Value) : List Value := l.take o ++ (vs ++ l.drop (o + vs.length))
@[simp] theorem splice_nil (l : List Value) (o : Nat) : splice l o [] = l := by simp [splice]
theorem splice_length {l : List Value} {o : Nat} {vs : List Value} (h : o + vs.length ≤ l.length) : (splice l o vs).length = l.length := by
  simp [splice]; omega
theorem splice_cons {l : List Value} {o : Nat} {v : Value} {vs : List Value} (h : o < l.length) : splice (l.set o v) (o + 1) vs = splice l o (v :: vs) := by
  unfold splice
  have h1 : (l.set o v).take (o + 1) = l.take o ++ [v] := by
    rw [List.take_succ_eq_append_getElem (by simpa using h), List.take_set, List.getElem_set_self]
    congr 1
    rw [List.set_eq_of_length_le (by simp; omega)]
  have h2 : (l.set o v).drop (o + 1 + vs.length) = l.drop (o + (v :: vs).length) := by
    rw [List.drop_set_of_lt (by omega)]
    congr 1; simp; omega
  rw [h1, h2]; simp

theorem setCell_putObj {w : World} {b o : Nat} {ccs : Array Value} {e : TypeId} {fr : Nat × Nat} (h : w.heap[b]? = some (.cells ccs e fr)) (v : Value) :
    w.setCell ⟨b, o, none⟩ v = w.putObj b (.cells (ccs.setIfInBounds o v) e fr) := by
  unfold World.setCell World.putObj
  congr 1
  apply Array.ext_getElem?
  intro i
  rw [Array.getElem?_modify, Array.getElem?_setIfInBounds]
  by_cases hi : b = i
  · subst hi
    rw [if_pos rfl, if_pos rfl, h]
    have : b < w.heap.size := (Array.getElem?_eq_some_iff.1 h).1
    simp [this]
  · rw [if_neg hi, if_neg hi]
theorem putObj_putObj (w : World) (b : Nat) (o o' : Obj) : (w.putObj b o).putObj b o' = w.putObj b o' := by
  unfold World.putObj
  simp

section
variable {P : Program} {w : World} {b : Nat} {ccs : Array Value} {e : TypeId} {fr : Nat × Nat} (h : w.heap[b]? = some (.cells ccs e fr))
include h
theorem cell?_row (o : Nat) : w.cell? ⟨b, o, none⟩ = ccs[o]? := by simp [World.cell?, h]
theorem frozen?_row (o : Nat) : w.frozen? ⟨b, o, none⟩ = (decide (fr.1 ≤ o) && decide (o < fr.2)) := by simp [World.frozen?, h]
theorem run_loadCellsFrom (o : Nat) : ∀ (n i : Nat) (acc : Array Value), o + i + n ≤ ccs.size →
    (loadCellsFrom ⟨b, o, none⟩ i n acc).run P w = .ok (acc ++ ((ccs.toList.drop (o + i)).take n).toArray) w := by
  intro n
  induction n with
  | zero => intro i acc _; simp [loadCellsFrom]
  | succ n ih =>
    intro i acc hn
    have hlt : o + i < ccs.size := by omega
    have hadd : (Addr.add ⟨b, o, none⟩ i) = ⟨b, o + i, none⟩ := by
      unfold Addr.add; split
      · rename_i h0; subst h0; rfl
      · rfl
    have hc : w.cell? ⟨b, o + i, none⟩ = some ccs[o + i] := by rw [cell?_row h]; simp [hlt]
    simp only [loadCellsFrom, hadd, Sem.run_bind, run_load, hc, Result.andThen_ok]
    rw [ih (i + 1) _ (by omega)]
    congr 1
    apply Array.ext'
    have : (ccs.toList.drop (o + i)).take (n + 1) = ccs[o + i] :: (ccs.toList.drop (o + (i + 1))).take n := by
      rw [List.drop_eq_getElem_cons (by simpa using hlt), List.take_succ_cons]
      simp [Nat.add_assoc]
    rw [this]; simp
theorem run_loadCells {o n : Nat} (hn : o + n ≤ ccs.size) : (loadCells ⟨b, o, none⟩ n).run P w = .ok ((ccs.toList.drop o).take n).toArray w := by
  unfold loadCells
  rw [run_loadCellsFrom h o n 0 #[] (by omega)]
  simp
end

theorem one_oneCell {v : Value} (h : St.one v = true) : v.oneCell' = true := by cases v <;> simp_all [St.one, Value.oneCell']

theorem run_storeCells {P : Program} {b : Nat} {e : TypeId} {fr : Nat × Nat} : ∀ (vs : List Value) (w : World) (ccs : Array Value) (o i : Nat),
    w.heap[b]? = some (.cells ccs e fr) → o + i + vs.length ≤ ccs.size → (∀ v ∈ vs, v.oneCell' = true) →
    (∀ j, o + i ≤ j → j < o + i + vs.length → (decide (fr.1 ≤ j) && decide (j < fr.2)) = false) →
    (storeCells ⟨b, o, none⟩ vs i).run P w = .ok () (w.putObj b (.cells (splice ccs.toList (o + i) vs).toArray e fr)) := by
  intro vs
  induction vs with
  | nil =>
    intro w ccs o i h _ _ _
    simp only [storeCells, Sem.run_pure, splice_nil]
    have : w.putObj b (.cells ccs.toList.toArray e fr) = w := by
      unfold World.putObj
      have hlt : b < w.heap.size := (Array.getElem?_eq_some_iff.1 h).1
      have : w.heap.setIfInBounds b (.cells ccs.toList.toArray e fr) = w.heap := by
        apply Array.ext_getElem?
        intro j
        rw [Array.getElem?_setIfInBounds]
        by_cases hj : b = j
        · subst hj; rw [if_pos rfl, if_pos hlt, h]
        · rw [if_neg hj]
      rw [this]
    rw [this]
  | cons v vs ih =>
    intro w ccs o i h hn hv hf
    have hlt : o + i < ccs.size := by simp at hn; omega
    have hadd : (Addr.add ⟨b, o, none⟩ i) = ⟨b, o + i, none⟩ := by
      unfold Addr.add; split
      · rename_i h0; subst h0; rfl
      · rfl
    have hc : w.cell? ⟨b, o + i, none⟩ = some ccs[o + i] := by rw [cell?_row h]; simp [hlt]
    have hfz : w.frozen? ⟨b, o + i, none⟩ = false := by rw [frozen?_row h]; exact hf _ (Nat.le_refl _) (by simp)
    simp only [storeCells, hadd, Sem.run_bind, run_store P w _ _ _ (hv v (by simp)), hc, hfz]
    simp only [Bool.false_eq_true, if_false, Result.andThen_ok]
    rw [setCell_putObj h]
    have hb : b < w.heap.size := (Array.getElem?_eq_some_iff.1 h).1
    rw [ih _ (ccs.setIfInBounds (o + i) v) o (i + 1) (World.putObj_heap_same hb) (by simp at hn ⊢; omega) (fun u hu => hv u (by simp [hu]))
      (fun j h1 h2 => hf j (by omega) (by simp; omega)), putObj_putObj]
    congr 3
    have : (ccs.setIfInBounds (o + i) v).toList = ccs.toList.set (o + i) v := by simp
    rw [this, show o + (i + 1) = (o + i) + 1 from rfl, splice_cons (by simpa using hlt)]

/-! ### Loads and stores of D -/
theorem VRs.splice {m : Mp} {l l' vs vs' : List Value} (h : VRs m l l') (hv : VRs m vs vs') (o : Nat) : VRs m (splice l o vs) (Go.Proofs.Ytcookjolkhcjhaa.D.splice l' o vs') := by
  unfold Go.Proofs.Ytcookjolkhcjhaa.D.splice
  rw [hv.length]
  exact (h.take o).append (hv.append (h.drop _))

section
variable {E : Env} {P : Program} {m : Mp} {S : St} {w : World} (hH : HR E m S w)
include hH
theorem HR.cells {b : Nat} {cs : List Value} {more : Option Nat} {ro : Bool} {fz : Option (Nat × Nat)} (hg : S.heap.get b = some (.cells cs more ro fz)) :
    ∃ x ccs e fr, m b = some x ∧ w.heap[x.blk]? = some (.cells ccs e fr) ∧ ccs.size = x.tot ∧ x.base + cs.length ≤ x.tot ∧
      VRs m cs ((ccs.toList.drop x.base).take cs.length) ∧ FZ fz x fr ∧ ∀ s, more = some s → x.sz = s := by
  obtain ⟨x, h1, ccs, e, fr, h2⟩ := hH.obj b _ hg rfl
  exact ⟨x, ccs, e, fr, h1, h2⟩
theorem loadN_run {b o n : Nat} {l : List Value} (h : S.loadN b o n = some l) :
    ∃ x l', m b = some x ∧ (loadCells ⟨x.blk, x.base + o, none⟩ n).run P w = .ok l' w ∧ VRs m l l'.toList := by
  unfold St.loadN at h
  split at h
  · rename_i cs more ro fz hg
    obtain ⟨x, ccs, e, fr, h1, h2, h3, h4, h5, _⟩ := hH.cells hg
    obtain ⟨hb, h⟩ := cond_some h
    cases h
    · have hlen : ((cs.drop o).take n).length = n := Nat.eq_of_beq_eq_true hb
      have hn : n = 0 ∨ o + n ≤ cs.length := by simp at hlen; omega
      rcases hn with rfl | hn
      · exact ⟨x, #[], h1, by simp [loadCells, loadCellsFrom], by simp; exact .nil⟩
      · refine ⟨x, _, h1, run_loadCells h2 (by omega), ?_⟩
        have := (h5.drop o).take n
        have e1 : List.take n (List.drop o (List.take cs.length (List.drop x.base ccs.toList))) = List.take n (List.drop (x.base + o) ccs.toList) := by
          rw [List.drop_take, List.take_take, List.drop_drop]
          congr 1
          omega
        rw [e1] at this
        exact this
  · cases h
theorem load1_run {b o : Nat} {v : Value} (h : S.load1 b o = some v) :
    ∃ x v', m b = some x ∧ (load ⟨x.blk, x.base + o, none⟩).run P w = .ok v' w ∧ VR m v v' := by
  unfold St.load1 at h
  split at h
  · rename_i cs more ro fz hg
    obtain ⟨x, ccs, e, fr, h1, h2, h3, h4, h5, _⟩ := hH.cells hg
    obtain ⟨v', hv', hr⟩ := h5.get h
    refine ⟨x, v', h1, ?_, hr⟩
    have hlt : o < cs.length := by
      rcases Nat.lt_or_ge o cs.length with hl | hl
      · exact hl
      · rw [List.getElem?_eq_none hl] at h; cases h
    have : ccs[x.base + o]? = some v' := by
      rw [List.getElem?_take_of_lt hlt, List.getElem?_drop] at hv'
      simpa using hv'
    simp [run_load, cell?_row h2, this]
  · cases h
end

/-- A store of cells: what D does, the model does. -/
theorem storeN_run {E : Env} {P : Program} {m : Mp} {S : St} {w : World} (hH : HR E m S w) {b o : Nat} {vs vs' : List Value} {S' : St} (h : S.storeN b o vs = some S') (hv : VRs m vs vs') :
    ∃ x w', m b = some x ∧ (storeCells ⟨x.blk, x.base + o, none⟩ vs').run P w = .ok () w' ∧ HR E m S' w' ∧ Fr m S w m S' w' := by
  unfold St.storeN at h
  split at h
  · rename_i cs more ro fz hg
    obtain ⟨x, ccs, e, fr, h1, h2, h3, h4, h5, h6, h7⟩ := hH.cells hg
    obtain ⟨hb, h⟩ := cond_some h
    cases h
    · simp only [Bool.and_eq_true, Bool.not_eq_true', Nat.ble_eq, List.all_eq_true] at hb
      obtain ⟨⟨⟨hro, hle⟩, hone⟩, hfz⟩ := hb
      subst hro
      have hlen := hv.length
      have hone' : ∀ v ∈ vs', v.oneCell' = true := by
        have key : ∀ {l l' : List Value}, VRs m l l' → (∀ v ∈ l, St.one v = true) → ∀ v ∈ l', v.oneCell' = true := by
          intro l l' hr
          induction hr with
          | nil => intro _ v hv; cases hv
          | cons h1 _ ih =>
            intro hall v hmem
            cases hmem with
            | head =>
              have := hall _ (List.mem_cons_self)
              cases h1 <;> simp_all [St.one, Value.oneCell']
            | tail _ hm => exact ih (fun u hu => hall u (List.mem_cons_of_mem _ hu)) v hm
        exact key hv hone
      have hnf : ∀ j, x.base + o + 0 ≤ j → j < x.base + o + 0 + vs'.length → (decide (fr.1 ≤ j) && decide (j < fr.2)) = false := by
        intro j hj1 hj2
        cases fz with
        | none => rw [show fr = (0, 0) from h6]; simp
        | some p =>
          obtain ⟨lo, hi⟩ := p
          rw [Bool.and_eq_false_iff]
          by_cases hin : fr.1 ≤ j ∧ j < fr.2
          · have := h6 j hin.1 hin.2 (by omega) (by omega)
            simp only [St.fzOk, Bool.or_eq_true, Nat.ble_eq] at hfz
            simp only at this
            omega
          · simp; omega
      have hrun := run_storeCells (P := P) vs' w ccs (x.base + o) 0 h2 (by omega) hone' hnf
      have hb : x.blk < w.heap.size := (Array.getElem?_eq_some_iff.1 h2).1
      refine ⟨x, _, h1, hrun, ?_⟩
      refine HR.upd hH hg rfl h1 ?_ (World.putObj_size) (fun c hc => World.putObj_heap_other hc) rfl rfl rfl
      rw [World.putObj_heap_same hb]
      refine ⟨_, e, fr, rfl, ?_, ?_, ?_, h6, h7⟩
      · simp only [List.size_toArray, Nat.add_zero]
        rw [splice_length (by simp; omega)]; simpa using h3
      · have := splice_length (l := cs) (o := o) (vs := vs) (by omega)
        unfold splice at this
        rw [this]; exact h4
      · have hs := h5.splice hv o
        have e1 : (cs.take o ++ (vs ++ cs.drop (o + vs.length))) = splice cs o vs := rfl
        rw [e1, splice_length (by omega)]
        have e2 : splice ((ccs.toList.drop x.base).take cs.length) o vs' = ((splice ccs.toList (x.base + o) vs').drop x.base).take cs.length := by
          apply List.ext_getElem?
          intro i
          have hc : ccs.toList.length = ccs.size := by simp
          unfold splice
          simp only [List.getElem?_append, List.getElem?_take, List.getElem?_drop, List.length_take, List.length_drop, hc]
          (repeat' split) <;> first | rfl | omega | (congr 1; omega) | (exfalso; omega) | skip
          all_goals first | (rw [List.getElem?_eq_none (by omega)]) | (symm; rw [List.getElem?_eq_none (by omega)]) | skip
        rw [e2] at hs
        simpa using hs
  · cases h

end Go.Proofs.Ytcookjolkhcjhaa.D
