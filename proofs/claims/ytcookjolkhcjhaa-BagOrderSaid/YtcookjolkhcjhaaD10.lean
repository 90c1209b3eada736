/-
  D, part 10: one operation of D, and the model's: maps, builtins.
-/
import Derived.Test.YtcookjolkhcjhaaD9
namespace Go.Proofs.Ytcookjolkhcjhaa.D
set_option linter.unusedSectionVars false

/-! ### Keys that need no memory -/
def scalarK : Value → Bool
  | .int _ _ | .string _ | .bool _ => true
  | _ => false
theorem scalarK_vr {m : Mp} {v v' : Value} (h : scalarK v = true) (hv : VR m v v') : v' = v := by cases hv <;> simp_all [scalarK]
theorem keyOk_vr {m : Mp} {v v' : Value} (h : keyOk v = true) (hv : VR m v v') : v' = v := by
  unfold keyOk at h
  split at h
  · cases hv; rfl
  · cases hv; rfl
  · cases hv; rfl
  · rename_i a
    cases hv with
    | agg _ a' h1 h2 =>
      congr 1
      apply Array.ext_getElem?
      intro i
      rw [List.all_eq_true] at h
      by_cases hi : i < a.size
      · have e1 : a[i]? = some a[i] := Array.getElem?_eq_getElem hi
        have e2 : a'[i]? = some a'[i] := Array.getElem?_eq_getElem (by omega)
        rw [e1, e2]
        congr 1
        refine scalarK_vr ?_ (h2 i _ _ e1 e2)
        have := h a[i] (by simp)
        revert this
        cases a[i] <;> simp [scalarK]
      · rw [Array.getElem?_eq_none (by omega), Array.getElem?_eq_none (by omega)]
  · cases h
theorem sameBits_scalar {n : Nat} {a k : Value} (h : Instr.sameBits n a k = true) (hk : scalarK k = true) : scalarK a = true := by
  cases k <;> simp only [scalarK, Bool.false_eq_true] at hk <;> cases a <;> cases n <;> simp_all [Instr.sameBits, scalarK]
theorem sameBits_keyOk {n : Nat} {a k : Value} (h : Instr.sameBits (n + 1) a k = true) (hk : keyOk k = true) : keyOk a = true := by
  unfold keyOk at hk
  split at hk
  · cases a <;> simp_all [Instr.sameBits, keyOk]
  · cases a <;> simp_all [Instr.sameBits, keyOk]
  · cases a <;> simp_all [Instr.sameBits, keyOk]
  · rename_i ks
    cases a with
    | agg xs =>
      simp only [Instr.sameBits, Bool.and_eq_true, beq_iff_eq, List.all_eq_true] at h
      obtain ⟨hs, hall⟩ := h
      simp only [keyOk, List.all_eq_true] at hk ⊢
      intro v hv
      obtain ⟨i, hi, e⟩ := List.getElem_of_mem hv
      have hi' : i < ks.toList.length := by simp at hi ⊢; omega
      have hz : i < (xs.toList.zip ks.toList).length := by simp at hi hi' ⊢; omega
      have hmem : (xs.toList.zip ks.toList)[i] ∈ xs.toList.zip ks.toList := List.getElem_mem hz
      have h1 := hall _ hmem
      simp only [List.getElem_zip] at h1
      have h2 := hk ks.toList[i] (List.getElem_mem hi')
      have h3 : scalarK ks.toList[i] = true := by revert h2; cases ks.toList[i] <;> simp [scalarK]
      have h4 := sameBits_scalar h1 h3
      rw [e] at h4
      revert h4; cases v <;> simp [scalarK]
    | _ => simp [Instr.sameBits] at h
  · cases hk

section
variable {E : Env} {P : Program} (hE : E.Ok P) {m : Mp} {S : St} {w : World} (hH : HR E m S w)
include hE hH

theorem HR.mapAt {r : Nat} {es : List MapEntry} {clock : Nat} (hg : S.heap.get r = some (.map es clock)) :
    ∃ x ces, m r = some x ∧ w.heap[x.blk]? = some (.map ces clock) ∧ ERs m es ces.toList := by
  obtain ⟨x, h1, ces, h2, h3⟩ := hH.obj r _ hg rfl
  exact ⟨x, ces, h1, h2, h3⟩
omit hE hH in
theorem run_getMap {b : Nat} {ces : Array MapEntry} {clock : Nat} (h : w.heap[b]? = some (.map ces clock)) : (getObj b).run P w = .ok (.map ces clock) w := by simp [getObj, Sem.run, h]
omit hE hH in
theorem run_setMap {b : Nat} {ces : Array MapEntry} {clock : Nat} (o : Obj) (h : w.heap[b]? = some (.map ces clock)) : (setObj b o).run P w = .ok () (w.putObj b o) := by simp [setObj, Sem.run, h, World.putObj]

/-- A map turns. -/
theorem HR.setMap {r : Nat} {es es2 : List MapEntry} {clock clock2 : Nat} {x : BM} {ces ces2 : Array MapEntry} (hg : S.heap.get r = some (.map es clock)) (hm : m r = some x)
    (hw : w.heap[x.blk]? = some (.map ces clock)) (he : ERs m es2 ces2.toList) :
    HR E m (S.upd r (.map es2 clock2)) (w.putObj x.blk (.map ces2 clock2)) ∧ Fr m S w m (S.upd r (.map es2 clock2)) (w.putObj x.blk (.map ces2 clock2)) := by
  have hb : x.blk < w.heap.size := (Array.getElem?_eq_some_iff.1 hw).1
  refine HR.upd hH hg rfl hm ?_ World.putObj_size (fun c hc => World.putObj_heap_other hc) rfl rfl rfl
  rw [World.putObj_heap_same hb]
  exact ⟨ces2, rfl, he⟩

theorem keyType_ok {kt : TypeId} {k : Value} (h : keyType E kt k = true) : keyOk k = true := by
  unfold keyType at h
  simp only [Bool.and_eq_true] at h
  exact h.1

theorem lookupD_sim {t : TypeId} {x x' k k' v : Value} {ok : Bool} (h : lookupD E S t x k ok = some v) (hx : VR m x x') (hk : VR m k k') : SV P m w (Instr.lookup t x' k' ok) v := by
  unfold lookupD at h
  split at h
  · rename_i kt e hu
    obtain ⟨d, hd, hu⟩ := und_of hE hH hu
    obtain ⟨hkt, h⟩ := cond_some h
    rw [Option.bind_eq_some_iff] at h
    obtain ⟨found, h1, h2⟩ := h
    rw [Option.map_eq_some_iff] at h2
    obtain ⟨⟨u, b⟩, h3, h4⟩ := h2
    have ck := fun emp => checkKey_run (P := P) (w := w) hE hkt hk emp 9998
    -- what the look comes to
    have fin : ∀ u', VR m u u' → VR m v (if ok then .tuple #[u', .bool b] else u') := by
      intro u' hu'
      subst h4
      cases ok with
      | false => exact hu'
      | true =>
        refine .tup _ _ rfl ?_
        intro i a a' e1 e2
        match i with
        | 0 => simp at e1 e2; subst e1; subst e2; exact hu'
        | 1 => simp at e1 e2; subst e1; subst e2; exact .bool _
        | i + 2 => simp at e1
    have zero : ∀ z, E.zero e = some z → (zeroValue e).run P w = .ok z w ∧ VR m z z := by
      intro z hz
      unfold Env.zero at hz
      rw [Option.bind_eq_some_iff] at hz
      obtain ⟨de, hde, hz⟩ := hz
      exact ⟨run_zero hE hde w hz, (zero_plain hE hde hz).vr⟩
    split at h1
    · cases h1
      cases hx
      rw [Option.map_eq_some_iff] at h3
      obtain ⟨z, hz, h3⟩ := h3
      cases h3
      obtain ⟨z1, z2⟩ := zero _ hz
      refine ⟨_, ?_, fin _ z2⟩
      have hfk : (Instr.findKey kt k' []).run P w = .ok none w := by
        have := find_run hE hH (P := P) hkt hk (es := []) (es' := []) (found := none) rfl .nil
        exact this
      simp [Instr.lookup, run_und hE hd w, hu, ck, hfk, z1]
    · rename_i r
      split at h1
      · rename_i es clock hg
        obtain ⟨x, ces, hm, hw, he⟩ := HR.mapAt hE hH hg
        cases hx with
        | mp _ y hy =>
          rw [hm] at hy; cases hy
          have hf := find_run hE hH (P := P) hkt hk h1 he
          cases found with
          | none =>
            rw [Option.map_eq_some_iff] at h3
            obtain ⟨z, hz, h3⟩ := h3
            cases h3
            obtain ⟨z1, z2⟩ := zero _ hz
            refine ⟨_, ?_, fin _ z2⟩
            simp only at hf
            simp [Instr.lookup, run_und hE hd w, hu, ck, run_getMap hw, hf, z1]
          | some p =>
            obtain ⟨i, en⟩ := p
            cases h3
            obtain ⟨e', _, _, q3, q4⟩ := hf
            refine ⟨_, ?_, fin _ q3.val⟩
            simp [Instr.lookup, run_und hE hd w, hu, ck, run_getMap hw, q4]
      · cases h1
    · cases h1
  · cases h

omit hE hH in
theorem keyStays_run {a k : Value} (h : Instr.sameBits 10000 a k = true) : (Instr.keyThatStays a k).run P w = .ok k w := by simp [Instr.keyThatStays, h]

theorem mapUpdateD_sim {t : TypeId} {x x' k k' v v' : Value} {S' : St} (h : mapUpdateD E S t x k v = some S') (hx : VR m x x') (hk : VR m k k') (hv : VR m v v') : SU E P m S w (Instr.mapUpdate t x' k' v') S' := by
  unfold mapUpdateD at h
  split at h
  · rename_i kt e r hu
    obtain ⟨d, hd, hu⟩ := und_of hE hH hu
    obtain ⟨hkt, h⟩ := cond_some h
    have ck := fun emp => checkKey_run (P := P) (w := w) hE hkt hk emp 9998
    have hok := keyType_ok hE hH hkt
    have ek := keyOk_vr hok hk
    subst ek
    unfold mapPut at h
    split at h
    · rename_i es clock hg
      obtain ⟨y, ces, hm, hw, he⟩ := HR.mapAt hE hH hg
      rw [Option.bind_eq_some_iff] at h
      obtain ⟨found, h1, h2⟩ := h
      have hf := find_run hE hH (P := P) hkt hk h1 he
      cases hx with
      | mp _ y' hy =>
        rw [hm] at hy; cases hy
        cases found with
        | none =>
          simp only [Option.some.injEq] at h2
          subst h2
          obtain ⟨h3, h4⟩ := HR.setMap hE hH (es2 := es ++ [{ key := k', val := v, born := clock }]) (clock2 := clock + 1) (ces2 := ces.push { key := k', val := v', born := clock }) hg hm hw (by rw [Array.toList_push]; exact he.snoc ⟨hk, hv, rfl⟩)
          refine ⟨m, _, ?_, h3, h4⟩
          simp only at hf
          simp [Instr.mapUpdate, run_und hE hd w, hu, ck, run_getMap hw, hf, run_setMap _ hw]
        | some p =>
          obtain ⟨i, en⟩ := p
          obtain ⟨hsb, h2⟩ := cond_some h2
          simp only [Option.some.injEq] at h2
          subst h2
          obtain ⟨e', q1, q2, q3, q4⟩ := hf
          have ee : e'.key = en.key := keyOk_vr (sameBits_keyOk (n := 9999) hsb hok) q3.key
          have q2' : ces[i]? = some e' := by simpa using q2
          obtain ⟨h3, h4⟩ := HR.setMap hE hH (es2 := es.modify i fun e => { e with key := k', val := v }) (clock2 := clock) (ces2 := ces.modify i fun e => { e with key := k', val := v' }) hg hm hw
            (by rw [Array.toList_modify]; exact ERs.modify he (f := fun e => { e with key := k', val := v }) (f' := fun e => { e with key := k', val := v' }) (fun a b hab => ⟨hk, hv, hab.born⟩) i)
          refine ⟨m, _, ?_, h3, h4⟩
          simp [Instr.mapUpdate, run_und hE hd w, hu, ck, run_getMap hw, q4, q2', ee, keyStays_run hsb, run_setMap _ hw]
    · cases h
  · cases h

theorem mapEntryD_sim {t : TypeId} {x x' k k' v : Value} {S' : St} (h : mapEntryD E S t x k = some (v, S')) (hx : VR m x x') (hk : VR m k k') : SP E P m S w (Instr.mapEntry t x' k') v S' := by
  unfold mapEntryD at h
  split at h
  · rename_i kt e r hu
    obtain ⟨d, hd, hu⟩ := und_of hE hH hu
    obtain ⟨hkt, h⟩ := cond_some h
    have ck := fun emp => checkKey_run (P := P) (w := w) hE hkt hk emp 9998
    have hok := keyType_ok hE hH hkt
    have ek := keyOk_vr hok hk
    subst ek
    have two : ∀ (u u' : Value) (n : Int), VR m u u' → VR m (.tuple #[u, .int .i64 n]) (.tuple #[u', .int .i64 n]) := by
      intro u u' n hu'
      refine .tup _ _ rfl ?_
      intro i a a' e1 e2
      match i with
      | 0 => simp at e1 e2; subst e1; subst e2; exact hu'
      | 1 => simp at e1 e2; subst e1; subst e2; exact .int _ _
      | i + 2 => simp at e1
    split at h
    · rename_i es clock hg
      obtain ⟨y, ces, hm, hw, he⟩ := HR.mapAt hE hH hg
      rw [Option.bind_eq_some_iff] at h
      obtain ⟨found, h1, h2⟩ := h
      have hf := find_run hE hH (P := P) hkt hk h1 he
      cases hx with
      | mp _ y' hy =>
        rw [hm] at hy; cases hy
        cases found with
        | none =>
          rw [Option.map_eq_some_iff] at h2
          obtain ⟨z, hz, h2⟩ := h2
          cases h2
          unfold Env.zero at hz
          rw [Option.bind_eq_some_iff] at hz
          obtain ⟨de, hde, hz⟩ := hz
          have z1 := run_zero hE hde w hz
          have z2 := (zero_plain hE hde hz).vr (m := m)
          obtain ⟨h3, h4⟩ := HR.setMap hE hH (clock2 := clock + 1) (ces2 := ces.push { key := k', val := z, born := clock }) hg hm hw (by rw [Array.toList_push]; exact he.snoc ⟨hk, z2, rfl⟩)
          refine ⟨_, m, _, ?_, two _ _ _ z2, h3, h4⟩
          simp only at hf
          simp [Instr.mapEntry, run_und hE hd w, hu, ck, run_getMap hw, hf, run_setMap _ hw, z1, goInt]
        | some p =>
          obtain ⟨i, en⟩ := p
          obtain ⟨hsb, h2⟩ := cond_some h2
          cases h2
          obtain ⟨e', q1, q2, q3, q4⟩ := hf
          have ee : e'.key = en.key := keyOk_vr (sameBits_keyOk (n := 9999) hsb hok) q3.key
          have q2' : ces[i]? = some e' := by simpa using q2
          obtain ⟨h3, h4⟩ := HR.setMap hE hH (es2 := es.modify i fun e => { e with key := k' }) (clock2 := clock) (ces2 := ces.modify i fun e => { e with key := k' }) hg hm hw
            (by rw [Array.toList_modify]; exact ERs.modify he (f := fun e => { e with key := k' }) (f' := fun e => { e with key := k' }) (fun a b hab => ⟨hk, hab.val, hab.born⟩) i)
          refine ⟨_, m, _, ?_, two _ _ _ q3.val, h3, h4⟩
          simp [Instr.mapEntry, run_und hE hd w, hu, ck, run_getMap hw, q4, q2', ee, keyStays_run hsb, run_setMap _ hw, goInt, q3.born]
    · cases h
  · cases h

omit hE hH in
theorem bornAt_find {n : Int} {es es' : List MapEntry} (he : ERs m es es') : ∀ {i j : Nat}, bornAt n es i = some j → i ≤ j ∧ es'.findIdx? (fun e => (e.born : Int) == n) = some (j - i) := by
  induction he with
  | nil => intro i j h; cases h
  | @cons e e' l l' h1 h2 ih =>
    intro i j h
    simp only [bornAt] at h
    rw [List.findIdx?_cons]
    rw [← h1.born]
    cases hb : decide ((e.born : Int) = n) with
    | true =>
      rw [hb] at h
      cases h
      simp only [decide_eq_true_eq] at hb
      simp [hb]
    | false =>
      rw [hb] at h
      simp only [decide_eq_false_iff_not] at hb
      obtain ⟨h3, h4⟩ := ih h
      refine ⟨by omega, ?_⟩
      have : (((e.born : Nat) : Int) == n) = false := by simpa using hb
      rw [this, h4]
      simp; omega

theorem entryStoreD_sim {t : TypeId} {x x' k k' v v' : Value} {S' : St} (h : entryStoreD S x k v = some S') (hx : VR m x x') (hk : VR m k k') (hv : VR m v v') : SU E P m S w (Instr.entryStore t x' k' v') S' := by
  unfold entryStoreD at h
  split at h
  · rename_i r kk born
    cases hk
    split at h
    · rename_i es clock hg
      obtain ⟨y, ces, hm, hw, he⟩ := HR.mapAt hE hH hg
      rw [Option.map_eq_some_iff] at h
      obtain ⟨i, h1, rfl⟩ := h
      obtain ⟨_, h2⟩ := bornAt_find he h1
      simp only [Nat.sub_zero] at h2
      cases hx with
      | mp _ y' hy =>
        rw [hm] at hy; cases hy
        obtain ⟨h3, h4⟩ := HR.setMap hE hH (es2 := es.modify i fun e => { e with val := v }) (clock2 := clock) (ces2 := ces.modify i fun e => { e with val := v' }) hg hm hw
          (by rw [Array.toList_modify]; exact ERs.modify he (f := fun e => { e with val := v }) (f' := fun e => { e with val := v' }) (fun a b hab => ⟨hab.key, hv, hab.born⟩) i)
        refine ⟨m, _, ?_, h3, h4⟩
        have h5 : ces.findIdx? (fun e => (e.born : Int) == born) = some i := by cases ces with | mk l => rw [List.findIdx?_toArray]; exact h2
        simp [Instr.entryStore, run_getMap hw, asInt, asIntOf, h5, run_setMap _ hw]
    · cases h
  · cases h
end

end Go.Proofs.Ytcookjolkhcjhaa.D
