/-
  D, part 12: one operation of D, and the model's: the last builtins; all operations.
-/
import Derived.Test.YtcookjolkhcjhaaD11
namespace Go.Proofs.Ytcookjolkhcjhaa.D
set_option linter.unusedSectionVars false

section
variable {E : Env} {P : Program} (hE : E.Ok P) {m : Mp} {S : St} {w : World} (hH : HR E m S w)
include hE hH

theorem copyD_sim {dt ty : TypeId} {ts : Array TypeId} {d d' x x' v : Value} {S' : St} (h0 : ts[0]? = some dt) (h : copyD E S dt d x = some (v, S')) (hd : VR m d d') (hx : VR m x x') :
    SP E P m S w (Builtin.copy_ ts ty #[d', x']) v S' := by
  unfold copyD at h
  split at h
  · rename_i e base dLen dCap hu
    obtain ⟨ds, hds, hu⟩ := und_of hE hH hu
    split at h
    · rename_i i hi
      simp only [Option.bind_eq_some_iff] at h
      obtain ⟨xl, hxl, new, hnew, h⟩ := h
      have hl' := lenOf_run (P := P) (w := w) hxl hx
      obtain ⟨new', hc', hnv⟩ := firstD_run (P := P) hE hH hnew hx hxl (Nat.min_le_left _ _)
      have run : ∀ b' c', (Builtin.copy_ ts ty #[.slice b' dLen c', x']).run P w =
          (match b' with
           | some a => (do storeCells a new'.toList; pure (goInt ((Nat.min xl dLen : Nat) : Int)) : Sem Value)
           | none => pure (goInt ((Nat.min xl dLen : Nat) : Int))).run P w := by
        intro b' c'
        simp only [Builtin.copy_, h0, List.getElem?_toArray, List.getElem?_cons_zero, List.getElem?_cons_succ, Sem.run_bind, run_und hE hds w, hu, Result.andThen_ok, hl', run_size hE hi w, hc']
        cases b' <;> rfl
      cases base with
      | none =>
        cases h; cases hd
        refine SV.sp hH ⟨_, run none 0, .int _ _⟩
      | some a =>
        obtain ⟨b, o, sp⟩ := a
        cases sp with
        | some _ => cases h
        | none =>
          dsimp only at h
          cases hem : new.isEmpty with
          | true =>
            rw [hem] at h
            cases h
            have hnil : new' = #[] := by
              have h2 := hnv.length
              rw [List.isEmpty_iff] at hem
              rw [hem] at h2
              exact Array.eq_empty_of_size_eq_zero (by simpa using h2.symm)
            have key : ∀ a' c', SP E P m S w (Builtin.copy_ ts ty #[.slice (some a') dLen c', x']) (.int .i64 ((Nat.min xl dLen : Nat) : Int)) S := by
              intro a' c'
              refine SV.sp hH ⟨goInt ((Nat.min xl dLen : Nat) : Int), ?_, .int _ _⟩
              rw [run]; simp [hnil, storeCells]
            cases hd <;> exact key _ _
          | false =>
            rw [hem] at h
            simp only [cond_false, Option.map_eq_some_iff] at h
            obtain ⟨S2, h2, h3⟩ := h
            cases h3
            have hne : new ≠ [] := fun e => by rw [e] at hem; cases hem
            obtain ⟨y2, w2, r1, r2, r3, r4⟩ := storeN_run (P := P) hH h2 hnv
            have key : ∀ c', SP E P m S w (Builtin.copy_ ts ty #[.slice (some ⟨y2.blk, y2.base + o, none⟩) dLen c', x']) (.int .i64 ((Nat.min xl dLen : Nat) : Int)) S' := by
              intro c'
              refine ⟨goInt ((Nat.min xl dLen : Nat) : Int), m, w2, ?_, .int _ _, r3, r4⟩
              rw [run]; simp only [Sem.run_bind, r2, Result.andThen_ok, Sem.run_pure]
            have zero : dLen = 0 → False := by
              intro e
              subst e
              have : Nat.min xl 0 = 0 := Nat.min_zero _
              rw [this] at hnew
              apply hne
              unfold firstD at hnew
              split at hnew
              · obtain ⟨_, h5⟩ := cond_some hnew; cases h5; rfl
              · simp at hnew; exact hnew
              · cases hnew; simp
              · cases hnew
            cases hd with
            | sl _ _ _ _ y hy _ _ => rw [r1] at hy; cases hy; exact key _
            | slx _ _ _ c y hy _ _ => rw [r1] at hy; cases hy; exact key _
            | sle _ _ a y hy _ => exact (zero rfl).elim
            | slz _ _ a => exact (zero rfl).elim
    · cases h
  · cases h

theorem deleteD_sim {mt ty : TypeId} {ts : Array TypeId} {x x' k k' : Value} {S' : St} (h0 : ts[0]? = some mt) (h : deleteD E S mt x k = some S') (hx : VR m x x') (hk : VR m k k') :
    SP E P m S w (Builtin.delete_ ts ty #[x', k']) (.tuple #[]) S' := by
  unfold deleteD at h
  split at h
  · rename_i kt e hu
    obtain ⟨d, hd, hu⟩ := und_of hE hH hu
    obtain ⟨hkt, h⟩ := cond_some h
    cases h; cases hx
    have ck := fun emp => checkKey_run (P := P) (w := w) hE hkt hk emp 9998
    exact SV.sp hH ⟨.tuple #[], by simp [Builtin.delete_, h0, run_und hE hd w, hu, ck], .tup _ _ rfl (by simp)⟩
  · rename_i kt e r hu
    obtain ⟨d, hd, hu⟩ := und_of hE hH hu
    obtain ⟨hkt, h⟩ := cond_some h
    have ck := fun emp => checkKey_run (P := P) (w := w) hE hkt hk emp 9998
    split at h
    · rename_i es clock hg
      obtain ⟨y, ces, hm, hw, he⟩ := HR.mapAt hE hH hg
      rw [Option.map_eq_some_iff] at h
      obtain ⟨found, h1, h2⟩ := h
      have hf := find_run hE hH (P := P) hkt hk h1 he
      cases hx with
      | mp _ y' hy =>
        rw [hm] at hy; cases hy
        cases found with
        | none =>
          subst h2
          obtain ⟨h3, h4⟩ := HR.setMap hE hH (es2 := es) (clock2 := clock) (ces2 := ces) hg hm hw he
          refine ⟨.tuple #[], m, _, ?_, .tup _ _ rfl (by simp), h3, h4⟩
          simp only at hf
          simp [Builtin.delete_, h0, run_und hE hd w, hu, ck, run_getMap hw, hf, run_setMap _ hw]
        | some p =>
          obtain ⟨i, en⟩ := p
          subst h2
          obtain ⟨e', q1, q2, q3, q4⟩ := hf
          obtain ⟨h3, h4⟩ := HR.setMap hE hH (es2 := es.eraseIdx i) (clock2 := clock) (ces2 := ces.eraseIdxIfInBounds i) hg hm hw (by
            rw [Array.toList_eraseIdxIfInBounds]; exact he.erase i)
          refine ⟨.tuple #[], m, _, ?_, .tup _ _ rfl (by simp), h3, h4⟩
          simp [Builtin.delete_, h0, run_und hE hd w, hu, ck, run_getMap hw, q4, run_setMap _ hw]
    · cases h
  · cases h

theorem clearD_sim {t ty : TypeId} {ts : Array TypeId} {x x' : Value} {S' : St} (h0 : ts[0]? = some t) (h : clearD E S t x = some S') (hx : VR m x x') :
    SP E P m S w (Builtin.clear_ ts ty #[x']) (.tuple #[]) S' := by
  unfold clearD at h
  split at h
  · rename_i kt e hu
    obtain ⟨d, hd, hu⟩ := und_of hE hH hu
    cases h; cases hx
    exact SV.sp hH ⟨.tuple #[], by simp [Builtin.clear_, h0, run_und hE hd w, hu], .tup _ _ rfl (by simp)⟩
  · rename_i kt e r hu
    obtain ⟨d, hd, hu⟩ := und_of hE hH hu
    split at h
    · rename_i es clock hg
      cases h
      obtain ⟨y, ces, hm, hw, he⟩ := HR.mapAt hE hH hg
      cases hx with
      | mp _ y' hy =>
        rw [hm] at hy; cases hy
        obtain ⟨h3, h4⟩ := HR.setMap hE hH (es2 := []) (clock2 := clock) (ces2 := #[]) hg hm hw .nil
        refine ⟨.tuple #[], m, _, ?_, .tup _ _ rfl (by simp), h3, h4⟩
        simp [Builtin.clear_, h0, run_und hE hd w, hu, run_getMap hw, run_setMap _ hw]
    · cases h
  · rename_i e l c hu
    obtain ⟨d, hd, hu⟩ := und_of hE hH hu
    cases h; cases hx
    exact SV.sp hH ⟨.tuple #[], by simp [Builtin.clear_, h0, run_und hE hd w, hu], .tup _ _ rfl (by simp)⟩
  · rename_i e b o n c hu
    obtain ⟨d, hd, hu⟩ := und_of hE hH hu
    split at h
    · rename_i i hi
      rw [Option.bind_eq_some_iff] at h
      obtain ⟨z, hz, h⟩ := h
      cases hb : Nat.beq n 0 with
      | true =>
        rw [hb] at h; cases h
        have e0 := Nat.eq_of_beq_eq_true hb
        subst e0
        have key : ∀ a c', SP E P m S w (Builtin.clear_ ts ty #[.slice (some a) 0 c']) (.tuple #[]) S := fun a c' =>
          SV.sp hH ⟨.tuple #[], by simp [Builtin.clear_, h0, run_und hE hd w, hu], .tup _ _ rfl (by simp)⟩
        cases hx <;> exact key _ _
      | false =>
        rw [hb] at h
        have hn0 : n ≠ 0 := fun e => by rw [e] at hb; simp at hb
        have hzv := zerosD_vr (m := m) (zero_plain hE hi hz) n
        obtain ⟨y, w2, r1, r2, r3, r4⟩ := storeN_run (P := P) hH h hzv
        have hcells : (Builtin.zeroCells z.cells n).toList = (List.replicate n z.cells.toList).flatten := zeros_list _ _
        have key : ∀ c', SP E P m S w (Builtin.clear_ ts ty #[.slice (some ⟨y.blk, y.base + o, none⟩) n c']) (.tuple #[]) S' := by
          intro c'
          refine ⟨.tuple #[], m, w2, ?_, .tup _ _ rfl (by simp), r3, r4⟩
          obtain ⟨k, rfl⟩ : ∃ k, n = k + 1 := ⟨n - 1, by omega⟩
          simp only [Builtin.clear_, h0, List.getElem?_toArray, List.getElem?_cons_zero, Sem.run_bind, run_und hE hd w, hu, Result.andThen_ok, run_zero hE hi w hz, hcells, r2, Sem.run_pure]
        cases hx with
        | sl _ _ _ _ y' hy _ _ => rw [r1] at hy; cases hy; exact key _
        | slx _ _ _ c y' hy _ _ => rw [r1] at hy; cases hy; exact key _
        | sle _ _ a y' hy _ => exact absurd rfl hn0
        | slz _ _ a => exact absurd rfl hn0
    · cases h
  · cases h

omit hE hH in
theorem minmaxD_run {mx : Bool} : ∀ {r r' : List Value} {x x' v : Value}, minmaxD mx x r = some v → VR m x x' → VRs m r r' →
    ∃ v', ((if mx then r'.foldlM Builtin.max2 x' else r'.foldlM Builtin.min2 x') : Sem Value).run P w = .ok v' w ∧ VR m v v' := by
  intro r
  induction r with
  | nil =>
    intro r' x x' v h hx hr
    cases hr
    have : v = x := by cases x <;> simp_all [minmaxD]
    subst this
    refine ⟨x', ?_, hx⟩
    cases mx <;> simp
  | cons y r ih =>
    intro r' x x' v h hx hr
    cases hr with
    | cons hy hr =>
      unfold minmaxD at h
      split at h
      · simp_all
      · rename_i k a k' b r0 heq
        cases heq
        obtain ⟨hk, h4⟩ := cond_some h
        clear h
        have ek := kindEq_eq hk
        subst ek
        cases hx; cases hy
        obtain ⟨v', h5, h6⟩ := ih h4 (.int _ _) hr
        refine ⟨v', ?_, h6⟩
        cases mx with
        | true =>
          simp only [if_true, List.foldlM_cons, Sem.run_bind, Builtin.max2, Sem.run_pure, Result.andThen_ok] at h5 ⊢
          rw [← h5]
          congr 2
          by_cases hc : b > a <;> simp [hc]
        | false =>
          simp only [Bool.false_eq_true, if_false, List.foldlM_cons, Sem.run_bind, Builtin.min2, Sem.run_pure, Result.andThen_ok] at h5 ⊢
          rw [← h5]
          congr 2
          by_cases hc : b < a <;> simp [hc]
      · cases h
end

end Go.Proofs.Ytcookjolkhcjhaa.D
