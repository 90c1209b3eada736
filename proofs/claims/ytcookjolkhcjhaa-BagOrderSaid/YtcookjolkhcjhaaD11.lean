/-
  D, part 11: one operation of D, and the model's: builtins.
-/
import Derived.Test.YtcookjolkhcjhaaD10
namespace Go.Proofs.Ytcookjolkhcjhaa.D
set_option linter.unusedSectionVars false

/-! ### How far a slice grows -/
theorem growBy_le (N : Nat) : ∀ (r c : Nat), Builtin.growBy N r c ≤ max c (N + (N + 768) / 4) := by
  intro r
  induction r with
  | zero => intro c; simp only [Builtin.growBy]; omega
  | succ r ih =>
    intro c
    simp only [Builtin.growBy]
    split
    · omega
    · have := ih (c + (c + 768) / 4); omega
theorem nextslicecap_le {N c : Nat} (h : c < N) : Builtin.nextslicecap N c ≤ 3 * N := by
  unfold Builtin.nextslicecap
  split
  · omega
  · split
    · omega
    · have := growBy_le N 4 c; omega

theorem zeroCells_size (z : Array Value) (n : Nat) : (Builtin.zeroCells z n).size = n * z.size := by simp [Builtin.zeroCells]

theorem take_drop_take {l : List Value} {b o n N : Nat} (h : o + n ≤ N) : (((l.drop b).take N).drop o).take n = (l.drop (b + o)).take n := by
  rw [List.drop_take, List.take_take, List.drop_drop]
  congr 1
  omega
theorem splice_take {l new : List Value} {B L : Nat} (h : B + L + new.length ≤ l.length) : ((splice l (B + L) new).drop B).take (L + new.length) = (l.drop B).take L ++ new := by
  unfold splice
  rw [List.drop_append_of_le_length (by simp; omega)]
  have h1 : (l.take (B + L)).drop B = (l.drop B).take L := by
    rw [List.drop_take]; congr 1; omega
  rw [h1, ← List.append_assoc, List.take_append_of_le_length (by simp; omega)]
  apply List.take_of_length_le
  simp; omega

section
variable {E : Env} {P : Program} (hE : E.Ok P) {m : Mp} {S : St} {w : World} (hH : HR E m S w)
include hE hH

theorem lenD_sim {t : TypeId} {ts : Array TypeId} {ty : TypeId} {x x' v : Value} (ht : ts[0]? = some t) (h : lenD E S t x = some v) (hx : VR m x x') : SV P m w (Builtin.len_ ts ty #[x']) v := by
  unfold lenD at h
  split at h
  · rename_i s hu
    obtain ⟨d, hd, hu⟩ := und_of hE hH hu
    cases h; cases hx
    exact ⟨_, by simp [Builtin.len_, ht, run_und hE hd w, hu, goInt], .int _ _⟩
  · rename_i n e hu
    obtain ⟨d, hd, hu⟩ := und_of hE hH hu
    cases h
    exact ⟨_, by simp [Builtin.len_, ht, run_und hE hd w, hu, goInt], .int _ _⟩
  · rename_i e a n c hu
    obtain ⟨d, hd, hu⟩ := und_of hE hH hu
    cases h
    have key : ∀ a' c', SV P m w (Builtin.len_ ts ty #[.slice a' n c']) (.int .i64 (n : Int)) := fun a' c' =>
      ⟨_, by simp [Builtin.len_, ht, run_und hE hd w, hu, goInt], .int _ _⟩
    cases hx <;> exact key _ _
  · rename_i hu
    obtain ⟨d, hd, hu⟩ := und_of hE hH hu
    cases h; cases hx
    exact ⟨_, by simp [Builtin.len_, ht, run_und hE hd w, hu, goInt], .int _ _⟩
  · rename_i r hu
    obtain ⟨d, hd, hu⟩ := und_of hE hH hu
    split at h
    · rename_i es clock hg
      cases h
      obtain ⟨y, ces, hm, hw, he⟩ := HR.mapAt hE hH hg
      cases hx with
      | mp _ y' hy =>
        rw [hm] at hy; cases hy
        have hl : ces.size = es.length := by have := he.length; simp at this; omega
        exact ⟨_, by simp [Builtin.len_, ht, run_und hE hd w, hu, run_getMap hw, goInt, hl], .int _ _⟩
    · cases h
  · cases h

theorem capD_sim {t : TypeId} {ts : Array TypeId} {ty : TypeId} {x x' v : Value} (ht : ts[0]? = some t) (h : capD E t x = some v) (hx : VR m x x') : SV P m w (Builtin.cap_ ts ty #[x']) v := by
  unfold capD at h
  split at h
  · rename_i e a n c hu
    obtain ⟨d, hd, hu⟩ := und_of hE hH hu
    cases hb : Nat.beq c inex with
    | true => rw [hb] at h; cases h
    | false =>
      rw [hb] at h
      cases h
      have key : ∀ a', SV P m w (Builtin.cap_ ts ty #[.slice a' n c]) (.int .i64 (c : Int)) := fun a' =>
        ⟨_, by simp [Builtin.cap_, ht, run_und hE hd w, hu, goInt], .int _ _⟩
      cases hx with
      | nils => exact key _
      | sl _ _ _ _ y hy _ _ => exact key _
      | slx _ _ _ _ y hy _ _ => simp at hb
      | sle _ _ a y hy _ => simp at hb
      | slz _ _ a => exact key _
  · cases h

omit hE hH in
theorem lenOf_run {x x' : Value} {n : Nat} (h : lenOfD x = some n) (hx : VR m x x') : (Builtin.lenOf x').run P w = .ok n w := by
  unfold lenOfD at h
  split at h
  · cases h; cases hx <;> rfl
  · cases h; cases hx; simp [Builtin.lenOf]
  · cases h

theorem firstD_run {x x' : Value} {size n xl : Nat} {new : List Value} (h : firstD S size n x = some new) (hx : VR m x x') (hl : lenOfD x = some xl) (hn : n ≤ xl) :
    ∃ new', (Builtin.firstCells size n x').run P w = .ok new' w ∧ VRs m new new'.toList := by
  unfold firstD at h
  split at h
  · obtain ⟨h1, h2⟩ := cond_some h
    cases h2
    cases hx
    exact ⟨#[], by simp [Builtin.firstCells], .nil⟩
  · rename_i b o len cap
    cases hl
    have zero : ∀ a c, (n * size = 0) → new = [] → ∃ new', (Builtin.firstCells size n (.slice (some a) n c)).run P w = .ok new' w ∧ VRs m new new'.toList := by
      intro a c h0 e0
      exact ⟨#[], by simp [Builtin.firstCells, h0, loadCells, loadCellsFrom], by rw [e0]; exact .nil⟩
    cases hb : Nat.beq (n * size) 0 with
    | true =>
      rw [hb] at h
      cases h
      have h0 := Nat.eq_of_beq_eq_true hb
      cases hx <;> exact ⟨#[], by simp [Builtin.firstCells, h0, loadCells, loadCellsFrom], .nil⟩
    | false =>
      rw [hb] at h
      obtain ⟨y, l', h1, h2, h3⟩ := loadN_run (P := P) hH h
      have h0 : n * size ≠ 0 := fun e => by rw [e] at hb; simp at hb
      cases hx with
      | sl _ _ _ _ y' hy _ _ => rw [h1] at hy; cases hy; exact ⟨l', h2, h3⟩
      | slx _ _ _ _ y' hy _ _ => rw [h1] at hy; cases hy; exact ⟨l', h2, h3⟩
      | sle _ _ a y' hy _ => exact absurd (by rw [show n = 0 by omega]; simp) h0
      | slz _ _ a => exact absurd (by rw [show n = 0 by omega]; simp) h0
  · rename_i s
    cases h; cases hx
    have hn' : n ≤ s.size := by cases hl; exact hn
    refine ⟨_, by simp only [Builtin.firstCells, Sem.run_pure]; rfl, ?_⟩
    have : ((s.extract 0 n).data.map fun b => Value.int .u8 b.toNat).toList = (bytesOfS s).take n := by
      simp [bytesOfS, Array.toList_extract, List.extract_eq_take_drop]
    rw [this]
    exact VRs.map_same fun v hv => (bytesOfS_plain s v (List.mem_of_mem_take hv)).vr
  · cases h

omit hE hH in
theorem apK_or {u : TypeDesc} (h : apK u = true) : (∃ e, u = .slice e) ∨ u = .string := by cases u <;> simp_all [apK]

omit hH in
/-- The model's append, where there is room. -/
theorem append_fit {st xt ty e : TypeId} {ts : Array TypeId} {ds di dx : DInfo} (h0 : ts[0]? = some st) (h1 : ts[1]? = some xt) (hs : E.inf st = some ds) (hu : ds.und = .slice e) (hi : E.inf e = some di) (hxd : E.inf xt = some dx)
    (hnx : apK dx.und = true) {base : Option Addr} {sLen sCap n : Nat} {x' : Value} {new' : Array Value}
    (hn : (Builtin.lenOf x').run P w = .ok n w) (hc : (Builtin.firstCells di.size n x').run P w = .ok new' w) (hfit : sLen + n ≤ sCap) :
    (Builtin.append_ ts ty #[.slice base sLen sCap, x']).run P w =
      (match base with
       | some a => (do storeCells (a.add (sLen * di.size)) new'.toList; pure (.slice base (sLen + n) sCap) : Sem Value)
       | none => pure (.slice base (sLen + n) sCap)).run P w := by
  rcases apK_or hnx with ⟨e', hxu⟩ | hxu
  all_goals
    simp only [Builtin.append_, h0, h1, List.getElem?_toArray, List.getElem?_cons_zero, List.getElem?_cons_succ, Sem.run_bind, run_und hE hs w, hu, Result.andThen_ok, run_size hE hi w, run_und hE hxd w, hxu, Sem.run_pure, Bool.false_eq_true, if_false, hn, hfit, if_true, Bool.not_false, hc]
    cases base <;> rfl

omit hH in
/-- The model's append, where it makes a new array. -/
theorem append_grow {st xt ty e : TypeId} {ts : Array TypeId} {ds di dx : DInfo} {z : Value} (h0 : ts[0]? = some st) (h1 : ts[1]? = some xt) (hs : E.inf st = some ds) (hu : ds.und = .slice e) (hi : E.inf e = some di) (hxd : E.inf xt = some dx)
    (hnx : apK dx.und = true) {base : Option Addr} {sLen sCap n : Nat} {x' : Value} {old' new' : Array Value} (hz : di.zero = some z)
    (hn : (Builtin.lenOf x').run P w = .ok n w) (hc : (Builtin.firstCells di.size n x').run P w.drew = .ok new' w.drew) (ho : (Builtin.firstCells di.size sLen (.slice base sLen sCap)).run P w.drew = .ok old' w.drew) (hgrow : sCap < sLen + n)
    (hb1 : (sLen + n) * di.bytes ≤ 17592186044416) (hb2 : sLen + n ≤ 17592186044416) :
    ∃ c, sLen + n ≤ c ∧ (Builtin.append_ ts ty #[.slice base sLen sCap, x']).run P w =
      .ok (.slice (some ⟨w.heap.size, 0, none⟩) (sLen + n) c) (w.drew.alloc (.cells (old' ++ new' ++ Builtin.zeroCells z.cells (c - (sLen + n))) e)) := by
  have hfit : ¬ (sLen + n ≤ sCap) := by omega
  obtain ⟨ti, g1, g2, g3, g4⟩ := run_typeInfo hE hi w
  have hcap : ¬ (Builtin.nextslicecap (sLen + n) sCap * ti.bytes > 2 ^ 48) := by
    have := nextslicecap_le hgrow
    have h2 : Builtin.nextslicecap (sLen + n) sCap * ti.bytes ≤ 3 * (sLen + n) * ti.bytes := Nat.mul_le_mul_right _ this
    rw [g3] at h2 ⊢
    rw [Nat.mul_assoc] at h2
    omega
  have hmax : ¬ (((sLen + n : Nat) : Int) > IntKind.i64.max) := by
    simp only [IntKind.max, IntKind.signed, IntKind.bits]; simp; omega
  refine ⟨(sLen + n) + (w.tape w.drawn (.appendCap (sLen + n) sCap e)) % (2 ^ 63 - (sLen + n)), Nat.le_add_right _ _, ?_⟩
  have e1 : ({ w with drawn := w.drawn + 1 } : World) = w.drew := rfl
  have gd := run_zero hE hi w.drew hz
  obtain ⟨ti', g1', g2', g3', g4'⟩ := run_typeInfo hE hi w.drew
  rcases apK_or hnx with ⟨e', hxu⟩ | hxu
  all_goals
    simp only [Builtin.append_, h0, h1, List.getElem?_toArray, List.getElem?_cons_zero, List.getElem?_cons_succ, Sem.run_bind, run_und hE hs w, hu, Result.andThen_ok, run_size hE hi w, run_und hE hxd w, hxu, Sem.run_pure, Bool.false_eq_true, if_false, hn, hfit,
      g1, hmax, false_and, hcap, run_choose, Question.forced, Question.cut, e1, g1', run_askRoom, ho, Bool.not_false, if_true, hc, gd, newRow, run_newObj]
    rfl

/-- D's append, and the model's. -/
theorem appendD_sim {st xt ty : TypeId} {ts : Array TypeId} {s s' x x' v : Value} {S' : St} (h0 : ts[0]? = some st) (h1 : ts[1]? = some xt) (h : appendD E S st xt s x = some (v, S')) (hs : VR m s s') (hx : VR m x x') :
    SP E P m S w (Builtin.append_ ts ty #[s', x']) v S' := by
  unfold appendD at h
  split at h
  · rename_i e base sLen sCap hu
    obtain ⟨ds, hds, hu⟩ := und_of hE hH hu
    split at h
    · rename_i i xd hi hxu
      obtain ⟨dx, hdx, hxu⟩ := und_of hE hH hxu
      subst hxu
      obtain ⟨hap, h⟩ := cond_some h
      simp only [Option.bind_eq_some_iff] at h
      obtain ⟨z, hz, n, hn, new, hnew, h⟩ := h
      obtain ⟨hb, h⟩ := cond_some h
      simp only [Bool.and_eq_true, Nat.ble_eq, Nat.blt_eq] at hb
      obtain ⟨⟨⟨⟨hzs, hpos⟩, hnl⟩, hb1⟩, hb2⟩ := hb
      have hzs := Nat.eq_of_beq_eq_true hzs
      have hnl := Nat.eq_of_beq_eq_true hnl
      have hn' := lenOf_run (P := P) (w := w) hn hx
      obtain ⟨new', hc', hnv⟩ := firstD_run (P := P) hE hH hnew hx hn (Nat.le_refl _)
      have hH' : HR E m S w.drew := hH.drew
      obtain ⟨new2, hc2, hnv2⟩ := firstD_run (P := P) hE hH' hnew hx hn (Nat.le_refl _)
      have hzz : z.cells.size = i.size := by have := (cells_vr ((zero_plain hE hi hz).vr (m := m))).length; simp at this; omega
      have hnlen : new'.toList.length = n * i.size := by rw [← hnv.length]; exact hnl
      have hnlen2 : new2.toList.length = n * i.size := by rw [← hnv2.length]; exact hnl
      -- a new array
      have grow : ∀ (base' : Option Addr) (sCap' : Nat) (old : List Value) (old' : Array Value) (fz : Option (Nat × Nat)),
          (Builtin.firstCells i.size sLen (.slice base' sLen sCap')).run P w.drew = .ok old' w.drew → VRs m old old'.toList → old.length = sLen * i.size → sCap' < sLen + n →
          ∀ S1, HR E m S1 w.drew → Fr m S w m S1 w.drew → S1.next = S.next →
          SP E P m S w (Builtin.append_ ts ty #[.slice base' sLen sCap', x']) (.slice (some ⟨S.next, 0, none⟩) (sLen + n) inex) (S1.alloc (.cells (old ++ new) (some i.size) false fz)).2 := by
        intro base' sCap' old old' fz ho hov hol hgr S1 hS1 hF1 hnx
        obtain ⟨c, hc, hrun⟩ := append_grow (P := P) (w := w) (ty := ty) hE h0 h1 hds hu hi hdx hap hz hn' hc2 ho hgr hb1 hb2
        have hsp : (Builtin.zeroCells z.cells (c - (sLen + n))).toList.length = (c - (sLen + n)) * i.size := by
          rw [Array.length_toList, zeroCells_size, hzz]
        obtain ⟨y, g1, g2, g3, g4, g5, g6⟩ := newRow_run hS1 (hov.append hnv2) (sp := (Builtin.zeroCells z.cells (c - (sLen + n))).toList) e i.size fz
        rw [hnx] at g5 g6
        have eq : ((old'.toList ++ new2.toList) ++ (Builtin.zeroCells z.cells (c - (sLen + n))).toList).toArray = old' ++ new2 ++ Builtin.zeroCells z.cells (c - (sLen + n)) := by
          apply Array.ext'; simp
        rw [eq] at g5 g6
        refine ⟨_, _, _, hrun, ?_, g5, hF1.trans g6⟩
        have htot : y.base + 0 + c * y.sz = y.tot := by
          rw [g2, g3, g4, List.length_append, hnlen2, hsp, ← hov.length, hol, ← Nat.add_mul, ← Nat.add_mul]
          simp; congr 1; omega
        have := VR.slx (m := m.put S.next y) S.next 0 (sLen + n) c y (by simp) hc htot
        rw [g1, g2] at this
        exact this
      cases base with
      | none =>
        cases hs
        cases hb0 : Nat.beq n 0 with
        | true =>
          rw [hb0] at h; cases h
          have e0 := Nat.eq_of_beq_eq_true hb0
          subst e0
          refine ⟨.slice none 0 0, m, w, ?_, .nils, hH, .refl _ _ _⟩
          rw [append_fit (ty := ty) hE h0 h1 hds hu hi hdx hap hn' hc' (Nat.le_refl _)]
          rfl
        | false =>
          rw [hb0] at h; cases h
          have hn0 : n ≠ 0 := fun e => by rw [e] at hb0; simp at hb0
          have := grow none 0 [] #[] none (by simp [Builtin.firstCells]) .nil (by simp) (by omega) S hH' Fr.drew rfl
          simpa using this
      | some a =>
        obtain ⟨b, o, sp⟩ := a
        cases sp with
        | some _ => cases h
        | none =>
          dsimp only at h
          cases hb0 : Nat.beq n 0 with
          | true =>
            rw [hb0] at h; cases h
            have e0 := Nat.eq_of_beq_eq_true hb0
            subst e0
            have hnil : new' = #[] := Array.eq_empty_of_size_eq_zero (by simpa using hnlen)
            have stay : ∀ a' c', sLen ≤ c' → VR m (.slice (some ⟨b, o, none⟩) sLen sCap) (.slice (some a') sLen c') →
                SP E P m S w (Builtin.append_ ts ty #[.slice (some a') sLen c', x']) (.slice (some ⟨b, o, none⟩) sLen sCap) S := by
              intro a' c' hle hv
              refine ⟨.slice (some a') sLen c', m, w, ?_, hv, hH, .refl _ _ _⟩
              rw [append_fit (ty := ty) hE h0 h1 hds hu hi hdx hap hn' hc' (by simpa using hle)]
              simp [hnil, storeCells]
            cases hs with
            | sl _ _ _ _ y hy h5 h6 => exact stay _ _ h6 (.sl _ _ _ _ y hy h5 h6)
            | slx _ _ _ c y hy h5 h6 => exact stay _ _ h5 (.slx _ _ _ c y hy h5 h6)
            | sle _ _ a y hy h5 => exact stay _ _ (Nat.le_refl _) (.sle _ _ a y hy h5)
            | slz _ _ a => exact stay _ _ (Nat.le_refl _) (.slz _ _ a)
          | false =>
            rw [hb0] at h
            have hn0 : n ≠ 0 := fun e => by rw [e] at hb0; simp at hb0
            simp only [cond_false] at h
            have addr : ∀ y : BM, Addr.add ⟨y.blk, y.base + o, none⟩ (sLen * i.size) = ⟨y.blk, y.base + (o + sLen * i.size), none⟩ := by
              intro y
              unfold Addr.add; split
              · rename_i h0; simp [h0]
              · simp [Nat.add_assoc]
            cases hbi : Nat.beq sCap inex with
            | true =>
              rw [hbi] at h
              have ei := Nat.eq_of_beq_eq_true hbi
              subst ei
              simp only [cond_true] at h
              split at h
              · rename_i cs sz ro fz hg
                obtain ⟨hsz, h4⟩ := cond_some h
                clear h
                have hsz := Nat.eq_of_beq_eq_true hsz
                subst hsz
                obtain ⟨y, ccs, ce, fr, q1, q2, q3, q4, q5, q6, q7⟩ := hH.cells hg
                have hysz := q7 _ rfl
                cases hfit : Nat.ble (o + (sLen + n) * i.size) cs.length with
                | true =>
                  rw [hfit] at h4
                  simp only [cond_true, Option.map_eq_some_iff] at h4
                  obtain ⟨S2, h2, h3⟩ := h4
                  cases h3
                  rw [Nat.ble_eq] at hfit
                  have hsn : (sLen + n) * i.size = sLen * i.size + n * i.size := Nat.add_mul _ _ _
                  have hnpos : 0 < n * i.size := Nat.mul_pos (by omega) hpos
                  cases hs with
                  | sl _ _ _ _ y' hy hne _ => exact absurd rfl hne
                  | slx _ _ _ c y' hy hle htot =>
                    rw [q1] at hy; cases hy
                    have hroom : sLen + n ≤ c := by
                      rcases Nat.lt_or_ge c (sLen + n) with hlt | hge
                      · have : (c + 1) * i.size ≤ (sLen + n) * i.size := Nat.mul_le_mul_right _ hlt
                        rw [Nat.add_mul] at this
                        rw [hysz] at htot
                        omega
                      · exact hge
                    obtain ⟨y2, w2, r1, r2, r3, r4⟩ := storeN_run (P := P) hH h2 hnv
                    rw [q1] at r1; cases r1
                    refine ⟨.slice (some ⟨y.blk, y.base + o, none⟩) (sLen + n) c, m, w2, ?_, .slx _ _ _ c y q1 hroom htot, r3, r4⟩
                    rw [append_fit (ty := ty) hE h0 h1 hds hu hi hdx hap hn' hc' hroom]
                    simp only [addr, Sem.run_bind, r2, Result.andThen_ok, Sem.run_pure]
                  | sle _ _ a y' hy htot =>
                    rw [q1] at hy; cases hy
                    simp only [Nat.zero_add] at hfit
                    omega
                | false =>
                  rw [hfit] at h4
                  simp only [cond_false] at h4
                  obtain ⟨hk, h5⟩ := cond_some h4
                  clear h4
                  cases h5
                  simp only [Bool.and_eq_true, Bool.not_eq_true', Nat.ble_eq, List.all_eq_true] at hk
                  obtain ⟨⟨⟨hro, hle⟩, hone⟩, hfz⟩ := hk
                  subst hro
                  have hold : VRs m ((cs.drop o).take (sLen * i.size)) ((ccs.toList.drop (y.base + o)).take (sLen * i.size)) := by
                    have := (q5.drop o).take (sLen * i.size)
                    have e1 : List.take (sLen * i.size) (List.drop o (List.take cs.length (List.drop y.base ccs.toList))) = List.take (sLen * i.size) (List.drop (y.base + o) ccs.toList) := take_drop_take hle
                    rw [e1] at this
                    exact this
                  have holdlen : ((cs.drop o).take (sLen * i.size)).length = sLen * i.size := by simp; omega
                  have hccs : ccs.toList.length = ccs.size := Array.length_toList
                  -- the old block is given up
                  obtain ⟨k1, k2⟩ := HR.kill hH b
                  have k1' : HR E m (S.upd b .dead) w.drew := k1.drew
                  have k2' : Fr m S w m (S.upd b .dead) w.drew := k2.trans Fr.drew
                  cases hs with
                  | sl _ _ _ _ y' hy hne _ => exact absurd rfl hne
                  | slx _ _ _ c y' hy hlec htot =>
                    rw [q1] at hy; cases hy
                    rcases Nat.lt_or_ge c (sLen + n) with hlt | hge
                    · -- anew
                      have hrow : w.drew.heap[y.blk]? = some (.cells ccs ce fr) := q2
                      refine grow _ _ _ _ _ ?_ hold holdlen hlt _ k1' k2' rfl
                      simp only [Builtin.firstCells]
                      exact run_loadCells hrow (by omega)
                    · -- in place
                      have hone' : ∀ v ∈ new'.toList, v.oneCell' = true := by
                        have key : ∀ {l l' : List Value}, VRs m l l' → (∀ v ∈ l, St.one v = true) → ∀ v ∈ l', v.oneCell' = true := by
                          intro l l' hr
                          induction hr with
                          | nil => intro _ v hv; cases hv
                          | cons h1 _ ih =>
                            intro hall v hmem
                            cases hmem with
                            | head =>
                              have := hall _ (List.mem_cons_self)
                              cases h1 <;> simp_all [St.one, Value.oneCell']
                            | tail _ hm => exact ih (fun u hu => hall u (List.mem_cons_of_mem _ hu)) v hm
                        exact key hnv hone
                      have hcn : (sLen + n) * i.size ≤ c * i.size := Nat.mul_le_mul_right _ hge
                      have hsn : (sLen + n) * i.size = sLen * i.size + n * i.size := Nat.add_mul _ _ _
                      rw [hysz] at htot
                      have hnf : ∀ j, y.base + (o + sLen * i.size) + 0 ≤ j → j < y.base + (o + sLen * i.size) + 0 + new'.toList.length → (decide (fr.1 ≤ j) && decide (j < fr.2)) = false := by
                        intro j hj1 hj2
                        cases fz with
                        | none => rw [show fr = (0, 0) from q6]; simp
                        | some p =>
                          obtain ⟨lo, hi⟩ := p
                          rw [Bool.and_eq_false_iff]
                          by_cases hin : fr.1 ≤ j ∧ j < fr.2
                          · have := q6 j hin.1 hin.2 (by omega) (by omega)
                            simp only [St.fzOk, Bool.or_eq_true, Nat.ble_eq] at hfz
                            simp only at this
                            omega
                          · simp; omega
                      have hrun := run_storeCells (P := P) new'.toList w ccs (y.base + (o + sLen * i.size)) 0 q2 (by omega) hone' hnf
                      have hbl : y.blk < w.heap.size := (Array.getElem?_eq_some_iff.1 q2).1
                      let y2 : BM := ⟨y.blk, y.base + o, y.tot, i.size⟩
                      have hle2 : m.le (m.put S.next y2) := Mp.le_put hH.fresh
                      obtain ⟨r1, r2⟩ := HR.move hH (o' := .cells ((cs.drop o).take (sLen * i.size) ++ new) (some i.size) false (fz.map fun p => (p.1 - o, p.2 - o))) (x' := y2)
                        (w' := w.putObj y.blk (.cells (splice ccs.toList (y.base + (o + sLen * i.size) + 0) new'.toList).toArray ce fr)) hg rfl q1 rfl (by
                          rw [World.putObj_heap_same hbl]
                          refine ⟨_, ce, fr, rfl, ?_, ?_, ?_, ?_, by intro z hz; cases hz; rfl⟩
                          · simp only [List.size_toArray, Nat.add_zero]
                            rw [splice_length (by omega)]; simpa using q3
                          · show y.base + o + _ ≤ y.tot
                            rw [List.length_append, holdlen, hnl]; omega
                          · have e1 : (((splice ccs.toList (y.base + (o + sLen * i.size) + 0) new'.toList).toArray.toList.drop y2.base).take ((cs.drop o).take (sLen * i.size) ++ new).length) =
                                (ccs.toList.drop (y.base + o)).take (sLen * i.size) ++ new'.toList := by
                              show (List.drop (y.base + o) _).take _ = _
                              rw [List.length_append, holdlen, hnl, ← hnlen]
                              have := splice_take (l := ccs.toList) (new := new'.toList) (B := y.base + o) (L := sLen * i.size) (by rw [hccs, hnlen]; omega)
                              rw [Nat.add_zero, ← Nat.add_assoc]
                              exact this
                            rw [e1]
                            exact (hold.append hnv).mono hle2
                          · cases fz with
                            | none => exact q6
                            | some p =>
                              intro j j1 j2 j3 j4
                              have j3 : y.base + o ≤ j := j3
                              have j4 : j < y.tot := j4
                              have := q6 j j1 j2 (by omega) j4
                              show p.1 - o ≤ j - (y.base + o) ∧ j - (y.base + o) < p.2 - o
                              omega) World.putObj_size (fun c hc => World.putObj_heap_other hc) rfl rfl rfl
                      refine ⟨.slice (some ⟨y.blk, y.base + o, none⟩) (sLen + n) c, _, _, ?_, ?_, r1, r2⟩
                      · rw [append_fit (ty := ty) hE h0 h1 hds hu hi hdx hap hn' hc' hge]
                        simp only [addr, Sem.run_bind, hrun, Result.andThen_ok, Sem.run_pure]
                      · exact VR.slx (m := m.put S.next y2) S.next 0 (sLen + n) c y2 (by simp) hge (by show y.base + o + 0 + c * i.size = y.tot; omega)
                  | sle _ _ a y' hy htot =>
                    rw [q1] at hy; cases hy
                    refine grow _ _ _ #[] _ ?_ (by simpa using hold) holdlen (by omega) _ k1' k2' rfl
                    simp [Builtin.firstCells, loadCells, loadCellsFrom]
              · cases h
            | false =>
              rw [hbi] at h
              simp only [cond_false] at h
              cases hfit : Nat.ble (sLen + n) sCap with
              | true =>
                rw [hfit] at h
                simp only [cond_true, Option.map_eq_some_iff] at h
                obtain ⟨S2, h2, h3⟩ := h
                cases h3
                rw [Nat.ble_eq] at hfit
                cases hs with
                | sl _ _ _ _ y hy hne hle =>
                  obtain ⟨y2, w2, r1, r2, r3, r4⟩ := storeN_run (P := P) hH h2 hnv
                  rw [hy] at r1; cases r1
                  refine ⟨.slice (some ⟨y.blk, y.base + o, none⟩) (sLen + n) sCap, m, w2, ?_, .sl _ _ _ _ y hy hne hfit, r3, r4⟩
                  rw [append_fit (ty := ty) hE h0 h1 hds hu hi hdx hap hn' hc' hfit]
                  simp only [addr, Sem.run_bind, r2, Result.andThen_ok, Sem.run_pure]
                | slx _ _ _ c y hy hle htot => simp at hbi
                | sle _ _ a y hy htot => simp at hbi
                | slz _ _ a => omega
              | false =>
                rw [hfit] at h
                simp only [cond_false, Option.map_eq_some_iff] at h
                obtain ⟨old, h2, h3⟩ := h
                cases h3
                have hgr : sCap < sLen + n := by
                  rcases Nat.lt_or_ge sCap (sLen + n) with hl | hl
                  · exact hl
                  · have : Nat.ble (sLen + n) sCap = true := by rw [Nat.ble_eq]; exact hl
                    rw [this] at hfit; cases hfit
                have hol := loadN_len h2
                obtain ⟨y, l', r1, r2, r3⟩ := loadN_run (P := P) hH' h2
                cases hs with
                | sl _ _ _ _ y' hy hne hle =>
                  rw [hy] at r1; cases r1
                  exact grow _ _ old l' none (by simpa only [Builtin.firstCells] using r2) r3 hol hgr S hH' Fr.drew rfl
                | slx _ _ _ c y' hy hle htot => simp at hbi
                | sle _ _ a y' hy htot => simp at hbi
                | slz _ _ a =>
                  have hol0 : old = [] := List.length_eq_zero_iff.1 (by simpa using hol)
                  subst hol0
                  exact grow _ _ [] #[] none (by simp [Builtin.firstCells, loadCells, loadCellsFrom]) .nil (by simp) hgr S hH' Fr.drew rfl
    · cases h
  · cases h

end

end Go.Proofs.Ytcookjolkhcjhaa.D
