/- Parts of the proof, put together. -/
import Derived.Test.YtcdignblakejoaaDD
import Derived.Lib.Join
import Derived.Lib.Split
import Derived.Lib.AtoiAll
import Derived.Lib.ParseIntB
import Derived.Lib.ItoaNum
import Derived.Lib.SplitLaws
import Derived.Sort.Row
import Derived.Deep.Draws
import Derived.LaidSub
import Derived.Lib.Bytealg
import Derived.Lib.IndexMore
import Derived.Lib.Overlaps
/-
  D, part 35: functions of Go's library that are met by contracts: strings.Join, strings.Split, strconv.Atoi, strconv.ParseUint, internal/strconv.formatBase10.
-/
namespace Go.Proofs.Ytcdignblakejoaa.D
noncomputable section
open Go.RowKit
set_option linter.unusedVariables false
set_option linter.unusedSimpArgs false

theorem hr_below {E : Env} {m : Mp} {S : St} {w w' : World} (hH : HR E m S w) (b : Below w.heap.size w w') : HR E m S w' ∧ Fr m S w m S w' := by
  refine ⟨⟨hH.dom, hH.glob, fun c o x hg hl hm => ?_, hH.inj⟩, ⟨Mp.le_refl m, b.size, b.os, b.tape, b.output, fun c hc _ => b.block c hc, fun _ _ h => h, Nat.le_refl _, fun _ _ h => ⟨h, rfl⟩⟩⟩
  have h := hH.obj c o x hg hl hm
  rw [b.block _ (OR.lt hl h)]
  exact h
/-- A function that leaves D's memory as it is, by its contract. -/
theorem callOk_pure {E : Env} {P : Program} {f : Nat} (hen : Enterable P f) {p : List Value → St → Option Value}
    (h : ∀ args S v, p args S = some v → ∀ m w (args' : Array Value), HR E m S w → VRs m args args'.toList → Calls P f args' w fun e w' => ∃ v', e = .returned v' ∧ VR m v v' ∧ Below w.heap.size w w') :
    CallOk E P (fun g args S => if g = f then (p args S).map (·, S) else none) := by
  intro g args S v S' hg
  dsimp only at hg
  split at hg
  · rename_i e; subst e
    rw [Option.map_eq_some_iff] at hg
    obtain ⟨u, h1, h2⟩ := hg
    cases h2
    refine .inl ⟨hen, fun m w args' n hH hv => callsIn_wide.2 ((h args S _ h1 m w args' hH hv).mono ?_)⟩
    rintro e w' ⟨v', rfl, h3, h4⟩
    exact ⟨v', m, rfl, h3, hr_below hH h4⟩
  · cases hg
theorem callOk_any {E : Env} {P : Program} {f : Nat} (hen : Enterable P f) {p : List Value → St → Option (Value × St)}
    (h : ∀ args S v S', p args S = some (v, S') → ∀ m w (args' : Array Value), HR E m S w → VRs m args args'.toList → Calls P f args' w fun e w' => ∃ v' m', e = .returned v' ∧ VR m' v v' ∧ HR E m' S' w' ∧ Fr m S w m' S' w') :
    CallOk E P (fun g args S => if g = f then p args S else none) := by
  intro g args S v S' hg
  dsimp only at hg
  split at hg
  · rename_i e; subst e
    exact .inl ⟨hen, fun m w args' n hH hv => callsIn_wide.2 (h args S v S' hg m w args' hH hv)⟩
  · cases hg
theorem WC_prim {E : Env} {f : Nat} {p : List Value → St → Option (Value × St)} {args : List Value} {S S' : St} {v : Value} {Q : Value → St → Prop} (hp : E.prim f = some p) (h : p args S = some (v, S')) (hq : Q v S') : WC E f args S Q :=
  ⟨0, v, S', by unfold callF; rw [hp]; exact h, hq⟩

/-! ### What a contract wants to see of the model's memory -/
section
variable {E : Env} {m : Mp} {S : St} {w : World} (hH : HR E m S w)
include hH
theorem HR.cell_at {b o : Nat} {v : Value} {x : BM} (hm : m b = some x) (h : S.load1 b o = some v) : ∃ v', w.cell? ⟨x.blk, x.base + o, none⟩ = some v' ∧ VR m v v' := by
  unfold St.load1 at h
  split at h
  · rename_i cs more ro fz hg
    obtain ⟨y, ccs, e, fr, h1, h2, h3, h4, h5, _⟩ := hH.cells ⟨x, hm⟩ hg
    rw [hm] at h1; cases h1
    obtain ⟨v', hv', hr⟩ := h5.get h
    refine ⟨v', ?_, hr⟩
    have hlt : o < cs.length := by
      rcases Nat.lt_or_ge o cs.length with hl | hl
      · exact hl
      · rw [List.getElem?_eq_none hl] at h; cases h
    have : ccs[x.base + o]? = some v' := by
      rw [List.getElem?_take_of_lt hlt, List.getElem?_drop] at hv'
      simpa using hv'
    simp [World.cell?, h2, this]
  · cases h
theorem HR.glob_at {g o : Nat} {v : Value} (hg : g < E.globs) (h : S.load1 g o = some v) : ∃ v', w.cell? ⟨g, o, none⟩ = some v' ∧ VR m v v' := by
  obtain ⟨x, h1, h2, h3⟩ := hH.glob g hg
  have := hH.cell_at h1 h
  rwa [h2, h3, Nat.zero_add] at this
end

/-! ### strings.Join -/
def strsOf : List Value → Option (List ByteArray)
  | [] => some []
  | .string s :: r => (strsOf r).map (s :: ·)
  | _ => none
theorem strsOf_get : ∀ {l : List Value} {xs : List ByteArray}, strsOf l = some xs → xs.length = l.length ∧ ∀ (j : Nat) x, xs[j]? = some x → l[j]? = some (.string x)
  | [], xs, h => by cases h; exact ⟨rfl, by simp⟩
  | v :: r, xs, h => by
    cases v <;> simp only [strsOf] at h <;> first | (cases h; done) | skip
    rw [Option.map_eq_some_iff] at h
    obtain ⟨ys, h1, rfl⟩ := h
    obtain ⟨h2, h3⟩ := strsOf_get h1
    refine ⟨by simp [h2], fun j x hj => ?_⟩
    cases j with
    | zero => simpa using hj
    | succ j => exact h3 j x (by simpa using hj)
theorem strsOf_map (xs : List ByteArray) : strsOf (xs.map Value.string) = some xs := by
  induction xs with
  | nil => rfl
  | cons x xs ih => simp only [List.map_cons, strsOf, ih, Option.map_some]
def joinB (xs : List ByteArray) (sep : ByteArray) : List UInt8 := Lib.join (xs.map (·.data.toList)) sep.data.toList
def joinP (args : List Value) (S : St) : Option Value :=
  match args with
  | [.slice a n _, .string sep] =>
    match n with
    | 0 => some (.string ⟨#[]⟩)
    | k + 1 =>
      match a with
      | some ⟨b, o, none⟩ => (S.loadN b o (k + 1)).bind fun vs => (strsOf vs).bind fun xs =>
          cond (Nat.ble (joinB xs sep).length 140737488355328 && Nat.ble (k + 1) 140737488355328) (some (.string ⟨(joinB xs sep).toArray⟩)) none
      | _ => none
  | _ => none
theorem loadN_get {S : St} {b o n : Nat} {vs : List Value} (h : S.loadN b o n = some vs) {j : Nat} {v : Value} (hj : vs[j]? = some v) : S.load1 b (o + j) = some v := by
  unfold St.loadN at h
  unfold St.load1
  split at h
  · obtain ⟨_, h⟩ := cond_some h
    cases h
    rw [List.getElem?_take] at hj
    split at hj
    · rwa [List.getElem?_drop] at hj
    · cases hj
  · cases h
theorem loadN_len' {S : St} {b o n : Nat} {vs : List Value} (h : S.loadN b o n = some vs) : vs.length = n := by
  unfold St.loadN at h
  split at h
  · obtain ⟨hb, h⟩ := cond_some h
    cases h
    exact Nat.eq_of_beq_eq_true hb
  · cases h
theorem vr_slice {m : Mp} {b o n cap : Nat} {v' : Value} (h : VR m (.slice (some ⟨b, o, none⟩) (n + 1) cap) v') : ∃ x cap', m b = some x ∧ v' = .slice (some ⟨x.blk, x.base + o, none⟩) (n + 1) cap' ∧ n + 1 ≤ cap' := by
  cases h with
  | sl _ _ _ _ x h1 _ h3 => exact ⟨x, _, h1, rfl, h3⟩
  | slx _ _ _ _ x h1 h3 _ => exact ⟨x, _, h1, rfl, h3⟩
theorem vr_slice0 {m : Mp} {a : Option Addr} {cap : Nat} {v' : Value} (h : VR m (.slice a 0 cap) v') : ∃ a' cap', v' = .slice a' 0 cap' := by
  cases h with
  | nils => exact ⟨_, _, rfl⟩
  | sl => exact ⟨_, _, rfl⟩
  | slx => exact ⟨_, _, rfl⟩
  | sle => exact ⟨_, _, rfl⟩
  | slz => exact ⟨_, _, rfl⟩
theorem join_ok {E : Env} {P : Program} {f : Nat} (hen : Enterable P f)
    (c0 : ∀ (a : Option Addr) (c : Nat) (sep : ByteArray) (w : World), Calls P f #[.slice a 0 c, .string sep] w fun e w' => e = .returned (.string ⟨#[]⟩) ∧ w' = w)
    (c1 : ∀ (bk o c : Nat) (xs : List ByteArray) (sep : ByteArray) (w : World), (∀ (j : Nat) x, xs[j]? = some x → w.cell? ⟨bk, o + j, none⟩ = some (.string x)) → bk < w.heap.size → xs.length ≤ 140737488355328 → xs.length ≤ c →
      (Lib.join (xs.map (·.data.toList)) sep.data.toList).length ≤ 140737488355328 →
      Calls P f #[.slice (some ⟨bk, o, none⟩) xs.length c, .string sep] w fun e w' => e = .returned (.string ⟨(Lib.join (xs.map (·.data.toList)) sep.data.toList).toArray⟩) ∧ Below w.heap.size w w') :
    CallOk E P (fun g args S => if g = f then (joinP args S).map (·, S) else none) := by
  refine callOk_pure hen fun args S v h m w args' hH hv => ?_
  unfold joinP at h
  split at h
  · rename_i a n cap sep
    obtain ⟨x', y', e1, hx, hy⟩ := VRs.inv2 hv
    cases hy
    obtain rfl : args' = #[x', .string sep] := Array.ext' e1
    split at h
    · cases h
      obtain ⟨a', cap', rfl⟩ := vr_slice0 hx
      refine (c0 a' cap' sep w).mono ?_
      rintro e w' ⟨rfl, rfl⟩
      exact ⟨_, rfl, .string _, Below.refl _ _⟩
    · rename_i k
      split at h
      · rename_i b o
        simp only [Option.bind_eq_some_iff] at h
        obtain ⟨vs, h1, xs, h2, h3⟩ := h
        obtain ⟨hb, h3⟩ := cond_some h3
        cases h3
        simp only [Bool.and_eq_true, Nat.ble_eq] at hb
        obtain ⟨x, cap', hm, rfl, hcap⟩ := vr_slice hx
        obtain ⟨g1, g2⟩ := strsOf_get h2
        have g3 := loadN_len' h1
        have hlen : xs.length = k + 1 := by omega
        have hbk : x.blk < w.heap.size := by
          obtain ⟨v', h4, _⟩ := hH.cell_at hm (loadN_get h1 (j := 0) (v := vs[0]'(by omega)) (List.getElem?_eq_getElem _))
          unfold World.cell? at h4
          rcases Nat.lt_or_ge x.blk w.heap.size with hlt | hge
          · exact hlt
          · rw [Array.getElem?_eq_none hge] at h4; cases h4
        have := c1 x.blk (x.base + o) cap' xs sep w (fun j y hj => by
          obtain ⟨v', h4, h5⟩ := hH.cell_at hm (loadN_get h1 (g2 j y hj))
          cases h5
          rwa [Nat.add_assoc]) hbk (by omega) (by omega) hb.1
        rw [hlen] at this
        refine this.mono ?_
        rintro e w' ⟨rfl, h4⟩
        exact ⟨_, rfl, .string _, h4⟩
      · cases h
  · cases h

/-! ### strings.Split -/
def splitP (g1 : Nat) (args : List Value) (S : St) : Option (Value × St) :=
  match args with
  | [.string s, .string sep] =>
    match S.load1 g1 0 with
    | some (.int .i64 _) =>
      cond (Nat.blt s.size 4294967281 && Nat.ble 1 sep.size)
        (let l := Lib.splitB sep 0 (Lib.countB s sep) s
         some (.slice (some ⟨S.next, 0, none⟩) (Lib.countB s sep + 1) (Lib.countB s sep + 1), (S.alloc (.cells (l.map Value.string) none false none)).2)) none
    | _ => none
  | _ => none
theorem split_ok {E : Env} {P : Program} {f g1 t9 : Nat} (hg1 : g1 < E.globs) (hen : Enterable P f)
    (c : ∀ (s sep : ByteArray) (m : Int) (w : World), s.size < 4294967281 → w.cell? ⟨g1, 0, none⟩ = some (.int .i64 m) → 1 ≤ sep.size →
      Calls P f #[.string s, .string sep] w fun e w' => e = .returned (.slice (some ⟨w.heap.size, 0, none⟩) (Lib.countB s sep + 1) (Lib.countB s sep + 1)) ∧ w' = w.alloc (.cells ((Lib.splitB sep 0 (Lib.countB s sep) s).map Value.string).toArray t9)) :
    CallOk E P (fun g args S => if g = f then splitP g1 args S else none) := by
  refine callOk_any hen fun args S v S' h m w args' hH hv => ?_
  unfold splitP at h
  split at h
  · rename_i s sep
    obtain ⟨x', y', e1, hx, hy⟩ := VRs.inv2 hv
    cases hx; cases hy
    obtain rfl : args' = #[.string s, .string sep] := Array.ext' e1
    split at h
    · rename_i i hi
      obtain ⟨hb, h⟩ := cond_some h
      cases h
      simp only [Bool.and_eq_true, Nat.ble_eq, Nat.blt_eq] at hb
      obtain ⟨v', h1, h2⟩ := hH.glob_at hg1 hi
      cases h2
      refine (c s sep i w hb.1 h1 hb.2).mono ?_
      rintro e w' ⟨rfl, rfl⟩
      have hle := Lib.countB_le sep hb.2 s.size s (Nat.le_refl _)
      have hlen := Lib.splitB_all sep hb.2 0 _ s rfl
      obtain ⟨k1, k2⟩ := hH.alloc (.cells ((Lib.splitB sep 0 (Lib.countB s sep) s).map Value.string) none false none) (.cells ((Lib.splitB sep 0 (Lib.countB s sep) s).map Value.string).toArray t9) ⟨w.heap.size, 0, (Lib.splitB sep 0 (Lib.countB s sep) s).length, 1⟩ rfl
        ⟨_, t9, (0, 0), rfl, by simp, by simp, by
          simp only [List.drop_zero, List.toList_toArray]
          rw [List.take_of_length_le (Nat.le_refl _)]
          exact .of_get rfl fun j v v' e e' => by
            rw [e] at e'; cases e'
            rw [List.getElem?_map, Option.map_eq_some_iff] at e
            obtain ⟨y, _, rfl⟩ := e
            exact .string _, rfl, by simp⟩
      refine ⟨_, _, rfl, ?_, k1, k2⟩
      have := VR.sl (m := m.put S.next ⟨w.heap.size, 0, (Lib.splitB sep 0 (Lib.countB s sep) s).length, 1⟩) S.next 0 (Lib.countB s sep + 1) (Lib.countB s sep + 1) ⟨w.heap.size, 0, (Lib.splitB sep 0 (Lib.countB s sep) s).length, 1⟩ (by simp) (by unfold inex; omega) (Nat.le_refl _)
      exact this
    · cases h
  · cases h

/-! ### strconv.Atoi, strconv.ParseUint -/
def errB : Option Value → Bool
  | some .nilIface => true
  | some (.iface _ _) => true
  | _ => false
def noV : Value := .complex .f32 0 0
def atoiP (tE gs gr : Nat) (args : List Value) (S : St) : Option Value :=
  match args with
  | [.string s] =>
    cond (Nat.ble s.size 281474976710656 && (errB (S.load1 gs 0) && errB (S.load1 gr 0)))
      (some (match Lib.atoiAll s.data.toList with
        | .ok v => .tuple #[.int .i64 v, .nilIface]
        | Lib.NumEnd.syntax => .tuple #[.int .i64 0, .iface tE noV]
        | .range => .tuple #[.int .i64 (Lib.atoiSat s.data.toList), .iface tE noV])) none
  | _ => none
def puP (gs gr : Nat) (args : List Value) (S : St) : Option Value :=
  match args with
  | [.string s, .int .i64 10, .int .i64 64] =>
    cond (Nat.ble s.size 281474976710656 && (errB (S.load1 gs 0) && errB (S.load1 gr 0)))
      (some (match Lib.parseUintB 64 s.data.toList with
        | .ok v => .tuple #[.int .u64 (v : Nat), .nilIface]
        | Lib.NumEnd.syntax => .tuple #[.int .u64 0, noV]
        | .range => .tuple #[.int .u64 18446744073709551615, noV])) none
  | _ => none
theorem errB_at {E : Env} {m : Mp} {S : St} {w : World} (hH : HR E m S w) {g : Nat} (hg : g < E.globs) (h : errB (S.load1 g 0) = true) : ∃ ev, w.cell? ⟨g, 0, none⟩ = some ev ∧ (ev = .nilIface ∨ ∃ te pe, ev = .iface te pe) := by
  unfold errB at h
  split at h
  · rename_i e
    obtain ⟨v', h1, h2⟩ := hH.glob_at hg e
    cases h2
    exact ⟨_, h1, .inl rfl⟩
  · rename_i t v e
    obtain ⟨v', h1, h2⟩ := hH.glob_at hg e
    cases h2
    exact ⟨_, h1, .inr ⟨_, _, rfl⟩⟩
  · cases h
theorem vr_pair {m : Mp} {a a' b b' : Value} (h1 : VR m a a') (h2 : VR m b b') : VR m (.tuple #[a, b]) (.tuple #[a', b']) := by
  refine .tup _ _ rfl fun i v v' e e' => ?_
  match i with
  | 0 => simp at e e'; subst e e'; exact h1
  | 1 => simp at e e'; subst e e'; exact h2
  | n + 2 => simp at e
theorem atoi_ok {E : Env} {P : Program} {f tE gs gr : Nat} (hgs : gs < E.globs) (hgr : gr < E.globs) (hen : Enterable P f)
    (c1 : ∀ (s : ByteArray) (v : Int) (w : World), s.size ≤ 281474976710656 → Lib.atoiAll s.data.toList = .ok v → Calls P f #[.string s] w fun e w' => e = .returned (.tuple #[.int .i64 v, .nilIface]) ∧ Below w.heap.size w w')
    (c2 : ∀ (s : ByteArray) (ev : Value) (w : World), s.size ≤ 281474976710656 → Lib.atoiAll s.data.toList = Lib.NumEnd.syntax → w.cell? ⟨gs, 0, none⟩ = some ev → (ev = .nilIface ∨ ∃ te pe, ev = .iface te pe) →
      Calls P f #[.string s] w fun e w' => (∃ p, e = .returned (.tuple #[.int .i64 0, .iface tE (.pointer p)])) ∧ Below w.heap.size w w')
    (c3 : ∀ (s : ByteArray) (ev : Value) (w : World), s.size ≤ 281474976710656 → Lib.atoiAll s.data.toList = .range → w.cell? ⟨gr, 0, none⟩ = some ev → (ev = .nilIface ∨ ∃ te pe, ev = .iface te pe) →
      Calls P f #[.string s] w fun e w' => (∃ p, e = .returned (.tuple #[.int .i64 (Lib.atoiSat s.data.toList), .iface tE (.pointer p)])) ∧ Below w.heap.size w w') :
    CallOk E P (fun g args S => if g = f then (atoiP tE gs gr args S).map (·, S) else none) := by
  refine callOk_pure hen fun args S v h m w args' hH hv => ?_
  unfold atoiP at h
  split at h
  · rename_i s
    obtain ⟨x', e1, hx⟩ := VRs.inv1 hv
    cases hx
    obtain rfl : args' = #[.string s] := Array.ext' e1
    obtain ⟨hb, h⟩ := cond_some h
    cases h
    simp only [Bool.and_eq_true, Nat.ble_eq] at hb
    obtain ⟨hl, hs, hr⟩ := hb
    split
    · rename_i v hv
      refine (c1 s v w hl hv).mono ?_
      rintro e w' ⟨rfl, h4⟩
      exact ⟨_, rfl, vr_pair (.int _ _) .nili, h4⟩
    · rename_i hv
      obtain ⟨ev, g1, g2⟩ := errB_at hH hgs hs
      refine (c2 s ev w hl hv g1 g2).mono ?_
      rintro e w' ⟨⟨p, rfl⟩, h4⟩
      exact ⟨_, rfl, vr_pair (.int _ _) (.iface _ _ _ (.junk _ (by simp) (by simp) (by simp))), h4⟩
    · rename_i hv
      obtain ⟨ev, g1, g2⟩ := errB_at hH hgr hr
      refine (c3 s ev w hl hv g1 g2).mono ?_
      rintro e w' ⟨⟨p, rfl⟩, h4⟩
      exact ⟨_, rfl, vr_pair (.int _ _) (.iface _ _ _ (.junk _ (by simp) (by simp) (by simp))), h4⟩
  · cases h
theorem pu_ok {E : Env} {P : Program} {f gs gr : Nat} (hgs : gs < E.globs) (hgr : gr < E.globs) (hen : Enterable P f)
    (c1 : ∀ (s : ByteArray) (v : Nat) (w : World), s.size ≤ 281474976710656 → Lib.parseUintB 64 s.data.toList = .ok v → Calls P f #[.string s, .int .i64 10, .int .i64 64] w fun e w' => e = .returned (.tuple #[.int .u64 v, .nilIface]) ∧ Below w.heap.size w w')
    (c2 : ∀ (s : ByteArray) (ev : Value) (w : World), s.size ≤ 281474976710656 → Lib.parseUintB 64 s.data.toList = Lib.NumEnd.syntax → w.cell? ⟨gs, 0, none⟩ = some ev → (ev = .nilIface ∨ ∃ te pe, ev = .iface te pe) →
      Calls P f #[.string s, .int .i64 10, .int .i64 64] w fun e w' => (∃ t p, e = .returned (.tuple #[.int .u64 0, .iface t p])) ∧ Below w.heap.size w w')
    (c3 : ∀ (s : ByteArray) (ev : Value) (w : World), s.size ≤ 281474976710656 → Lib.parseUintB 64 s.data.toList = .range → w.cell? ⟨gr, 0, none⟩ = some ev → (ev = .nilIface ∨ ∃ te pe, ev = .iface te pe) →
      Calls P f #[.string s, .int .i64 10, .int .i64 64] w fun e w' => (∃ t p, e = .returned (.tuple #[.int .u64 18446744073709551615, .iface t p])) ∧ Below w.heap.size w w') :
    CallOk E P (fun g args S => if g = f then (puP gs gr args S).map (·, S) else none) := by
  refine callOk_pure hen fun args S v h m w args' hH hv => ?_
  unfold puP at h
  split at h
  · rename_i s
    obtain ⟨x', r', e1, hx, hr'⟩ := VRs.inv hv
    obtain ⟨y', z', e2, hy, hz⟩ := VRs.inv2 hr'
    cases hx; cases hy; cases hz
    rw [e2] at e1
    obtain rfl : args' = #[.string s, .int .i64 10, .int .i64 64] := Array.ext' e1
    obtain ⟨hb, h⟩ := cond_some h
    cases h
    simp only [Bool.and_eq_true, Nat.ble_eq] at hb
    obtain ⟨hl, hs, hr⟩ := hb
    split
    · rename_i v hv
      refine (c1 s v w hl hv).mono ?_
      rintro e w' ⟨rfl, h4⟩
      exact ⟨_, rfl, vr_pair (.int _ _) .nili, h4⟩
    · rename_i hv
      obtain ⟨ev, g1, g2⟩ := errB_at hH hgs hs
      refine (c2 s ev w hl hv g1 g2).mono ?_
      rintro e w' ⟨⟨t, p, rfl⟩, h4⟩
      exact ⟨_, rfl, vr_pair (.int _ _) (.junk _ (by simp) (by simp) (by simp)), h4⟩
    · rename_i hv
      obtain ⟨ev, g1, g2⟩ := errB_at hH hgr hr
      refine (c3 s ev w hl hv g1 g2).mono ?_
      rintro e w' ⟨⟨t, p, rfl⟩, h4⟩
      exact ⟨_, rfl, vr_pair (.int _ _) (.junk _ (by simp) (by simp) (by simp)), h4⟩
  · cases h
/-! ### internal/strconv.formatBase10 -/
def enc8 (b : UInt8) : Value := Value.int .u8 (b.toNat : Int)
def isB : Value → Bool
  | .int .u8 n => decide (0 ≤ n) && decide (n < 256)
  | _ => false
def digV (u n t : Nat) : Value := .int .u8 (((48 + u / 10 ^ (n - 1 - t) % 10 : Nat) : Int))
def digVs (u n : Nat) : List Value := (List.range n).map (digV u n)
def fmtP (args : List Value) (S : St) : Option (Value × St) :=
  match args with
  | [.slice (some ⟨b, o, none⟩) (k + 1) _, .int .u64 u] =>
    (S.loadN b o (k + 1)).bind fun vs =>
      cond (vs.all isB && (decide (0 ≤ u) && (Nat.blt u.toNat (10 ^ (k + 1)) && (Nat.blt u.toNat 18446744073709551616 && Nat.blt (k + 1) 4611686018427387904))))
        ((S.storeN b o (digVs u.toNat (k + 1))).map fun S' => (.tuple #[], S')) none
  | _ => none
theorem isB_enc {v : Value} (h : isB v = true) : ∃ b : UInt8, v = enc8 b := by
  unfold isB at h
  split at h
  · rename_i n
    simp only [Bool.and_eq_true, decide_eq_true_eq] at h
    refine ⟨UInt8.ofNat n.toNat, ?_⟩
    unfold enc8
    congr 1
    have e : (UInt8.ofNat n.toNat).toNat = n.toNat % 256 := rfl
    rw [e]
    omega
  · cases h
theorem fmt_ok {E : Env} {P : Program} {f : Nat} (hen : Enterable P f)
    (c : ∀ (blk off cap u : Nat) (d : Array UInt8) (w : World), Go.Sort.Holds (fun (b : UInt8) => Value.int .u8 (b.toNat : Int)) w blk off d → u < 10 ^ d.size → u < 18446744073709551616 → d.size < 4611686018427387904 →
      Calls P f #[.slice (some ⟨blk, off, none⟩) d.size cap, .int .u64 u] w fun e w' =>
        e = .returned (.tuple #[]) ∧ ∃ (n v' : Nat) (dk : Array UInt8), w' = (Go.Sort.putRow (fun (b : UInt8) => Value.int .u8 (b.toNat : Int)) w blk off dk).drewN n ∧ Lib.FmtInv d.size u 0 v' dk) :
    CallOk E P (fun g args S => if g = f then fmtP args S else none) := by
  refine callOk_any hen fun args S v S' h m w args' hH hv => ?_
  unfold fmtP at h
  split at h
  · rename_i b o k cap u
    obtain ⟨x', y', e1, hx, hy⟩ := VRs.inv2 hv
    cases hy
    obtain ⟨x, cap', hm, rfl, hcap⟩ := vr_slice hx
    obtain rfl : args' = #[.slice (some ⟨x.blk, x.base + o, none⟩) (k + 1) cap', .int .u64 u] := Array.ext' e1
    rw [Option.bind_eq_some_iff] at h
    obtain ⟨vs, h1, h⟩ := h
    obtain ⟨hb, h⟩ := cond_some h
    rw [Option.map_eq_some_iff] at h
    obtain ⟨S2, h2, h3⟩ := h
    cases h3
    simp only [Bool.and_eq_true, Nat.blt_eq, decide_eq_true_eq, List.all_eq_true] at hb
    obtain ⟨ha, hu0, hu1, hu2, hk⟩ := hb
    have hl := loadN_len' h1
    -- the block
    have h2' := h2
    unfold St.storeN at h2'
    split at h2'
    · rename_i cs more ro fz hg
      obtain ⟨y, ccs, e, fr, g1, g2, g3, g4, g5, g6, g7⟩ := hH.cells ⟨x, hm⟩ hg
      rw [hm] at g1; cases g1
      obtain ⟨hb2, h2'⟩ := cond_some h2'
      cases h2'
      simp only [Bool.and_eq_true, Bool.not_eq_true', Nat.ble_eq, List.all_eq_true] at hb2
      obtain ⟨⟨⟨hro, hle⟩, _⟩, hfz⟩ := hb2
      subst hro
      have hdl : (digVs u.toNat (k + 1)).length = k + 1 := by simp [digVs]
      rw [hdl] at hle hfz ⊢
      -- what stands there
      obtain ⟨d, hd1, hd2⟩ := list_of (p := fun i (c : UInt8) => vs[i]? = some (enc8 c)) (n := k + 1) (fun i hi => by
        have hi' : i < vs.length := by omega
        obtain ⟨c, hc⟩ := isB_enc (ha vs[i] (List.getElem_mem hi'))
        exact ⟨c, by rw [List.getElem?_eq_getElem hi', hc]⟩)
      have hH0 : Go.Sort.Holds (fun (b : UInt8) => Value.int .u8 (b.toNat : Int)) w x.blk (x.base + o) d.toArray := by
        intro j hj
        have hj : j < d.length := by simpa using hj
        obtain ⟨v', k1, k2⟩ := hH.cell_at hm (loadN_get h1 (hd2 j hj))
        cases k2
        refine ⟨?_, ?_⟩
        · rw [Nat.add_assoc, k1]
          rw [getElem!_pos d.toArray j (by simpa using hj)]
          rfl
        · unfold World.frozen?
          rw [g2]
          show (decide (fr.1 ≤ x.base + o + j) && decide (x.base + o + j < fr.2)) = false
          cases fz with
          | none => rw [show fr = (0, 0) from g6]; simp
          | some p =>
            obtain ⟨lo, hi⟩ := p
            rw [Bool.and_eq_false_iff]
            by_cases hin : fr.1 ≤ x.base + o + j ∧ x.base + o + j < fr.2
            · have := g6 _ hin.1 hin.2 (by omega) (by omega)
              simp only [St.fzOk, Bool.or_eq_true, Nat.ble_eq] at hfz
              simp only at this
              omega
            · simp; omega
      have hds : d.toArray.size = k + 1 := by simpa using hd1
      have hc := c x.blk (x.base + o) cap' u.toNat d.toArray w hH0 (by rw [hds]; exact hu1) hu2 (by rw [hds]; exact hk)
      rw [hds, show ((u.toNat : Nat) : Int) = u by omega] at hc
      refine hc.mono ?_
      rintro e' w' ⟨rfl, n, v', dk, rfl, hF⟩
      have hdk := hF.size
      have hblk : x.blk < w.heap.size := (Array.getElem?_eq_some_iff.1 g2).1
      have hheap : (Go.Sort.putRow (fun (b : UInt8) => Value.int .u8 (b.toNat : Int)) w x.blk (x.base + o) dk).heap[x.blk]? = some (.cells (Go.Sort.putCells (fun (b : UInt8) => Value.int .u8 (b.toNat : Int)) (x.base + o) dk ccs) e fr) := by
        simp only [Go.Sort.putRow, Go.Sort.mapBlock, Array.getElem?_modify, if_true, g2, Option.map_some, Go.Sort.onCells]
      obtain ⟨k1, k2⟩ := HR.upd (w' := Go.Sort.putRow (fun (b : UInt8) => Value.int .u8 (b.toNat : Int)) w x.blk (x.base + o) dk) hH hg rfl hm (o' := .cells (cs.take o ++ (digVs u.toNat (k + 1) ++ cs.drop (o + (k + 1)))) more false fz) (by
        rw [hheap]
        have hlen : (cs.take o ++ (digVs u.toNat (k + 1) ++ cs.drop (o + (k + 1)))).length = cs.length := by
          simp only [List.length_append, List.length_take, List.length_drop, hdl]; omega
        refine ⟨_, e, fr, rfl, by simp [Go.Sort.putCells, g3], by rw [hlen]; exact g4, ?_, g6, by rw [hlen]; exact g7⟩
        have hcs : ((ccs.toList.drop x.base).take cs.length).length = cs.length := by simp; omega
        refine .of_get (by rw [hlen]; simp [Go.Sort.putCells]; omega) fun i v v' ev ev' => ?_
        have hi : i < cs.length := by
          rw [← hlen]
          exact (List.getElem?_eq_some_iff.1 ev).1
        rw [hlen, List.getElem?_take_of_lt hi, List.getElem?_drop, Array.getElem?_toList] at ev'
        simp only [Go.Sort.putCells, Array.getElem?_mapIdx] at ev'
        have hcc : x.base + i < ccs.size := by omega
        rw [Array.getElem?_eq_getElem hcc, Option.map_some] at ev'
        by_cases hin : o ≤ i ∧ i < o + (k + 1)
        · rw [if_pos ⟨by omega, by rw [hdk]; omega⟩] at ev'
          rw [List.getElem?_append_right (by rw [List.length_take]; omega), List.getElem?_append_left (by rw [hdl, List.length_take]; omega)] at ev
          have e3 : i - (cs.take o).length = i - o := by rw [List.length_take]; omega
          rw [e3, digVs, List.getElem?_map, List.getElem?_range (by omega), Option.map_some] at ev
          have e4 := hF.done (i - o) (Nat.zero_le _) (by omega)
          rw [show x.base + i - (x.base + o) = i - o by omega, e4] at ev'
          cases ev; cases ev'
          have hd10 : u.toNat / 10 ^ (k + 1 - 1 - (i - o)) % 10 < 10 := Nat.mod_lt _ (by omega)
          have e5 : (Lib.dg u.toNat (k + 1 - 1 - (i - o))).toNat = 48 + u.toNat / 10 ^ (k + 1 - 1 - (i - o)) % 10 := by
            show (48 + u.toNat / 10 ^ (k + 1 - 1 - (i - o)) % 10) % 256 = _
            omega
          rw [e5]
          exact .int _ _
        · rw [if_neg (by rw [hdk]; omega)] at ev'
          have ev0 : cs[i]? = some v := by
            by_cases hio : i < o
            · rwa [List.getElem?_append_left (by rw [List.length_take]; omega), List.getElem?_take_of_lt hio] at ev
            · rw [List.getElem?_append_right (by rw [List.length_take]; omega), List.getElem?_append_right (by rw [hdl, List.length_take]; omega), List.getElem?_drop] at ev
              rw [hdl, List.length_take] at ev
              rwa [show o + (k + 1) + (i - min o cs.length - (k + 1)) = i by omega] at ev
          refine g5.get' ev0 ?_
          rw [List.getElem?_take_of_lt hi, List.getElem?_drop, Array.getElem?_toList, Array.getElem?_eq_getElem hcc]
          exact ev')
        (by simp [Go.Sort.putRow, Go.Sort.mapBlock]) (fun c hc => by simp only [Go.Sort.putRow, Go.Sort.mapBlock, Array.getElem?_modify]; rw [if_neg (Ne.symm hc)]) rfl rfl rfl
      exact ⟨_, m, rfl, .tup _ _ rfl (by simp), HR.of_heap k1 rfl, k2.trans (Fr.of_heap rfl rfl rfl rfl)⟩
    · cases h2'
  · cases h
/-! ### math/bits.Len64, internal/strconv.small -/
def lenP (args : List Value) (S : St) : Option Value :=
  match args with
  | [.int .u64 x] => cond (decide (0 ≤ x) && decide (x ≤ 18446744073709551615)) (some (.int .i64 ((Lib.bitLen x.toNat : Nat) : Int))) none
  | _ => none
def smallP (args : List Value) (S : St) : Option Value :=
  match args with
  | [.int .i64 i] => cond (decide (0 ≤ i) && decide (i < 100)) (some (.string ⟨(Lib.decDigits i.toNat).toArray⟩)) none
  | _ => none
theorem len_ok {E : Env} {P : Program} {f : Nat} (hen : Enterable P f)
    (c : ∀ (x : Int) (w : World), 0 ≤ x → x ≤ 18446744073709551615 → Calls P f #[.int .u64 x] w fun e w' => e = .returned (.int .i64 ((Lib.bitLen x.toNat : Nat) : Int)) ∧ w' = w) :
    CallOk E P (fun g args S => if g = f then (lenP args S).map (·, S) else none) := by
  refine callOk_pure hen fun args S v h m w args' hH hv => ?_
  unfold lenP at h
  split at h
  · rename_i x
    obtain ⟨x', e1, hx⟩ := VRs.inv1 hv
    cases hx
    obtain rfl : args' = #[.int .u64 x] := Array.ext' e1
    obtain ⟨hb, h⟩ := cond_some h
    cases h
    simp only [Bool.and_eq_true, decide_eq_true_eq] at hb
    refine (c x w hb.1 hb.2).mono ?_
    rintro e w' ⟨rfl, rfl⟩
    exact ⟨_, rfl, .int _ _, Below.refl _ _⟩
  · cases h
theorem small_ok {E : Env} {P : Program} {f : Nat} (hen : Enterable P f)
    (c : ∀ (i : Nat) (w : World), i < 100 → Calls P f #[.int .i64 i] w fun e w' => e = .returned (.string ⟨(Lib.decDigits i).toArray⟩) ∧ w' = w) :
    CallOk E P (fun g args S => if g = f then (smallP args S).map (·, S) else none) := by
  refine callOk_pure hen fun args S v h m w args' hH hv => ?_
  unfold smallP at h
  split at h
  · rename_i i
    obtain ⟨x', e1, hx⟩ := VRs.inv1 hv
    cases hx
    obtain rfl : args' = #[.int .i64 i] := Array.ext' e1
    obtain ⟨hb, h⟩ := cond_some h
    cases h
    simp only [Bool.and_eq_true, decide_eq_true_eq] at hb
    have hc := c i.toNat w (by omega)
    rw [show ((i.toNat : Nat) : Int) = i by omega] at hc
    refine hc.mono ?_
    rintro e w' ⟨rfl, rfl⟩
    exact ⟨_, rfl, .string _, Below.refl _ _⟩
  · cases h

/-! ### All of them -/
/-- Their numbers: Join, Split, Atoi, ParseUint, formatBase10, Len64, small; the variables MaxLen, ErrSyntax, ErrRange. -/
structure PNums where
  fJ : Nat
  fS : Nat
  fA : Nat
  fP : Nat
  fF : Nat
  fL : Nat
  fD : Nat
  g1 : Nat
  gs : Nat
  gr : Nat
  tE : Nat
def withS (p : List Value → St → Option Value) (args : List Value) (S : St) : Option (Value × St) := (p args S).map (·, S)
def primsB (N : PNums) (f : Nat) : Option (List Value → St → Option (Value × St)) :=
  if f = N.fJ then some (withS joinP) else if f = N.fS then some (splitP N.g1) else if f = N.fA then some (withS (atoiP N.tE N.gs N.gr)) else if f = N.fP then some (withS (puP N.gs N.gr))
  else if f = N.fF then some fmtP else if f = N.fL then some (withS lenP) else if f = N.fD then some (withS smallP) else none
theorem primsB_all {E : Env} {P : Program} {N : PNums}
    (hJ : CallOk E P (fun g args S => if g = N.fJ then (joinP args S).map (·, S) else none))
    (hS : CallOk E P (fun g args S => if g = N.fS then splitP N.g1 args S else none))
    (hA : CallOk E P (fun g args S => if g = N.fA then (atoiP N.tE N.gs N.gr args S).map (·, S) else none))
    (hP : CallOk E P (fun g args S => if g = N.fP then (puP N.gs N.gr args S).map (·, S) else none))
    (hF : CallOk E P (fun g args S => if g = N.fF then fmtP args S else none))
    (hL : CallOk E P (fun g args S => if g = N.fL then (lenP args S).map (·, S) else none))
    (hD : CallOk E P (fun g args S => if g = N.fD then (smallP args S).map (·, S) else none)) : ∀ f p, primsB N f = some p → CallOk E P (fun g args S => if g = f then p args S else none) := by
  intro f p hp
  unfold primsB at hp
  split at hp
  · rename_i e; subst e; cases hp; exact hJ
  split at hp
  · rename_i e; subst e; cases hp; exact hS
  split at hp
  · rename_i e; subst e; cases hp; exact hA
  split at hp
  · rename_i e; subst e; cases hp; exact hP
  split at hp
  · rename_i e; subst e; cases hp; exact hF
  split at hp
  · rename_i e; subst e; cases hp; exact hL
  split at hp
  · rename_i e; subst e; cases hp; exact hD
  · cases hp
theorem withS_lw {p : List Value → St → Option Value} {args : List Value} {S S' : St} {v : Value} (h : withS p args S = some (v, S')) : Lw S S' := by
  unfold withS at h
  rw [Option.map_eq_some_iff] at h
  obtain ⟨u, _, h2⟩ := h
  cases h2
  exact Lw.refl _
theorem primsB_lw {N : PNums} : ∀ f p, primsB N f = some p → ∀ args S v S', p args S = some (v, S') → Lw S S' := by
  intro f p hp args S v S' h
  unfold primsB at hp
  split at hp
  · cases hp; exact withS_lw h
  split at hp
  · cases hp
    unfold splitP at h
    split at h
    · split at h
      · obtain ⟨_, h⟩ := cond_some h
        cases h
        exact Lw.alloc _ _
      · cases h
    · cases h
  split at hp
  · cases hp; exact withS_lw h
  split at hp
  · cases hp; exact withS_lw h
  split at hp
  · cases hp
    unfold fmtP at h
    split at h
    · rw [Option.bind_eq_some_iff] at h
      obtain ⟨vs, _, h⟩ := h
      obtain ⟨_, h⟩ := cond_some h
      rw [Option.map_eq_some_iff] at h
      obtain ⟨S2, h2, h3⟩ := h
      cases h3
      exact Lw.storeN h2
    · cases h
  split at hp
  · cases hp; exact withS_lw h
  split at hp
  · cases hp; exact withS_lw h
  · cases hp
end
end Go.Proofs.Ytcdignblakejoaa.D

/-
  D, part 36: slices in a block of their own, grown or as they were built; a slice's block as what a fact hangs on.
-/
namespace Go.Proofs.Ytcdignblakejoaa.D
noncomputable section
set_option linter.unusedVariables false
set_option linter.unusedSimpArgs false

/-- The block of a slice. -/
def slO (s : Sl) (c : Nat) : Prop := ∃ o, s.a = some ⟨c, o, none⟩
/-- A slice in a block of its own: grown, or just as long as it was built. -/
def Ow {α : Type} (f : α → List Value) (sz : Nat) (S : St) (s : Sl) (l : List α) : Prop :=
  ∃ b rest cap more, s = ⟨some ⟨b, 0, none⟩, l.length, cap⟩ ∧ At S b (.cells (l.flatMap f ++ rest) more false none) ∧ ((cap = inex ∧ more = some sz ∧ l.length * sz + rest.length < inex) ∨ (cap = l.length ∧ rest = [] ∧ cap < inex))
section
variable {α : Type} {f : α → List Value} {sz : Nat} {S S' : St} {s : Sl} {l : List α}
theorem Ow.len (h : Ow f sz S s l) : s.len = l.length := by
  obtain ⟨b, rest, cap, more, rfl, _⟩ := h; rfl
theorem Ow.of (hf : ∀ x, (f x).length = sz) (h : Ow f sz S s l) : SlOf f sz S s l := by
  obtain ⟨b, rest, cap, more, rfl, ha, _⟩ := h
  refine ⟨rfl, fun _ => ⟨b, 0, _, _, _, _, rfl, ha, ?_⟩⟩
  rw [List.drop_zero, List.take_append_of_le_length (by rw [flat_len hf]; exact Nat.le_refl _), List.take_of_length_le (by rw [flat_len hf]; exact Nat.le_refl _)]
theorem Ow.lt (h : Ow f sz S s l) {c : Nat} (hc : slO s c) : c < S.next := by
  obtain ⟨b, rest, cap, more, rfl, ha, _⟩ := h
  obtain ⟨o, e⟩ := hc
  cases e
  exact ha.lt
theorem Ow.frm : Frm (slO s) (fun S => Ow f sz S s l) := by
  intro F S S' m hF h
  obtain ⟨b, rest, cap, more, e, ha, h2⟩ := h
  exact ⟨b, rest, cap, more, e, m.at ha (hF b ⟨0, by rw [e]⟩), h2⟩
theorem Ow.ext (h : Ow f sz S s l) (e : Ext S S') : Ow f sz S' s l := Ow.frm _ _ _ e.kp (fun _ _ h => h) h
theorem Ow.grow {N : Nat} (h : GrX f sz N S s l) (hl : l ≠ []) : Ow f sz S s l := by
  rcases h with ⟨h, _⟩ | ⟨b, rest, _, h1, h2, h3⟩
  · exact (hl h).elim
  · exact ⟨b, rest, inex, some sz, h1, h2, .inl ⟨rfl, rfl, h3⟩⟩
theorem Ow.append {E : Env} (hf : ∀ x, (f x).length = sz) (hsz : 0 < sz) (h : Ow f sz S s l) {st xt e : Nat} {d : DInfo} {xd : TypeDesc} {z : Value} (hst : E.und st = some (.slice e)) (he : E.inf e = some d) (hxt : E.und xt = some xd) (hxd : (apK xd && tagOk E e sz) = true)
    (hds : d.size = sz) (hz : d.zero = some z) (hzl : (cellsOf z).length = sz) {x : Value} {vs : List α} (hn : lenOfD x = some vs.length) (hx : firstD S sz vs.length x = some (vs.flatMap f)) (hone : (vs.flatMap f).all St.one = true)
    (hb : (l.length + vs.length) * d.bytes ≤ 17592186044416) (hb2 : l.length + vs.length ≤ 17592186044416) (hvs : vs ≠ []) (hb3 : (l.length + vs.length) * sz < inex)
    {k : Sl → St → Prop} (hk : ∀ s' S', Ow f sz S' s' (l ++ vs) → Mod (slO s) S S' → (∀ c, slO s' c → slO s c ∨ S.next ≤ c) → k s' S') :
    evP tS (appendD E S st xt (.slice s.a s.len s.cap) x) k := by
  obtain ⟨b, rest, cap, more, rfl, hat, ⟨rfl, rfl, hlt⟩ | ⟨rfl, rfl, hlt⟩⟩ := h
  · refine GrX.append (N := 0) hf hsz (.inr ⟨b, rest, Nat.zero_le _, rfl, hat, hlt⟩) hst he hxt hxd hds hz hzl hn hx hone hb hb2 hvs hb3 (fun s' S' g m hs' => hk s' S' (Ow.grow g (by simp [hvs])) (m.mono fun c hc _ => ⟨0, hc.2⟩) fun c hc => ?_) (Nat.zero_le _)
    obtain ⟨o, e⟩ := hc
    rcases hs' with h | ⟨b', h, h'⟩
    · exact .inl ⟨o, by rw [← h]; exact e⟩
    · rw [h] at e; cases e; exact .inr h'
  · have hv0 : ¬ vs.length = 0 := fun hh => hvs (List.length_eq_zero_iff.1 hh)
    have tOk := tOk_of hxd
    have hbz : Nat.beq vs.length 0 = false := Bool.eq_false_iff.2 fun hh => hv0 (Nat.eq_of_beq_eq_true hh)
    have hfl : (vs.flatMap f).length = vs.length * sz := flat_len hf vs
    have g1 : Nat.beq (cellsOf z).length sz = true := by rw [hzl, Nat.beq_refl]
    have g2 : Nat.blt 0 sz = true := by simpa [Nat.blt] using Nat.ble_eq_true_of_le hsz
    have g3 : Nat.beq (vs.flatMap f).length (vs.length * sz) = true := by rw [hfl, Nat.beq_refl]
    have g4 : Nat.ble ((l.length + vs.length) * d.bytes) 17592186044416 = true := Nat.ble_eq_true_of_le hb
    have g5 : Nat.ble (l.length + vs.length) 17592186044416 = true := Nat.ble_eq_true_of_le hb2
    have g6 : Nat.beq l.length inex = false := Bool.eq_false_iff.2 fun hh => by have := Nat.eq_of_beq_eq_true hh; omega
    have g7 : Nat.ble (l.length + vs.length) l.length = false := Bool.eq_false_iff.2 fun hh => by have := Nat.le_of_ble_eq_true hh; omega
    have g8 : S.loadN b 0 (l.length * sz) = some (l.flatMap f) := by
      have hll : ((l.flatMap f ++ []).drop 0).take (l.length * sz) = l.flatMap f := by
        rw [List.append_nil, List.drop_zero, List.take_of_length_le (by rw [flat_len hf]; exact Nat.le_refl _)]
      simp only [St.loadN, hat.get, hll, flat_len hf, Nat.beq_refl, cond_true]
    refine ⟨⟨some ⟨S.next, 0, none⟩, l.length + vs.length, inex⟩, (S.alloc (.cells (l.flatMap f ++ vs.flatMap f) (some sz) false none)).2, ?_, hk _ _ ⟨S.next, [], inex, some sz, by simp, ?_, .inl ⟨rfl, rfl, by simpa using hb3⟩⟩ (alloc_ext.mono fun _ h _ => h.elim) fun c hc => ?_⟩
    · simp only [appendD, hst, he, hxt, tOk.1, tOk.2.1, tOk.2.2.1, tOk.2.2.2, Bool.true_or, Bool.true_and, cond_true, hz, Option.bind_some, hn, hds, hx, g1, g2, g3, g4, g5, Bool.and_true, hbz, cond_false, TT.enc, Ty.enc, Sc.enc, g6, g7, g8, Option.map_some]
    · rw [List.flatMap_append, List.append_nil]; exact alloc_at
    · obtain ⟨o, e⟩ := hc
      cases e
      exact .inr (Nat.le_refl _)
end
/-- A box as a slice of one. -/
theorem firstD_box {α : Type} {f : α → List Value} {sz : Nat} (hf : ∀ x, (f x).length = sz) (hsz : 0 < sz) {S : St} {b : Nat} {v : α} {more : Option Nat} {ro : Bool} {fz : Option (Nat × Nat)} (h : At S b (.cells (f v) more ro fz)) : firstD S sz [v].length (.slice (some ⟨b, 0, none⟩) 1 1) = some ([v].flatMap f) := by
  have e : (f v).length = sz := hf v
  have h0 : Nat.beq sz 0 = false := Bool.eq_false_iff.2 fun hh => by have := Nat.eq_of_beq_eq_true hh; omega
  have h1 : ((f v).drop 0).take sz = f v := by rw [List.drop_zero, List.take_of_length_le (by omega)]
  simp only [firstD, List.length_cons, List.length_nil, Nat.zero_add, Nat.one_mul, h0, cond_false, St.loadN, h.get, h1, e, Nat.beq_refl, cond_true, List.flatMap_cons, List.flatMap_nil, List.append_nil]
end
end Go.Proofs.Ytcdignblakejoaa.D

/-
  D, part 37: package variables that a row lists: what they hold, as D has it.
-/
namespace Go.Proofs.Ytcdignblakejoaa.D
noncomputable section
open Go.RowKit
set_option linter.unusedVariables false
set_option linter.unusedSimpArgs false

section
variable {P : Program} {W : World}
theorem laidVars_mem : ∀ {l : List (String × DataW Unit)} {ps : List MemPlace}, DataW.LaidVars P W l ps → ∀ {n : String} {d : DataW Unit}, (n, d) ∈ l →
    ∃ g t cs fuel p, P.globalNamed n = some g ∧ (P.globals[g]?).map (·.type) = some t ∧ W.var? P n = some cs ∧ DataW.trod (fun _ => ()) P W 0 (fun _ => true) false fuel t cs.toList = some (d, p)
  | [], _, _, _, _, h => by cases h
  | (n', d') :: r, ps, hL, n, d, h => by
    obtain ⟨g, t, cs, fuel, p, q, e1, e2, e3, e4, hr, _⟩ := hL
    rcases List.mem_cons.1 h with h | h
    · cases h
      exact ⟨g, t, cs, fuel, p, e1, e2, e3, e4⟩
    · exact laidVars_mem hr h
theorem laid_mem {l : List (String × DataW Unit)} (h : laidMetH P l W) {n : String} {d : DataW Unit} (hm : (n, d) ∈ l) (hd : d.handleName?.isNone = true) :
    ∃ g t cs fuel p, P.globalNamed n = some g ∧ (P.globals[g]?).map (·.type) = some t ∧ W.var? P n = some cs ∧ DataW.trod (fun _ => ()) P W 0 (fun _ => true) false fuel t cs.toList = some (d, p) := by
  obtain ⟨⟨ps, hL, _, _⟩, _⟩ := laidMetH_iff.1 h
  exact laidVars_mem hL (List.mem_filter.2 ⟨hm, hd⟩)
theorem var_heap {n : String} {g : Nat} {cs : Array Value} (hg : P.globalNamed n = some g) (h : W.var? P n = some cs) : ∃ e fr, W.heap[g]? = some (.cells cs e fr) := by
  unfold World.var? at h
  rw [hg, Option.bind_some] at h
  split at h
  · rename_i c e fr hc
    cases h
    exact ⟨e, fr, hc⟩
  · cases h
/-- A package variable, as D has it. -/
theorem var_at {E : Env} {n : String} {g : Nat} {cs : Array Value} (hg : P.globalNamed n = some g) (h : W.var? P n = some cs) : At (argS E W) g (.cells (cs.toList.map (nv (argN E W))) none true (some (0, cs.size))) := by
  obtain ⟨e, fr, hw⟩ := var_heap hg h
  refine ⟨by rw [argS_get, hw]; rfl, ?_⟩
  have := (Array.getElem?_eq_some_iff.1 hw).1
  show g < argN E W
  unfold argN
  omega
variable {H : Type} {enc : TypeId × Value → H} {base : Nat} {spare : Nat → Bool} {held : Bool}
theorem trod_str' {t : TypeId} (hu : P.underlying t = some .string) {fuel : Nat} {cs : List Value} {r : DataW H × List MemPlace} (h : DataW.trod enc P W base spare held fuel t cs = some r) : ∃ s : ByteArray, cs = [.string s] ∧ r.1 = .lit (.string s.data.toList) := by
  cases fuel with
  | zero => cases h
  | succ fuel =>
    unfold DataW.trod at h
    rw [hu] at h
    split at h <;> first | (cases (‹some TypeDesc.string = some _›); done) | (cases h; done) | skip
    split at h
    · cases h
      exact ⟨_, rfl, rfl⟩
    · cases h
theorem trod_iface' {t : TypeId} {ms : Array (String × TypeId)} (hu : P.underlying t = some (.interface ms)) {fuel : Nat} {cs : List Value} {r : DataW H × List MemPlace} (h : DataW.trod enc P W base spare held fuel t cs = some r) : cs = [.nilIface] ∨ ∃ u v, cs = [.iface u v] := by
  cases fuel with
  | zero => cases h
  | succ fuel =>
    unfold DataW.trod at h
    rw [hu] at h
    split at h <;> first | (cases (‹some (TypeDesc.interface ms) = some _›); done) | (cases h; done) | skip
    · exact .inl rfl
    · exact .inr ⟨_, _, rfl⟩
/-- An array of texts. -/
theorem trod_strs {t e : TypeId} {n : Nat} (ht : P.underlying t = some (.array n e)) (he : P.underlying e = some .string) (hce : P.cellsOf e = 1) (hct : P.cellsOf t = n) {fuel : Nat} {cs : List Value} {ls : List (List UInt8)} {p : List MemPlace}
    (h : DataW.trod enc P W base spare held fuel t cs = some (.agg (ls.map fun l => .lit (.string l)), p)) : cs = ls.map fun l => Value.string ⟨l.toArray⟩ := by
  cases fuel with
  | zero => simp [DataW.trod] at h
  | succ fuel =>
    simp only [DataW.trod, ht, hce, hct, Nat.mul_one] at h
    split at h
    · rename_i hl
      obtain ⟨xs, hm, hx⟩ := Option.map_eq_some_iff.1 h
      have hxs : xs.map (·.1) = ls.map fun l => (DataW.lit (.string l) : DataW H) := by
        have := congrArg Prod.fst hx
        simpa using this
      obtain ⟨hxl, hxi⟩ := mapM_range hm
      have hzl : ls.length = n := by
        have := congrArg List.length hxs
        simp at this
        omega
      apply List.ext_getElem?
      intro i
      by_cases hi : i < n
      · have hf := hxi i (by omega)
        obtain ⟨s, hc, hr⟩ := trod_str' he hf
        have h1 : cs[i]? = some (.string s) := by
          have := congrArg (·[0]?) hc
          simpa [List.getElem?_take, List.getElem?_drop] using this
        have h2 : (xs.map (·.1))[i]? = some (DataW.lit (.string s.data.toList) : DataW H) := by
          rw [List.getElem?_map, List.getElem?_eq_getElem (by omega), Option.map_some, hr]
        rw [hxs] at h2
        simp only [List.getElem?_map, Option.map_eq_some_iff, DataW.lit.injEq, Lit.string.injEq] at h2
        obtain ⟨z', hz', rfl⟩ := h2
        rw [h1, List.getElem?_map, hz']
        rfl
      · rw [List.getElem?_eq_none (by omega), List.getElem?_eq_none (by simp; omega)]
    · cases h
end
end
end Go.Proofs.Ytcdignblakejoaa.D

/-
  D, part 38: a strings.Builder that the code has made itself: copyCheck, String, by contracts.
-/
namespace Go.Proofs.Ytcdignblakejoaa.D
noncomputable section
open Go.RowKit
set_option linter.unusedVariables false
set_option linter.unusedSimpArgs false

/-- copyCheck; T: the builder's type. -/
def ccP (T : Nat) : List Value → St → Option (Value × St)
  | [.pointer (some ⟨b, 0, none⟩)], S =>
    match S.heap.get b with
    | some (.cells [p, v] (some s) false none) =>
      cond (Nat.beq s (T + 2 * TB))
        (match p with
         | .pointer none => some (.tuple #[], S.upd b (.cells [.pointer (some ⟨b, 0, none⟩), v] (some s) false none))
         | .pointer (some ⟨c, 0, none⟩) => cond (Nat.beq c b) (some (.tuple #[], S)) none
         | _ => none) none
    | _ => none
  | _, _ => none
def dec8 : Value → UInt8
  | .int _ n => UInt8.ofNat n.toNat
  | _ => 0
theorem dec8_enc (c : UInt8) : dec8 (enc8 c) = c := by simp [dec8, enc8]
/-- String; e: the type of bytes. What holds the bytes is not spoken of any more. -/
def strP (T e : Nat) : List Value → St → Option (Value × St)
  | [.pointer (some ⟨b, 0, none⟩)], S =>
    match S.heap.get b with
    | some (.cells [p, v] (some s) false none) =>
      cond (Nat.beq s (T + 2 * TB))
        (match v with
         | .slice none 0 0 => some (.string ⟨#[]⟩, S)
         | .slice (some ⟨c, 0, none⟩) (n + 1) _ =>
           match S.heap.get c with
           | some (.cells cs (some s') false none) =>
             cond (Nat.beq s' (e + TB) && Nat.blt e TB && Nat.ble (n + 1) cs.length && Nat.ble (n + 1) 17592186044416 && (cs.take (n + 1)).all isB)
               (some (.string ⟨((cs.take (n + 1)).map dec8).toArray⟩, S.upd c .dead)) none
           | _ => none
         | _ => none) none
    | _ => none
  | _, _ => none

theorem vr_nils {m : Mp} {v v' : Value} (h : VR m v v') (e : v = .slice none 0 0) : v' = .slice none 0 0 := by
  cases h <;> first | rfl | simp at e
/-- A builder's block. -/
theorem bld_at {E : Env} {m : Mp} {S : St} {w : World} (hH : HR E m S w) {b T : Nat} {x : BM} {p v : Value} (hg : S.heap.get b = some (.cells [p, v] (some (T + 2 * TB)) false none)) (hm : m b = some x) :
    ∃ p' v', x.base = 0 ∧ x.tot = 2 ∧ w.heap[x.blk]? = some (.cells #[p', v'] T (0, 0)) ∧ VR m p p' ∧ VR m v v' := by
  obtain ⟨ccs, e, fr, h1, h2, h3, h4, h5, h6⟩ := hH.obj b _ x hg rfl hm
  obtain ⟨_, hb1, _, ht1, _⟩ := h6 _ rfl
  have hb : x.base = 0 := hb1 (Nat.le_trans (by omega) (Nat.le_add_left (2 * TB) T))
  obtain ⟨he1, ht2⟩ := ht1 (Nat.le_add_left _ _)
  have ht : x.tot = 2 := ht2
  obtain rfl : e = T := Nat.add_right_cancel he1
  obtain rfl : fr = (0, 0) := h5
  clear hb1 ht1 ht2 he1 h6 hg
  rw [hb, List.drop_zero, List.take_of_length_le (by rw [Array.length_toList, h2, ht]; exact Nat.le_refl _)] at h4
  obtain ⟨p', v', e2, hp, hv⟩ := h4.inv2
  obtain rfl : ccs = #[p', v'] := Array.ext' e2
  exact ⟨p', v', hb, ht, h1, hp, hv⟩
set_option maxRecDepth 100000 in
theorem cc_ok {E : Env} {P : Program} {f T : Nat} (hen : Enterable P f)
    (c1 : ∀ (b : Nat) (w : World), w.cell? ⟨b, 0, none⟩ = some (.pointer none) → w.shape? b = some (T, 2) → w.frozen? ⟨b, 0, none⟩ = false →
      Calls P f #[.pointer (some ⟨b, 0, none⟩)] w fun e w' => e = .returned (.tuple #[]) ∧ w' = w.setCell ⟨b, 0, none⟩ (.pointer (some ⟨b, 0, none⟩)))
    (c2 : ∀ (b : Nat) (w : World), w.cell? ⟨b, 0, none⟩ = some (.pointer (some ⟨b, 0, none⟩)) → Calls P f #[.pointer (some ⟨b, 0, none⟩)] w fun e w' => e = .returned (.tuple #[]) ∧ w' = w) :
    CallOk E P (fun g args S => if g = f then ccP T args S else none) := by
  refine callOk_any hen fun args S v S' h m w args' hH hv => ?_
  unfold ccP at h
  split at h
  · rename_i b
    obtain ⟨x', e1, hx⟩ := VRs.inv1 hv
    cases hx with
    | ptr _ _ x hm =>
      obtain rfl : args' = #[_] := Array.ext' e1
      split at h
      · rename_i p v0 s hg
        obtain ⟨hs, h⟩ := cond_some h
        have hs := Nat.eq_of_beq_eq_true hs
        subst hs
        obtain ⟨p', v', hb, ht, hw, hp, hv0⟩ := bld_at hH hg hm
        obtain ⟨blk, base, tot, sz⟩ := x
        dsimp only at hb ht hw ⊢
        subst hb ht
        split at h
        · cases hp
          cases h
          have hc : w.cell? ⟨blk, 0, none⟩ = some (.pointer none) := by simp [World.cell?, hw]
          have hsh : w.shape? blk = some (T, 2) := by simp [World.shape?, hw]
          have hf : w.frozen? ⟨blk, 0, none⟩ = false := by simp [World.frozen?, hw]
          refine (c1 blk w hc hsh hf).mono ?_
          rintro e' w' ⟨rfl, rfl⟩
          have hh : (w.setCell ⟨blk, 0, none⟩ (.pointer (some ⟨blk, 0, none⟩))).heap[blk]? = some (.cells #[.pointer (some ⟨blk, 0, none⟩), v'] T (0, 0)) := by
            simp [World.setCell, Array.getElem?_modify, hw]
          obtain ⟨k1, k2⟩ := HR.upd hH (w' := w.setCell ⟨blk, 0, none⟩ (.pointer (some ⟨blk, 0, none⟩))) (o' := .cells [.pointer (some ⟨b, 0, none⟩), v0] (some (T + 2 * TB)) false none) hg rfl hm
            (by
              refine ⟨_, T, (0, 0), hh, rfl, Nat.le_refl _, ?_, rfl, by intro s hs; cases hs; exact ⟨(by
                obtain ⟨_, _, _, _, _, _, _, _, h6⟩ := hH.obj b _ _ hg rfl hm
                exact (h6 _ rfl).1), fun _ => rfl, fun _ hh => absurd hh (Nat.not_lt.2 (Nat.le_add_left _ _)), fun _ => ⟨rfl, rfl⟩, fun _ hh => absurd hh (Nat.not_lt.2 (Nat.le_trans (Nat.le_mul_of_pos_left _ (by omega)) (Nat.le_add_left _ _)))⟩⟩
              exact .cons (.ptr b 0 ⟨blk, 0, 2, sz⟩ hm) (.cons hv0 .nil)) (by simp [World.setCell]) (fun c hcb => by simp only [World.setCell, Array.getElem?_modify]; rw [if_neg (Ne.symm hcb)]) rfl rfl rfl
          exact ⟨_, m, rfl, .tup _ _ rfl (fun i u u' hu => by simp at hu), k1, k2⟩
        · rename_i c
          obtain ⟨hcb, h'⟩ := cond_some h
          clear h
          have hcb := Nat.eq_of_beq_eq_true hcb
          subst hcb
          cases h'
          cases hp with
          | ptr _ _ y hy =>
            rw [hm] at hy
            cases hy
            have hc : w.cell? ⟨blk, 0, none⟩ = some (.pointer (some ⟨blk, 0, none⟩)) := by simp [World.cell?, hw]
            refine (c2 blk w hc).mono ?_
            rintro e' w' ⟨rfl, rfl⟩
            exact ⟨_, m, rfl, .tup _ _ rfl (fun i u u' hu => by simp at hu), hH, .refl _ _ _⟩
        · cases h
      · cases h
  · cases h
set_option maxRecDepth 100000 in
theorem str_ok {E : Env} {P : Program} {f T e : Nat} (hen : Enterable P f)
    (c1 : ∀ (b g cap : Nat) (p : Value) (l : List UInt8) (cur : Array Value) (w : World), w.heap[b]? = some (.cells #[p, .slice (some ⟨g, 0, none⟩) l.length cap] T (0, 0)) → w.heap[g]? = some (.cells cur e (0, 0)) → l ≠ [] → cap ≠ 0 → l.length ≤ cur.size →
      l.length ≤ 9223372036854775807 → (∀ j x, l[j]? = some x → w.cell? ⟨g, j, none⟩ = some (.int .u8 x.toNat)) →
      Calls P f #[.pointer (some ⟨b, 0, none⟩)] w fun e w' => e = .returned (.string ⟨l.toArray⟩) ∧ w' = w.drew.freeze ⟨g, 0, none⟩ l.length)
    (c2 : ∀ (b : Nat) (p : Value) (w : World), w.heap[b]? = some (.cells #[p, .slice none 0 0] T (0, 0)) → Calls P f #[.pointer (some ⟨b, 0, none⟩)] w fun e w' => e = .returned (.string ⟨#[]⟩) ∧ Below w.heap.size w w') :
    CallOk E P (fun g args S => if g = f then strP T e args S else none) := by
  refine callOk_any hen fun args S v S' h m w args' hH hv => ?_
  unfold strP at h
  split at h
  · rename_i b
    obtain ⟨x', e1, hx⟩ := VRs.inv1 hv
    cases hx with
    | ptr _ _ x hm =>
      obtain rfl : args' = #[_] := Array.ext' e1
      split at h
      · rename_i p v0 s hg
        obtain ⟨hs0, hk0⟩ := cond_some h
        clear h
        obtain rfl := Nat.eq_of_beq_eq_true hs0
        clear hs0
        obtain ⟨p', v', hb, ht, hw, hp, hv0⟩ := bld_at hH hg hm
        obtain ⟨blk, base, tot, sz⟩ := x
        dsimp only at hb ht hw ⊢
        subst hb ht
        split at hk0
        · obtain rfl := vr_nils hv0 rfl
          cases hk0
          refine (c2 blk p' w hw).mono ?_
          rintro e' w' ⟨rfl, hb⟩
          obtain ⟨k1, k2⟩ := hr_below hH hb
          exact ⟨_, m, rfl, .string _, k1, k2⟩
        · rename_i c n cap
          split at hk0
          · rename_i cs s' hc
            obtain ⟨hk, hk1⟩ := cond_some hk0
            clear hk0
            simp only [Bool.and_eq_true, Nat.ble_eq, List.all_eq_true] at hk
            obtain ⟨⟨⟨⟨hs', heb⟩, hn1⟩, hn2⟩, hall⟩ := hk
            cases hk1
            have hs' := Nat.eq_of_beq_eq_true hs'
            have heb := Nat.blt_eq.mp heb
            subst hs'
            obtain ⟨y, cap', hy, rfl, hcap⟩ := vr_slice hv0
            obtain ⟨ccs, ce, fr, g1, g2, g3, g4, g5, g6⟩ := hH.obj c _ y hc rfl hy
            obtain ⟨_, yb, ye, _⟩ := g6 _ rfl
            have yb1 : y.base = 0 := yb (Nat.le_add_left _ _)
            obtain rfl : ce = e := Nat.add_right_cancel (ye (Nat.le_add_left _ _) (by rw [Nat.two_mul]; exact Nat.add_lt_add_right heb _))
            obtain rfl : fr = (0, 0) := g5
            have yb := yb1
            clear yb1
            rw [yb] at hw g3 g4
            have hl : ((cs.take (n + 1)).map dec8).length = n + 1 := by simp; omega
            have hc1 := c1 blk y.blk cap' p' ((cs.take (n + 1)).map dec8) ccs w (by rw [hl]; exact hw) g1 (by intro h0; rw [h0] at hl; cases hl) (by omega) (by rw [hl]; omega) (by rw [hl]; exact Nat.le_trans hn2 (by decide)) (by
              intro j z hz
              have hj : j < n + 1 := by rw [← hl]; exact (List.getElem?_eq_some_iff.1 hz).1
              have hjc : j < cs.length := by omega
              rw [List.getElem?_map, List.getElem?_take_of_lt hj, List.getElem?_eq_getElem hjc, Option.map_some] at hz
              obtain ⟨d, hd⟩ := isB_enc (hall cs[j] (List.mem_of_getElem? (i := j) (by rw [List.getElem?_take_of_lt hj, List.getElem?_eq_getElem hjc])))
              rw [hd, dec8_enc] at hz
              cases hz
              obtain ⟨u, h7, h8⟩ := g4.get (i := j) (v := cs[j]) (List.getElem?_eq_getElem hjc)
              rw [hd] at h8
              cases h8
              rw [List.getElem?_take_of_lt hjc, List.drop_zero, Array.getElem?_toList] at h7
              simp [World.cell?, g1, h7])
            refine hc1.mono ?_
            rintro e' w' ⟨rfl, rfl⟩
            rw [hl]
            have hd := hH.drew
            have fd : Fr m S w m S w.drew := Fr.drew
            generalize w.drew = wd at hd fd ⊢
            obtain ⟨k1, k2⟩ := HR.upd hd (w' := wd.freeze ⟨y.blk, 0, none⟩ (n + 1)) (o' := .dead) hc rfl hy trivial (by simp [World.freeze])
              (fun c hcb => by simp only [World.freeze, Nat.add_one_ne_zero, if_false, Array.getElem?_modify]; rw [if_neg (Ne.symm hcb)]) (by simp [World.freeze]) (by simp [World.freeze]) (by simp [World.freeze])
            exact ⟨_, m, rfl, .string _, k1, fd.trans k2⟩
          · cases hk0
        · cases hk0
      · cases h
  · cases h
/-- stringslite.IndexByte. -/
def idxP (args : List Value) (S : St) : Option Value :=
  match args with
  | [.string s, .int .u8 c] => some (.int .i64 (Lib.indexByte s.data.toList c.toNat.toUInt8))
  | _ => none
theorem idx_ok {E : Env} {P : Program} {f : Nat} (hen : Enterable P f)
    (c : ∀ (s : ByteArray) (c : Int) (w : World), Calls P f #[.string s, .int .u8 c] w fun e w' => e = .returned (.int .i64 (Lib.indexByte s.data.toList c.toNat.toUInt8)) ∧ w' = w) :
    CallOk E P (fun g args S => if g = f then (idxP args S).map (·, S) else none) := by
  refine callOk_pure hen fun args S v h m w args' hH hv => ?_
  unfold idxP at h
  split at h
  · rename_i s x
    obtain ⟨x', y', e1, hx, hy⟩ := VRs.inv2 hv
    cases hx; cases hy
    obtain rfl : args' = #[.string s, .int .u8 x] := Array.ext' e1
    cases h
    refine (c s x w).mono ?_
    rintro e w' ⟨rfl, rfl⟩
    exact ⟨_, rfl, .int _ _, Below.refl _ _⟩
  · cases h
/-- strings.Cut; g1: the variable MaxLen. -/
def cutP (g1 : Nat) (args : List Value) (S : St) : Option Value :=
  match args with
  | [.string s, .string sep] =>
    match S.load1 g1 0 with
    | some (.int .i64 _) =>
      cond (Nat.blt s.size 4294967281) (some (.tuple #[.string ⟨(Lib.cut s.data.toList sep.data.toList).1.toArray⟩, .string ⟨(Lib.cut s.data.toList sep.data.toList).2.1.toArray⟩, .bool (Lib.cut s.data.toList sep.data.toList).2.2])) none
    | _ => none
  | _ => none
theorem vr_three {m : Mp} {a b c a' b' c' : Value} (h1 : VR m a a') (h2 : VR m b b') (h3 : VR m c c') : VR m (.tuple #[a, b, c]) (.tuple #[a', b', c']) := by
  refine .tup _ _ rfl fun i v v' e e' => ?_
  match i with
  | 0 => simp at e e'; subst e e'; exact h1
  | 1 => simp at e e'; subst e e'; exact h2
  | 2 => simp at e e'; subst e e'; exact h3
  | n + 3 => simp at e
theorem cut_ok {E : Env} {P : Program} {f g1 : Nat} (hg1 : g1 < E.globs) (hen : Enterable P f)
    (c : ∀ (s sep : ByteArray) (m : Int) (w : World), s.size < 4294967281 → w.cell? ⟨g1, 0, none⟩ = some (.int .i64 m) →
      Calls P f #[.string s, .string sep] w fun e w' => e = .returned (.tuple #[.string ⟨(Lib.cut s.data.toList sep.data.toList).1.toArray⟩, .string ⟨(Lib.cut s.data.toList sep.data.toList).2.1.toArray⟩, .bool (Lib.cut s.data.toList sep.data.toList).2.2]) ∧ Below w.heap.size w w') :
    CallOk E P (fun g args S => if g = f then (cutP g1 args S).map (·, S) else none) := by
  refine callOk_pure hen fun args S v h m w args' hH hv => ?_
  unfold cutP at h
  split at h
  · rename_i s sep
    obtain ⟨x', y', e1, hx, hy⟩ := VRs.inv2 hv
    cases hx; cases hy
    obtain rfl : args' = #[.string s, .string sep] := Array.ext' e1
    split at h
    · rename_i i hi
      obtain ⟨hb, h⟩ := cond_some h
      cases h
      have hb := Nat.blt_eq.mp hb
      obtain ⟨x, hm, hxb, hx0⟩ := hH.glob g1 hg1
      obtain ⟨v', h4, h5⟩ := hH.cell_at hm hi
      cases h5
      rw [hxb, hx0] at h4
      refine (c s sep i w hb h4).mono ?_
      rintro e w' ⟨rfl, h6⟩
      exact ⟨_, rfl, vr_three (.string _) (.string _) (.bool _), h6⟩
    · cases h
  · cases h
/-- Their numbers: copyCheck, String, stringslite.IndexByte, Cut; the variable MaxLen; the types: Builder, byte. -/
structure BNums where
  fC : Nat
  fT : Nat
  fI : Nat
  fU : Nat
  g1 : Nat
  T : Nat
  e : Nat
def primsC (N : PNums) (B : BNums) (f : Nat) : Option (List Value → St → Option (Value × St)) :=
  if f = B.fC then some (ccP B.T) else if f = B.fT then some (strP B.T B.e) else if f = B.fI then some (withS idxP) else if f = B.fU then some (withS (cutP B.g1)) else primsB N f
theorem primsC_ok {E : Env} {P : Program} {N : PNums} {B : BNums} (hE : E.prim = primsC N B)
    (hC : CallOk E P (fun g args S => if g = B.fC then ccP B.T args S else none))
    (hT : CallOk E P (fun g args S => if g = B.fT then strP B.T B.e args S else none))
    (hI : CallOk E P (fun g args S => if g = B.fI then (idxP args S).map (·, S) else none))
    (hU : CallOk E P (fun g args S => if g = B.fU then (cutP B.g1 args S).map (·, S) else none))
    (hB : ∀ f p, primsB N f = some p → CallOk E P (fun g args S => if g = f then p args S else none)) : PrimOk E P := by
  intro f p hp
  rw [hE] at hp
  unfold primsC at hp
  split at hp
  · rename_i e; subst e; cases hp; exact hC
  split at hp
  · rename_i e; subst e; cases hp; exact hT
  split at hp
  · rename_i e; subst e; cases hp; exact hI
  split at hp
  · rename_i e; subst e; cases hp; exact hU
  · exact hB f p hp
theorem primsC_lw {E : Env} {N : PNums} {B : BNums} (hE : E.prim = primsC N B) : PrimLw E := by
  intro f p hp args S v S' h
  rw [hE] at hp
  unfold primsC at hp
  split at hp
  · cases hp
    unfold ccP at h
    split at h
    · split at h
      · obtain ⟨_, h2⟩ := cond_some h
        split at h2
        · cases h2; exact Lw.upd _ _ _
        · obtain ⟨_, h3⟩ := cond_some h2
          cases h3; exact Lw.refl _
        · cases h2
      · cases h
    · cases h
  split at hp
  · cases hp
    unfold strP at h
    split at h
    · split at h
      · obtain ⟨_, h2⟩ := cond_some h
        split at h2
        · cases h2; exact Lw.refl _
        · split at h2
          · obtain ⟨_, h3⟩ := cond_some h2
            cases h3; exact Lw.upd _ _ _
          · cases h2
        · cases h2
      · cases h
    · cases h
  split at hp
  · cases hp; exact withS_lw h
  split at hp
  · cases hp; exact withS_lw h
  · exact primsB_lw f p hp args S v S' h
end
end Go.Proofs.Ytcdignblakejoaa.D

/-
  D, part 41: slices.Insert of one element, as a primitive of D; slices.overlaps, an extern.
-/
namespace Go.Proofs.Ytcdignblakejoaa.D
noncomputable section
open Go.RowKit
set_option linter.unusedVariables false
set_option linter.unusedSimpArgs false

/-- slices.Insert(s, i, v) of one element of sz cells: where s was appended to, and is nobody else's. -/
def insP (sz : Nat) (args : List Value) (S : St) : Option (Value × St) :=
  match args with
  | [.slice (some ⟨b, 0, none⟩) n c, .int .i64 i, .slice (some ⟨vb, 0, none⟩) 1 1] =>
    match S.heap.get b, S.heap.get vb with
    | some (.cells cs (some mk) false none), some (.cells vs none false none) =>
      cond (Nat.beq mk sz && (Nat.beq c inex && (decide (0 ≤ i) && (Nat.ble i.toNat n && (Nat.ble 1 n && (Nat.ble n 1000000 && (Nat.beq cs.length (n * sz) && (Nat.beq vs.length sz && (!Nat.beq vb b && (vs.all St.one && cs.all St.one))))))))))
        (some (.slice (some ⟨S.next, 0, none⟩) (n + 1) inex, ((S.upd b .dead).alloc (.cells (cs.take (i.toNat * sz) ++ (vs ++ cs.drop (i.toNat * sz))) (some sz) false none)).2)) none
    | _, _ => none
  | [.slice none 0 0, .int .i64 0, .slice (some ⟨vb, 0, none⟩) 1 1] =>
    match S.heap.get vb with
    | some (.cells vs none false none) => cond (Nat.beq vs.length sz && vs.all St.one) (some (.slice (some ⟨S.next, 0, none⟩) 1 inex, (S.alloc (.cells vs (some sz) false none)).2)) none
    | _ => none
  | _ => none
structure MNums where
  /-- stringslite.IndexByte -/
  fI : Nat
  /-- slices.Insert, and how many cells an element has -/
  fN : Nat
  sz : Nat
def primsM (N : MNums) (f : Nat) : Option (List Value → St → Option (Value × St)) :=
  if f = N.fI then some (withS idxP) else if f = N.fN then some (insP N.sz) else none
/-- slices.overlaps of two rows in two blocks. -/
def ovP (args : List Value) (S : St) : Option Value :=
  match args with
  | [.slice (some ⟨a, _, none⟩) la _, .slice (some ⟨b, _, none⟩) lb _] =>
    cond (!Nat.beq a b && (Nat.ble 1 la && Nat.ble 1 lb))
      (match S.heap.get a, S.heap.get b with
       | some (.cells _ _ false none), some (.cells (_ :: _) _ false none) => some (.bool false)
       | _, _ => none) none
  | _ => none
def primsI (fO : Nat) (f : Nat) : Option (List Value → St → Option (Value × St)) := if f = fO then some (withS ovP) else none
theorem primsI_lw {E : Env} {fO : Nat} (hE : E.prim = primsI fO) : PrimLw E := by
  intro f p hp args S v S' h
  rw [hE] at hp
  unfold primsI at hp
  split at hp
  · cases hp; exact withS_lw h
  · cases hp
theorem ins_lw {sz : Nat} {args : List Value} {S S' : St} {v : Value} (h : insP sz args S = some (v, S')) : Lw S S' := by
  unfold insP at h
  split at h
  · split at h
    · obtain ⟨_, h⟩ := cond_some h
      cases h
      exact (Lw.upd _ _ _).trans (Lw.alloc _ _)
    · cases h
  · split at h
    · obtain ⟨_, h⟩ := cond_some h
      cases h
      exact Lw.alloc _ _
    · cases h
  · cases h
theorem primsM_lw {E : Env} {N : MNums} (hE : E.prim = primsM N) : PrimLw E := by
  intro f p hp args S v S' h
  rw [hE] at hp
  unfold primsM at hp
  split at hp
  · cases hp; exact withS_lw h
  split at hp
  · cases hp; exact ins_lw h
  · cases hp
theorem primsM_ok {E : Env} {P : Program} {N : MNums} (hE : E.prim = primsM N)
    (hI : CallOk E P (fun g args S => if g = N.fI then (idxP args S).map (·, S) else none))
    (hN : CallOk E P (fun g args S => if g = N.fN then insP N.sz args S else none)) : PrimOk E P := by
  intro f p hp
  rw [hE] at hp
  unfold primsM at hp
  split at hp
  · rename_i e; subst e; cases hp; exact hI
  split at hp
  · rename_i e; subst e; cases hp; exact hN
  · cases hp
/-- An extern, by its law. -/
theorem primsI_ok {E : Env} {P : Program} {fO : Nat} (hE : E.prim = primsI fO) {tS tR e sz : TypeId} (hl : P.underlying tS = some (.slice e)) (hz : ∀ w, (Go.sizeOf e).run P w = .ok sz w)
    (hrun : ∀ (args : Array Value) (w : World) (v : Value), (Extern.SlicesOverlaps.overlaps #[tS, tS] #[tR] args).run P w = .ok v w → (callFunc fO args).run P w = .ok (.value v) w) : PrimOk E P := by
  intro f p hp g args S v S' hg
  have hp0 := hp
  rw [hE] at hp
  unfold primsI at hp
  split at hp
  · rename_i e; subst e
    cases hp
    dsimp only at hg
    split at hg
    · rename_i e; subst e
      unfold withS at hg
      rw [Option.map_eq_some_iff] at hg
      obtain ⟨u, h1, h2⟩ := hg
      cases h2
      refine .inr ⟨by rw [hp0]; simp, fun m w args' hH hv => ?_⟩
      unfold ovP at h1
      split at h1
      · rename_i a oa la ca b ob lb cb
        obtain ⟨hb, h1⟩ := cond_some h1
        simp only [Bool.and_eq_true, Bool.not_eq_true', Nat.ble_eq] at hb
        obtain ⟨hab, hla, hlb⟩ := hb
        split at h1
        · rename_i csa mka c0 csb mkb hga hgb
          cases h1
          obtain ⟨x', y', e1, hx, hy⟩ := VRs.inv2 hv
          obtain rfl : args' = #[x', y'] := Array.ext' e1
          obtain ⟨la, rfl⟩ : ∃ k, la = k + 1 := ⟨la - 1, by omega⟩
          obtain ⟨lb, rfl⟩ : ∃ k, lb = k + 1 := ⟨lb - 1, by omega⟩
          obtain ⟨x, cx, hmx, rfl, _⟩ := vr_slice hx
          obtain ⟨y, cy, hmy, rfl, _⟩ := vr_slice hy
          have hne : a ≠ b := fun e => by subst e; rw [Nat.beq_refl] at hab; cases hab
          have hblk := hH.inj a b _ _ x y hga hgb rfl rfl hne (.inl rfl) hmx hmy
          obtain ⟨cca, ea, fra, a1, a2, a3, a4, a5, _⟩ := hH.obj a _ x hga rfl hmx
          obtain ⟨ccb, eb, frb, b1, b2, b3, b4, b5, _⟩ := hH.obj b _ y hgb rfl hmy
          have hfr : fra = (0, 0) := a5
          subst hfr
          have ha : w.shape? x.blk = some (ea, cca.size) := by simp [World.shape?, a1]
          have hb : w.shape? y.blk = some (eb, ccb.size) := by simp [World.shape?, b1]
          have hz0 : ccb.size ≠ 0 := by
            have : (c0 :: csb).length = csb.length + 1 := rfl
            omega
          refine ⟨.bool false, m, w, hrun _ _ _ (Lib.run_overlaps_apart w tS tR e hl sz hz ⟨x.blk, x.base + oa, none⟩ ⟨y.blk, y.base + ob, none⟩ (la + 1) cx (lb + 1) cy hblk ea eb cca.size ccb.size ha hb hz0 ?_ ?_), .bool _, hH, .refl _ _ _⟩
          · simp [World.frozen?, a1]
          · simp [World.frozen?, a1]
        · cases h1
      · cases h1
    · cases hg
  · cases hp
end
end Go.Proofs.Ytcdignblakejoaa.D

/-
  D, part 42: the contract of slices.Insert, by D's own run of its text over rows whose capacity is known.
-/
namespace Go.Proofs.Ytcdignblakejoaa.D
noncomputable section
open Go.RowKit
set_option linter.unusedVariables false
set_option linter.unusedSimpArgs false

/-! ### Something to speak of any value -/
theorem abs_ex (m : Mp) (v' : Value) : ∃ v, VR m v v' := by
  have list : ∀ l : List Value, (∀ x ∈ l, ∃ v, VR m v x) → ∃ l', VRs m l' l := by
    intro l
    induction l with
    | nil => intro _; exact ⟨[], .nil⟩
    | cons x l ih =>
      intro h
      obtain ⟨v, hv⟩ := h x (by simp)
      obtain ⟨l', hl⟩ := ih fun y hy => h y (by simp [hy])
      exact ⟨v :: l', .cons hv hl⟩
  match v' with
  | .agg a =>
    obtain ⟨l', hl⟩ := list a.toList fun x hx => abs_ex m x
    exact ⟨.agg l'.toArray, .agg _ _ (by simpa using hl.length) fun i v v' e e' => hl.get' (by simpa using e) (by simpa using e')⟩
  | .tuple a =>
    obtain ⟨l', hl⟩ := list a.toList fun x hx => abs_ex m x
    exact ⟨.tuple l'.toArray, .tup _ _ (by simpa using hl.length) fun i v v' e e' => hl.get' (by simpa using e) (by simpa using e')⟩
  | .bool b => exact ⟨_, .bool b⟩
  | .int k n => exact ⟨_, .int k n⟩
  | .float _ _ => exact ⟨_, .junk _ (by simp) (by simp) (by simp)⟩
  | .complex _ _ _ => exact ⟨_, .junk _ (by simp) (by simp) (by simp)⟩
  | .string s => exact ⟨_, .string s⟩
  | .pointer _ => exact ⟨_, .junk _ (by simp) (by simp) (by simp)⟩
  | .slice _ _ _ => exact ⟨_, .junk _ (by simp) (by simp) (by simp)⟩
  | .map _ => exact ⟨_, .junk _ (by simp) (by simp) (by simp)⟩
  | .chan _ => exact ⟨_, .junk _ (by simp) (by simp) (by simp)⟩
  | .func _ _ _ => exact ⟨_, .junk _ (by simp) (by simp) (by simp)⟩
  | .nilFunc => exact ⟨_, .junk _ (by simp) (by simp) (by simp)⟩
  | .iface _ _ => exact ⟨_, .junk _ (by simp) (by simp) (by simp)⟩
  | .nilIface => exact ⟨_, .nili⟩
termination_by SizeOf.sizeOf v'
decreasing_by
  all_goals
    have h := Array.sizeOf_lt_of_mem (Array.mem_toList_iff.1 hx)
    simp_wf
    omega
theorem abs_list (m : Mp) : ∀ l : List Value, ∃ l', VRs m l' l
  | [] => ⟨[], .nil⟩
  | x :: l => by
    obtain ⟨v, hv⟩ := abs_ex m x
    obtain ⟨l', hl⟩ := abs_list m l
    exact ⟨v :: l', .cons hv hl⟩
/-! ### States that are the same below the next block -/
def SameB (S S' : St) : Prop := S.next = S'.next ∧ ∀ c, c < S.next → S.heap.get c = S'.heap.get c
theorem SameB.refl (S : St) : SameB S S := ⟨rfl, fun _ _ => rfl⟩
section
variable {E : Env} {m m' : Mp} {S S' S0 : St} {w w' : World}
theorem HR.same (h : HR E m S w) (e : SameB S S') : HR E m S' w where
  dom := fun b x hb => e.1 ▸ h.dom b x hb
  glob := h.glob
  obj := fun b o x hg hl hm => h.obj b o x ((e.2 b (h.dom b x hm)).trans hg) hl hm
  inj := fun b b' o o' x x' hg hg' hl hl' hne hw hm hm' => h.inj b b' o o' x x' ((e.2 b (h.dom b x hm)).trans hg) ((e.2 b' (h.dom b' x' hm')).trans hg') hl hl' hne hw hm hm'
theorem Fr.same (h : Fr m S0 w m' S w') (hd : ∀ b x, m' b = some x → b < S.next) (e : SameB S S') : Fr m S0 w m' S' w' :=
  ⟨h.le, h.size, h.os, h.tape, h.output, h.keep, fun c hc ⟨b, o, x, hg, hw, hm, hb⟩ => h.own c hc ⟨b, o, x, (e.2 b (hd b x hm)).trans hg, hw, hm, hb⟩, e.1 ▸ h.next, fun b hb hm => ⟨(h.free b hb hm).1, by rw [← e.2 b (Nat.lt_of_lt_of_le hb h.next)]; exact (h.free b hb hm).2⟩⟩
theorem HR.env {E1 : Env} (h : HR E m S w) (e : E1.globs = E.globs) : HR E1 m S w := ⟨h.dom, by rw [e]; exact h.glob, h.obj, h.inj⟩
end
theorem wc_calls {E : Env} {P : Program} (hE : E.Ok P) (hm : P.follows .mixedOrders = true) (hprim : PrimOk E P) (hplw : PrimLw E) {f : Nat} (hf : E.prim f = none) {args : List Value} {S : St} {Q : Value → St → Prop} (h : WC E f args S Q)
    {m : Mp} {w : World} {args' : Array Value} (hH : HR E m S w) (hv : VRs m args args'.toList) :
    Calls P f args' w fun e w' => ∃ v S' v' m', Q v S' ∧ e = .returned v' ∧ VR m' v v' ∧ HR E m' S' w' ∧ Fr m S w m' S' w' := by
  obtain ⟨k, v, S', h1, h2⟩ := h
  have h3 := ((execD_ok hE hm hprim hplw k f args S v S' h1).resolve_right fun hh => hh.1 hf).2 m w args' 0 hH hv
  refine (callsIn_wide.1 h3).mono ?_
  rintro e w' ⟨v', m', rfl, g1, g2, g3⟩
  exact ⟨v, S', v', m', h2, rfl, g1, g2, g3⟩
/-! ### The contract -/
/-- What D shows of Insert's text, over rows whose capacity is known. -/
structure InsWC (E : Env) (f sz : Nat) : Prop where
  nil : ∀ S vb vs, At S vb (.cells vs none false none) → vs.length = sz → vs.all St.one = true →
    WC E f [.slice none 0 0, .int .i64 0, .slice (some ⟨vb, 0, none⟩) 1 1] S fun v S' => v = .slice (some ⟨S.next, 0, none⟩) 1 inex ∧ SameB S' (S.alloc (.cells vs (some sz) false none)).2
  fin : ∀ S b vb n cs vs, At S b (.cells cs (some sz) false none) → cs.length = n * sz → 1 ≤ n → n ≤ 1000000 → At S vb (.cells vs none false none) → vs.length = sz → vs.all St.one = true → cs.all St.one = true → vb ≠ b →
    WC E f [.slice (some ⟨b, 0, none⟩) n inex, .int .i64 (n : Int), .slice (some ⟨vb, 0, none⟩) 1 1] S fun v S' => v = .slice (some ⟨S.next, 0, none⟩) (n + 1) inex ∧ SameB S' ((S.upd b .dead).alloc (.cells (cs ++ vs) (some sz) false none)).2
  room : ∀ S b vb n c i cs sp vs, At S b (.cells (cs ++ sp) none false none) → cs.length = n * sz → sp.length = (c - n) * sz → n + 1 ≤ c → c ≤ 9223372036854775807 → i < n → n ≤ 1000000 → At S vb (.cells vs none false none) → vs.length = sz → vs.all St.one = true → cs.all St.one = true → vb ≠ b →
    WC E f [.slice (some ⟨b, 0, none⟩) n c, .int .i64 (i : Int), .slice (some ⟨vb, 0, none⟩) 1 1] S fun v S' => v = .slice (some ⟨b, 0, none⟩) (n + 1) c ∧ SameB S' (S.upd b (.cells ((cs.take (i * sz) ++ (vs ++ cs.drop (i * sz))) ++ sp.drop sz) none false none))
  grow : ∀ S b vb n i cs vs, At S b (.cells cs none false none) → cs.length = n * sz → i < n → n ≤ 1000000 → At S vb (.cells vs none false none) → vs.length = sz → vs.all St.one = true → cs.all St.one = true → vb ≠ b →
    WC E f [.slice (some ⟨b, 0, none⟩) n n, .int .i64 (i : Int), .slice (some ⟨vb, 0, none⟩) 1 1] S fun v S' => v = .slice (some ⟨S.next, 0, none⟩) (n + 1) inex ∧ SameB S' (S.alloc (.cells (cs.take (i * sz) ++ (vs ++ cs.drop (i * sz))) (some sz) false none)).2
theorem alloc_get {S : St} {o : DObj} {c : Nat} : (S.alloc o).2.heap.get c = if c = S.next then some o else S.heap.get c := PM.get_set _ _ _ _
theorem upd_get {S : St} {b c : Nat} {o : DObj} : (S.upd b o).heap.get c = if c = b then some o else S.heap.get c := PM.get_set _ _ _ _
theorem ins_ok {E E1 : Env} {P : Program} (hE1 : E1.Ok P) (hmx : P.follows .mixedOrders = true) (hp1 : PrimOk E1 P) (hl1 : PrimLw E1) (hgl : E1.globs = E.globs) {f sz : Nat} (hsz : 2 ≤ sz) (hsz2 : sz < TB) (hen : Enterable P f) (hf1 : E1.prim f = none) (T : InsWC E1 f sz) :
    CallOk E P (fun g args S => if g = f then insP sz args S else none) := by
  refine callOk_any hen fun args S v S' h m w args' hH hv => ?_
  have hH1 : HR E1 m S w := hH.env hgl
  unfold insP at h
  split at h
  · rename_i b n c i vb
    split at h
    · rename_i cs mk vs hgb hgv
      have hcs := cond_some h
      clear h
      obtain ⟨hb, h⟩ := hcs
      simp only [Bool.and_eq_true, Bool.not_eq_true', Nat.ble_eq, decide_eq_true_eq] at hb
      obtain ⟨hmk, hc, hi0, hin, hn1, hn2, hcl, hvl, hvb, hvo, hco⟩ := hb
      obtain rfl := Nat.eq_of_beq_eq_true hmk
      obtain rfl := Nat.eq_of_beq_eq_true hc
      have hcl := Nat.eq_of_beq_eq_true hcl
      have hvl := Nat.eq_of_beq_eq_true hvl
      have hne : vb ≠ b := fun e => by rw [e, Nat.beq_refl] at hvb; cases hvb
      obtain ⟨I, rfl⟩ : ∃ I : Nat, i = (I : Int) := ⟨i.toNat, by omega⟩
      rw [Int.toNat_natCast] at h hin
      cases h
      obtain ⟨x', r', e1, hx, hr'⟩ := VRs.inv hv
      obtain ⟨y', z', e2, hy, hz⟩ := VRs.inv2 hr'
      have hav : args' = #[x', y', z'] := Array.ext' (by rw [e1, e2])
      subst hav
      generalize hix : inex = ix at hx
      cases hx with
      | sl _ _ _ _ x hm hne' _ => exact absurd hix.symm hne'
      | sle => omega
      | slz => omega
      | slx _ _ _ c x hm hnc htot =>
      have hbl : b < S.next := hH.dom b x hm
      have hatb : At S b (.cells cs (some mk) false none) := ⟨hgb, hbl⟩
      obtain ⟨xv, _, hmv, _, _⟩ := vr_slice hz
      have hatv : At S vb (.cells vs none false none) := ⟨hgv, hH.dom vb xv hmv⟩
      obtain ⟨ccs, e, fr, o1, o2, o3, o4, o5, o6⟩ := hH.obj b _ x hgb rfl hm
      have hty := o6 _ rfl
      have hxs : x.sz = mk := by rw [hty.1, szT_lt hsz2]
      have hbig := hty.2.2.2.2 hsz hsz2
      rw [hxs] at htot
      have hc63 : c ≤ 9223372036854775807 := by
        have : c * mk ≤ 9223372036854775807 * mk := by omega
        exact Nat.le_of_mul_le_mul_right this (by omega)
      have hcix : c ≠ inex := by unfold inex; omega
      rcases Nat.lt_or_ge I n with hIn | hIn
      · rcases Nat.lt_or_ge c (n + 1) with hcn | hcn
        · -- no room
          have hcn : c = n := by omega
          subst hcn
          obtain ⟨k1, k2⟩ := HR.upd hH1 (o' := .cells cs none false none) hgb rfl hm (w' := w) ⟨ccs, e, fr, o1, o2, o3, o4, o5, by simp⟩ rfl (fun _ _ => rfl) rfl rfl rfl
          have hat1 : At (S.upd b (.cells cs none false none)) b (.cells cs none false none) := upd_at hatb
          have hatv1 : At (S.upd b (.cells cs none false none)) vb (.cells vs none false none) := (upd_mod (S := S) (b := b)).at hatv hne
          have hvv : VRs m [.slice (some ⟨b, 0, none⟩) c c, .int .i64 (I : Int), .slice (some ⟨vb, 0, none⟩) 1 1] #[Value.slice (some ⟨x.blk, x.base + 0, none⟩) c c, y', z'].toList := .cons (.sl b 0 c c x hm hcix (Nat.le_refl _)) (.cons hy (.cons hz .nil))
          refine (wc_calls hE1 hmx hp1 hl1 hf1 (T.grow _ b vb c I cs vs hat1 hcl hIn hn2 hatv1 hvl hvo hco hne) k1 hvv).mono ?_
          rintro e' w' ⟨v2, S2, v', m', ⟨rfl, hsame⟩, rfl, hvr, hH2, hF2⟩
          have hm' := hF2.le _ _ hm
          obtain ⟨q1, q2⟩ := HR.kill hH2 hm'
          have hs2 : SameB (S2.upd b .dead) ((S.upd b .dead).alloc (.cells (cs.take (I * mk) ++ (vs ++ cs.drop (I * mk))) (some mk) false none)).2 := by
            refine ⟨hsame.1, fun q hq => ?_⟩
            have hq1 := hsame.2 q hq
            rw [alloc_get, upd_get] at hq1
            rw [upd_get, alloc_get, upd_get, hq1]
            have hbn : b ≠ S.next := Nat.ne_of_lt hbl
            show _ = if q = S.next then _ else _
            have e9 : (S.upd b (.cells cs none false none)).next = S.next := rfl
            rw [e9]
            by_cases hqb : q = b
            · subst hqb
              rw [if_pos rfl, if_neg hbn, if_pos rfl]
            · rw [if_neg hqb]
              by_cases hqn : q = S.next
              · rw [if_pos hqn, if_pos hqn]
              · rw [if_neg hqn, if_neg hqn, if_neg hqb, if_neg hqb]
          exact ⟨v', m', rfl, hvr, (q1.same hs2).env hgl.symm, (k2.trans (hF2.trans q2)).same (fun b x hb => q1.dom b x hb) hs2⟩
        · -- there is room
          have hccl : ccs.toList.length = ccs.size := Array.length_toList
          obtain ⟨sp, hsp⟩ := abs_list m ((ccs.toList.drop (x.base + n * mk)).take ((c - n) * mk))
          have hcnm : n * mk + (c - n) * mk = c * mk := by rw [← Nat.add_mul, show n + (c - n) = c from by omega]
          have hspl : sp.length = (c - n) * mk := by
            rw [hsp.length, List.length_take, List.length_drop]
            omega
          have hall : VRs m (cs ++ sp) ((ccs.toList.drop x.base).take (cs ++ sp).length) := by
            have e3 : (ccs.toList.drop x.base).take (cs ++ sp).length = (ccs.toList.drop x.base).take cs.length ++ (ccs.toList.drop (x.base + n * mk)).take ((c - n) * mk) := by
              rw [List.length_append, hspl, hcl, List.take_add, List.drop_drop]
            rw [e3]
            exact o4.append hsp
          obtain ⟨k1, k2⟩ := HR.upd hH1 (o' := .cells (cs ++ sp) none false none) hgb rfl hm (w' := w) ⟨ccs, e, fr, o1, o2, by rw [List.length_append, hcl, hspl, hcnm]; omega, hall, o5, by simp⟩ rfl (fun _ _ => rfl) rfl rfl rfl
          have hat1 : At (S.upd b (.cells (cs ++ sp) none false none)) b (.cells (cs ++ sp) none false none) := upd_at hatb
          have hatv1 : At (S.upd b (.cells (cs ++ sp) none false none)) vb (.cells vs none false none) := (upd_mod (S := S) (b := b)).at hatv hne
          have hvv : VRs m [.slice (some ⟨b, 0, none⟩) n c, .int .i64 (I : Int), .slice (some ⟨vb, 0, none⟩) 1 1] #[Value.slice (some ⟨x.blk, x.base + 0, none⟩) n c, y', z'].toList := .cons (.sl b 0 n c x hm hcix hnc) (.cons hy (.cons hz .nil))
          refine (wc_calls hE1 hmx hp1 hl1 hf1 (T.room _ b vb n c I cs sp vs hat1 hcl hspl hcn hc63 hIn hn2 hatv1 hvl hvo hco hne) k1 hvv).mono ?_
          rintro e' w' ⟨v2, S2, v', m', ⟨rfl, hsame⟩, rfl, hvr, hH2, hF2⟩
          have hm' := hF2.le _ _ hm
          have hnx : S2.next = S.next := hsame.1
          have hg2 : S2.heap.get b = some (.cells ((cs.take (I * mk) ++ (vs ++ cs.drop (I * mk))) ++ sp.drop mk) none false none) := by
            rw [hsame.2 b (by omega), upd_get, if_pos rfl]
          have hAl : (cs.take (I * mk) ++ (vs ++ cs.drop (I * mk))).length = (n + 1) * mk := by
            have : I * mk ≤ n * mk := Nat.mul_le_mul_right _ (by omega)
            rw [List.length_append, List.length_append, List.length_take, List.length_drop, hcl, hvl, Nat.add_mul]
            omega
          obtain ⟨cc2, e2', fr2, p1, p2, p3, p4, p5, _⟩ := hH2.obj b _ x hg2 rfl hm'
          have hcnm2 : (n + 1) * mk ≤ c * mk := Nat.mul_le_mul_right _ hcn
          obtain ⟨q1, q2⟩ := HR.move hH2 (o' := .cells (cs.take (I * mk) ++ (vs ++ cs.drop (I * mk))) (some mk) false none) (x' := x) (w' := w') hg2 rfl hm' rfl
            ⟨cc2, e2', fr2, p1, p2, by rw [hAl]; omega, by
              have := p4.take (cs.take (I * mk) ++ (vs ++ cs.drop (I * mk))).length
              rw [List.take_left' rfl, List.take_take, Nat.min_eq_left (Nat.le_trans (Nat.le_add_right _ (sp.drop mk).length) (Nat.le_of_eq (List.length_append (as := cs.take (I * mk) ++ (vs ++ cs.drop (I * mk))) (bs := sp.drop mk)).symm))] at this
              exact this.mono (Mp.le_put hH2.fresh), p5, by intro s hs; cases hs; exact TY.low hxs hsz2 fun _ => hbig⟩ rfl (fun _ _ => rfl) rfl rfl rfl
          have hs2 : SameB ((S2.upd b .dead).alloc (.cells (cs.take (I * mk) ++ (vs ++ cs.drop (I * mk))) (some mk) false none)).2 ((S.upd b .dead).alloc (.cells (cs.take (I * mk) ++ (vs ++ cs.drop (I * mk))) (some mk) false none)).2 := by
            refine ⟨by show S2.next + 1 = S.next + 1; omega, fun q hq => ?_⟩
            have hq' : q < S2.next + 1 := hq
            rw [alloc_get, alloc_get, upd_get, upd_get]
            show (if q = S2.next then _ else _) = if q = S.next then _ else _
            rw [hnx]
            by_cases hqn : q = S.next
            · rw [if_pos hqn, if_pos hqn]
            · rw [if_neg hqn, if_neg hqn]
              by_cases hqb : q = b
              · rw [if_pos hqb, if_pos hqb]
              · rw [if_neg hqb, if_neg hqb, hsame.2 q (by omega)]
                exact upd_get.trans ((if_neg hqb).trans (upd_get.trans (if_neg hqb)))
          have hvr2 : VR (m'.put S2.next x) (.slice (some ⟨S.next, 0, none⟩) (n + 1) inex) v' := by
            cases hvr with
            | sl _ _ _ _ y hy2 _ _ =>
              rw [hm'] at hy2; cases hy2
              rw [← hnx]
              exact .slx (m := m'.put S2.next x) S2.next 0 (n + 1) c x (by simp) hcn (by rw [hxs]; exact htot)
            | slx _ _ _ _ y hy2 _ _ => exact absurd rfl hcix
          exact ⟨v', _, rfl, hvr2, (q1.same hs2).env hgl.symm, (k2.trans (hF2.trans q2)).same (fun b x hb => q1.dom b x hb) hs2⟩
      · have hIn : I = n := by omega
        subst hIn
        have hvv : VRs m [.slice (some ⟨b, 0, none⟩) I inex, .int .i64 (I : Int), .slice (some ⟨vb, 0, none⟩) 1 1] #[Value.slice (some ⟨x.blk, x.base + 0, none⟩) I c, y', z'].toList := .cons (.slx b 0 I c x hm hnc (by rw [hxs]; exact htot)) (.cons hy (.cons hz .nil))
        refine (wc_calls hE1 hmx hp1 hl1 hf1 (T.fin S b vb I cs vs hatb hcl hn1 hn2 hatv hvl hvo hco hne) hH1 hvv).mono ?_
        rintro e' w' ⟨v2, S2, v', m', ⟨rfl, hsame⟩, rfl, hvr, hH2, hF2⟩
        have e4 : cs.take (I * mk) ++ (vs ++ cs.drop (I * mk)) = cs ++ vs := by
          rw [List.take_of_length_le (by omega), List.drop_of_length_le (by omega), List.append_nil]
        rw [e4]
        exact ⟨v', m', rfl, hvr, (hH2.same hsame).env hgl.symm, hF2.same (fun b x hb => hH2.dom b x hb) hsame⟩
    · cases h
  · rename_i vb
    split at h
    · rename_i vs hgv
      have hcs := cond_some h
      clear h
      obtain ⟨hb, h⟩ := hcs
      simp only [Bool.and_eq_true] at hb
      have hvl := Nat.eq_of_beq_eq_true hb.1
      cases h
      have hz0 : ∃ xv, m vb = some xv := by
        obtain ⟨x', r', e1, hx, hr'⟩ := VRs.inv hv
        obtain ⟨y', z', e2, hy, hz⟩ := VRs.inv2 hr'
        obtain ⟨xv, _, hmv, _, _⟩ := vr_slice hz
        exact ⟨xv, hmv⟩
      obtain ⟨xv, hmv⟩ := hz0
      refine (wc_calls hE1 hmx hp1 hl1 hf1 (T.nil S vb vs ⟨hgv, hH.dom vb xv hmv⟩ hvl hb.2) hH1 hv).mono ?_
      rintro e' w' ⟨v2, S2, v', m', ⟨rfl, hsame⟩, rfl, hvr, hH2, hF2⟩
      exact ⟨v', m', rfl, hvr, (hH2.same hsame).env hgl.symm, hF2.same (fun b x hb => hH2.dom b x hb) hsame⟩
    · cases h
  · cases h
end
end Go.Proofs.Ytcdignblakejoaa.D
