/- Parts of the proof, put together. -/
import Derived.Test.YtgdijpcopdgapaaDoorDD
import Derived.Lib.Join
import Derived.Lib.Split
import Derived.Lib.AtoiAll
import Derived.Lib.ParseIntB
import Derived.Lib.ItoaNum
import Derived.Lib.SplitLaws
import Derived.Sort.Row
import Derived.Deep.Draws
import Derived.LaidSub
import Derived.Lib.Bytealg
import Derived.Lib.IndexMore
import Derived.Laws.LoneSync
/-
  D, part 35: functions of Go's library that are met by contracts: strings.Join, strings.Split, strconv.Atoi, strconv.ParseUint, internal/strconv.formatBase10.
-/
namespace Go.Proofs.YtgdijpcopdgapaaDoor.D
noncomputable section
open Go.RowKit
set_option linter.unusedVariables false
set_option linter.unusedSimpArgs false

theorem hr_below {E : Env} {m : Mp} {S : St} {w w' : World} (hH : HR E m S w) (b : Below w.heap.size w w') : HR E m S w' ∧ Fr m S w m S w' := by
  refine ⟨⟨hH.dom, hH.glob, fun c o x hg hl hm => ?_, hH.inj⟩, ⟨Mp.le_refl m, b.size, b.os, b.tape, b.output, fun c hc _ => b.block c hc, fun _ _ h => h, Nat.le_refl _, fun _ _ h => ⟨h, rfl⟩⟩⟩
  have h := hH.obj c o x hg hl hm
  rw [b.block _ (OR.lt hl h)]
  exact h
/-- A function that leaves D's memory as it is, by its contract. -/
theorem callOk_pure {E : Env} {P : Program} {f : Nat} (hen : Enterable P f) {p : List Value → St → Option Value}
    (h : ∀ args S v, p args S = some v → ∀ m w (args' : Array Value), HR E m S w → VRs m args args'.toList → Calls P f args' w fun e w' => ∃ v', e = .returned v' ∧ VR m v v' ∧ Below w.heap.size w w') :
    CallOk E P (fun g args S => if g = f then (p args S).map (·, S) else none) := by
  intro g args S v S' hg
  dsimp only at hg
  split at hg
  · rename_i e; subst e
    rw [Option.map_eq_some_iff] at hg
    obtain ⟨u, h1, h2⟩ := hg
    cases h2
    refine ⟨hen, fun m w args' n hH hv => callsIn_wide.2 ((h args S _ h1 m w args' hH hv).mono ?_)⟩
    rintro e w' ⟨v', rfl, h3, h4⟩
    exact ⟨v', m, rfl, h3, hr_below hH h4⟩
  · cases hg
theorem callOk_any {E : Env} {P : Program} {f : Nat} (hen : Enterable P f) {p : List Value → St → Option (Value × St)}
    (h : ∀ args S v S', p args S = some (v, S') → ∀ m w (args' : Array Value), HR E m S w → VRs m args args'.toList → Calls P f args' w fun e w' => ∃ v' m', e = .returned v' ∧ VR m' v v' ∧ HR E m' S' w' ∧ Fr m S w m' S' w') :
    CallOk E P (fun g args S => if g = f then p args S else none) := by
  intro g args S v S' hg
  dsimp only at hg
  split at hg
  · rename_i e; subst e
    exact ⟨hen, fun m w args' n hH hv => callsIn_wide.2 (h args S v S' hg m w args' hH hv)⟩
  · cases hg
theorem WC_prim {E : Env} {f : Nat} {p : List Value → St → Option (Value × St)} {args : List Value} {S S' : St} {v : Value} {Q : Value → St → Prop} (hp : E.prim f = some p) (h : p args S = some (v, S')) (hq : Q v S') : WC E f args S Q :=
  ⟨0, v, S', by unfold callF; rw [hp]; exact h, hq⟩

/-! ### What a contract wants to see of the model's memory -/
section
variable {E : Env} {m : Mp} {S : St} {w : World} (hH : HR E m S w)
include hH
theorem HR.cell_at {b o : Nat} {v : Value} {x : BM} (hm : m b = some x) (h : S.load1 b o = some v) : ∃ v', w.cell? ⟨x.blk, x.base + o, none⟩ = some v' ∧ VR m v v' := by
  unfold St.load1 at h
  split at h
  · rename_i cs more ro fz hg
    obtain ⟨y, ccs, e, fr, h1, h2, h3, h4, h5, _⟩ := hH.cells ⟨x, hm⟩ hg
    rw [hm] at h1; cases h1
    obtain ⟨v', hv', hr⟩ := h5.get h
    refine ⟨v', ?_, hr⟩
    have hlt : o < cs.length := by
      rcases Nat.lt_or_ge o cs.length with hl | hl
      · exact hl
      · rw [List.getElem?_eq_none hl] at h; cases h
    have : ccs[x.base + o]? = some v' := by
      rw [List.getElem?_take_of_lt hlt, List.getElem?_drop] at hv'
      simpa using hv'
    simp [World.cell?, h2, this]
  · cases h
theorem HR.glob_at {g o : Nat} {v : Value} (hg : g < E.globs) (h : S.load1 g o = some v) : ∃ v', w.cell? ⟨g, o, none⟩ = some v' ∧ VR m v v' := by
  obtain ⟨x, h1, h2, h3⟩ := hH.glob g hg
  have := hH.cell_at h1 h
  rwa [h2, h3, Nat.zero_add] at this
end

/-! ### strings.Join -/
def strsOf : List Value → Option (List ByteArray)
  | [] => some []
  | .string s :: r => (strsOf r).map (s :: ·)
  | _ => none
theorem strsOf_get : ∀ {l : List Value} {xs : List ByteArray}, strsOf l = some xs → xs.length = l.length ∧ ∀ (j : Nat) x, xs[j]? = some x → l[j]? = some (.string x)
  | [], xs, h => by cases h; exact ⟨rfl, by simp⟩
  | v :: r, xs, h => by
    cases v <;> simp only [strsOf] at h <;> first | (cases h; done) | skip
    rw [Option.map_eq_some_iff] at h
    obtain ⟨ys, h1, rfl⟩ := h
    obtain ⟨h2, h3⟩ := strsOf_get h1
    refine ⟨by simp [h2], fun j x hj => ?_⟩
    cases j with
    | zero => simpa using hj
    | succ j => exact h3 j x (by simpa using hj)
theorem strsOf_map (xs : List ByteArray) : strsOf (xs.map Value.string) = some xs := by
  induction xs with
  | nil => rfl
  | cons x xs ih => simp only [List.map_cons, strsOf, ih, Option.map_some]
def joinB (xs : List ByteArray) (sep : ByteArray) : List UInt8 := Lib.join (xs.map (·.data.toList)) sep.data.toList
def joinP (args : List Value) (S : St) : Option Value :=
  match args with
  | [.slice a n _, .string sep] =>
    match n with
    | 0 => some (.string ⟨#[]⟩)
    | k + 1 =>
      match a with
      | some ⟨b, o, none⟩ => (S.loadN b o (k + 1)).bind fun vs => (strsOf vs).bind fun xs =>
          cond (Nat.ble (joinB xs sep).length 140737488355328 && Nat.ble (k + 1) 140737488355328) (some (.string ⟨(joinB xs sep).toArray⟩)) none
      | _ => none
  | _ => none
theorem loadN_get {S : St} {b o n : Nat} {vs : List Value} (h : S.loadN b o n = some vs) {j : Nat} {v : Value} (hj : vs[j]? = some v) : S.load1 b (o + j) = some v := by
  unfold St.loadN at h
  unfold St.load1
  split at h
  · obtain ⟨_, h⟩ := cond_some h
    cases h
    rw [List.getElem?_take] at hj
    split at hj
    · rwa [List.getElem?_drop] at hj
    · cases hj
  · cases h
theorem loadN_len' {S : St} {b o n : Nat} {vs : List Value} (h : S.loadN b o n = some vs) : vs.length = n := by
  unfold St.loadN at h
  split at h
  · obtain ⟨hb, h⟩ := cond_some h
    cases h
    exact Nat.eq_of_beq_eq_true hb
  · cases h
theorem vr_slice {m : Mp} {b o n cap : Nat} {v' : Value} (h : VR m (.slice (some ⟨b, o, none⟩) (n + 1) cap) v') : ∃ x cap', m b = some x ∧ v' = .slice (some ⟨x.blk, x.base + o, none⟩) (n + 1) cap' ∧ n + 1 ≤ cap' := by
  cases h with
  | sl _ _ _ _ x h1 _ h3 => exact ⟨x, _, h1, rfl, h3⟩
  | slx _ _ _ _ x h1 h3 _ => exact ⟨x, _, h1, rfl, h3⟩
theorem vr_slice0 {m : Mp} {a : Option Addr} {cap : Nat} {v' : Value} (h : VR m (.slice a 0 cap) v') : ∃ a' cap', v' = .slice a' 0 cap' := by
  cases h with
  | nils => exact ⟨_, _, rfl⟩
  | sl => exact ⟨_, _, rfl⟩
  | slx => exact ⟨_, _, rfl⟩
  | sle => exact ⟨_, _, rfl⟩
  | slz => exact ⟨_, _, rfl⟩
theorem join_ok {E : Env} {P : Program} {f : Nat} (hen : Enterable P f)
    (c0 : ∀ (a : Option Addr) (c : Nat) (sep : ByteArray) (w : World), Calls P f #[.slice a 0 c, .string sep] w fun e w' => e = .returned (.string ⟨#[]⟩) ∧ w' = w)
    (c1 : ∀ (bk o c : Nat) (xs : List ByteArray) (sep : ByteArray) (w : World), (∀ (j : Nat) x, xs[j]? = some x → w.cell? ⟨bk, o + j, none⟩ = some (.string x)) → bk < w.heap.size → xs.length ≤ 140737488355328 → xs.length ≤ c →
      (Lib.join (xs.map (·.data.toList)) sep.data.toList).length ≤ 140737488355328 →
      Calls P f #[.slice (some ⟨bk, o, none⟩) xs.length c, .string sep] w fun e w' => e = .returned (.string ⟨(Lib.join (xs.map (·.data.toList)) sep.data.toList).toArray⟩) ∧ Below w.heap.size w w') :
    CallOk E P (fun g args S => if g = f then (joinP args S).map (·, S) else none) := by
  refine callOk_pure hen fun args S v h m w args' hH hv => ?_
  unfold joinP at h
  split at h
  · rename_i a n cap sep
    obtain ⟨x', y', e1, hx, hy⟩ := VRs.inv2 hv
    cases hy
    obtain rfl : args' = #[x', .string sep] := Array.ext' e1
    split at h
    · cases h
      obtain ⟨a', cap', rfl⟩ := vr_slice0 hx
      refine (c0 a' cap' sep w).mono ?_
      rintro e w' ⟨rfl, rfl⟩
      exact ⟨_, rfl, .string _, Below.refl _ _⟩
    · rename_i k
      split at h
      · rename_i b o
        simp only [Option.bind_eq_some_iff] at h
        obtain ⟨vs, h1, xs, h2, h3⟩ := h
        obtain ⟨hb, h3⟩ := cond_some h3
        cases h3
        simp only [Bool.and_eq_true, Nat.ble_eq] at hb
        obtain ⟨x, cap', hm, rfl, hcap⟩ := vr_slice hx
        obtain ⟨g1, g2⟩ := strsOf_get h2
        have g3 := loadN_len' h1
        have hlen : xs.length = k + 1 := by omega
        have hbk : x.blk < w.heap.size := by
          obtain ⟨v', h4, _⟩ := hH.cell_at hm (loadN_get h1 (j := 0) (v := vs[0]'(by omega)) (List.getElem?_eq_getElem _))
          unfold World.cell? at h4
          rcases Nat.lt_or_ge x.blk w.heap.size with hlt | hge
          · exact hlt
          · rw [Array.getElem?_eq_none hge] at h4; cases h4
        have := c1 x.blk (x.base + o) cap' xs sep w (fun j y hj => by
          obtain ⟨v', h4, h5⟩ := hH.cell_at hm (loadN_get h1 (g2 j y hj))
          cases h5
          rwa [Nat.add_assoc]) hbk (by omega) (by omega) hb.1
        rw [hlen] at this
        refine this.mono ?_
        rintro e w' ⟨rfl, h4⟩
        exact ⟨_, rfl, .string _, h4⟩
      · cases h
  · cases h

/-! ### strings.Split -/
def splitP (g1 : Nat) (args : List Value) (S : St) : Option (Value × St) :=
  match args with
  | [.string s, .string sep] =>
    match S.load1 g1 0 with
    | some (.int .i64 _) =>
      cond (Nat.blt s.size 4294967281 && Nat.ble 1 sep.size)
        (let l := Lib.splitB sep 0 (Lib.countB s sep) s
         some (.slice (some ⟨S.next, 0, none⟩) (Lib.countB s sep + 1) (Lib.countB s sep + 1), (S.alloc (.cells (l.map Value.string) none false none)).2)) none
    | _ => none
  | _ => none
theorem split_ok {E : Env} {P : Program} {f g1 t9 : Nat} (hg1 : g1 < E.globs) (hen : Enterable P f)
    (c : ∀ (s sep : ByteArray) (m : Int) (w : World), s.size < 4294967281 → w.cell? ⟨g1, 0, none⟩ = some (.int .i64 m) → 1 ≤ sep.size →
      Calls P f #[.string s, .string sep] w fun e w' => e = .returned (.slice (some ⟨w.heap.size, 0, none⟩) (Lib.countB s sep + 1) (Lib.countB s sep + 1)) ∧ w' = w.alloc (.cells ((Lib.splitB sep 0 (Lib.countB s sep) s).map Value.string).toArray t9)) :
    CallOk E P (fun g args S => if g = f then splitP g1 args S else none) := by
  refine callOk_any hen fun args S v S' h m w args' hH hv => ?_
  unfold splitP at h
  split at h
  · rename_i s sep
    obtain ⟨x', y', e1, hx, hy⟩ := VRs.inv2 hv
    cases hx; cases hy
    obtain rfl : args' = #[.string s, .string sep] := Array.ext' e1
    split at h
    · rename_i i hi
      obtain ⟨hb, h⟩ := cond_some h
      cases h
      simp only [Bool.and_eq_true, Nat.ble_eq, Nat.blt_eq] at hb
      obtain ⟨v', h1, h2⟩ := hH.glob_at hg1 hi
      cases h2
      refine (c s sep i w hb.1 h1 hb.2).mono ?_
      rintro e w' ⟨rfl, rfl⟩
      have hle := Lib.countB_le sep hb.2 s.size s (Nat.le_refl _)
      have hlen := Lib.splitB_all sep hb.2 0 _ s rfl
      obtain ⟨k1, k2⟩ := hH.alloc (.cells ((Lib.splitB sep 0 (Lib.countB s sep) s).map Value.string) none false none) (.cells ((Lib.splitB sep 0 (Lib.countB s sep) s).map Value.string).toArray t9) ⟨w.heap.size, 0, (Lib.splitB sep 0 (Lib.countB s sep) s).length, 1⟩ rfl
        ⟨_, t9, (0, 0), rfl, by simp, by simp, by
          simp only [List.drop_zero, List.toList_toArray]
          rw [List.take_of_length_le (Nat.le_refl _)]
          exact .of_get rfl fun j v v' e e' => by
            rw [e] at e'; cases e'
            rw [List.getElem?_map, Option.map_eq_some_iff] at e
            obtain ⟨y, _, rfl⟩ := e
            exact .string _, rfl, by simp⟩
      refine ⟨_, _, rfl, ?_, k1, k2⟩
      have := VR.sl (m := m.put S.next ⟨w.heap.size, 0, (Lib.splitB sep 0 (Lib.countB s sep) s).length, 1⟩) S.next 0 (Lib.countB s sep + 1) (Lib.countB s sep + 1) ⟨w.heap.size, 0, (Lib.splitB sep 0 (Lib.countB s sep) s).length, 1⟩ (by simp) (by unfold inex; omega) (Nat.le_refl _)
      exact this
    · cases h
  · cases h

/-! ### strconv.Atoi, strconv.ParseUint -/
def errB : Option Value → Bool
  | some .nilIface => true
  | some (.iface _ _) => true
  | _ => false
def noV : Value := .complex .f32 0 0
def atoiP (tE gs gr : Nat) (args : List Value) (S : St) : Option Value :=
  match args with
  | [.string s] =>
    cond (Nat.ble s.size 281474976710656 && (errB (S.load1 gs 0) && errB (S.load1 gr 0)))
      (some (match Lib.atoiAll s.data.toList with
        | .ok v => .tuple #[.int .i64 v, .nilIface]
        | Lib.NumEnd.syntax => .tuple #[.int .i64 0, .iface tE noV]
        | .range => .tuple #[.int .i64 (Lib.atoiSat s.data.toList), .iface tE noV])) none
  | _ => none
def puP (gs gr : Nat) (args : List Value) (S : St) : Option Value :=
  match args with
  | [.string s, .int .i64 10, .int .i64 64] =>
    cond (Nat.ble s.size 281474976710656 && (errB (S.load1 gs 0) && errB (S.load1 gr 0)))
      (some (match Lib.parseUintB 64 s.data.toList with
        | .ok v => .tuple #[.int .u64 (v : Nat), .nilIface]
        | Lib.NumEnd.syntax => .tuple #[.int .u64 0, noV]
        | .range => .tuple #[.int .u64 18446744073709551615, noV])) none
  | _ => none
theorem errB_at {E : Env} {m : Mp} {S : St} {w : World} (hH : HR E m S w) {g : Nat} (hg : g < E.globs) (h : errB (S.load1 g 0) = true) : ∃ ev, w.cell? ⟨g, 0, none⟩ = some ev ∧ (ev = .nilIface ∨ ∃ te pe, ev = .iface te pe) := by
  unfold errB at h
  split at h
  · rename_i e
    obtain ⟨v', h1, h2⟩ := hH.glob_at hg e
    cases h2
    exact ⟨_, h1, .inl rfl⟩
  · rename_i t v e
    obtain ⟨v', h1, h2⟩ := hH.glob_at hg e
    cases h2
    exact ⟨_, h1, .inr ⟨_, _, rfl⟩⟩
  · cases h
theorem vr_pair {m : Mp} {a a' b b' : Value} (h1 : VR m a a') (h2 : VR m b b') : VR m (.tuple #[a, b]) (.tuple #[a', b']) := by
  refine .tup _ _ rfl fun i v v' e e' => ?_
  match i with
  | 0 => simp at e e'; subst e e'; exact h1
  | 1 => simp at e e'; subst e e'; exact h2
  | n + 2 => simp at e
theorem atoi_ok {E : Env} {P : Program} {f tE gs gr : Nat} (hgs : gs < E.globs) (hgr : gr < E.globs) (hen : Enterable P f)
    (c1 : ∀ (s : ByteArray) (v : Int) (w : World), s.size ≤ 281474976710656 → Lib.atoiAll s.data.toList = .ok v → Calls P f #[.string s] w fun e w' => e = .returned (.tuple #[.int .i64 v, .nilIface]) ∧ Below w.heap.size w w')
    (c2 : ∀ (s : ByteArray) (ev : Value) (w : World), s.size ≤ 281474976710656 → Lib.atoiAll s.data.toList = Lib.NumEnd.syntax → w.cell? ⟨gs, 0, none⟩ = some ev → (ev = .nilIface ∨ ∃ te pe, ev = .iface te pe) →
      Calls P f #[.string s] w fun e w' => (∃ p, e = .returned (.tuple #[.int .i64 0, .iface tE (.pointer p)])) ∧ Below w.heap.size w w')
    (c3 : ∀ (s : ByteArray) (ev : Value) (w : World), s.size ≤ 281474976710656 → Lib.atoiAll s.data.toList = .range → w.cell? ⟨gr, 0, none⟩ = some ev → (ev = .nilIface ∨ ∃ te pe, ev = .iface te pe) →
      Calls P f #[.string s] w fun e w' => (∃ p, e = .returned (.tuple #[.int .i64 (Lib.atoiSat s.data.toList), .iface tE (.pointer p)])) ∧ Below w.heap.size w w') :
    CallOk E P (fun g args S => if g = f then (atoiP tE gs gr args S).map (·, S) else none) := by
  refine callOk_pure hen fun args S v h m w args' hH hv => ?_
  unfold atoiP at h
  split at h
  · rename_i s
    obtain ⟨x', e1, hx⟩ := VRs.inv1 hv
    cases hx
    obtain rfl : args' = #[.string s] := Array.ext' e1
    obtain ⟨hb, h⟩ := cond_some h
    cases h
    simp only [Bool.and_eq_true, Nat.ble_eq] at hb
    obtain ⟨hl, hs, hr⟩ := hb
    split
    · rename_i v hv
      refine (c1 s v w hl hv).mono ?_
      rintro e w' ⟨rfl, h4⟩
      exact ⟨_, rfl, vr_pair (.int _ _) .nili, h4⟩
    · rename_i hv
      obtain ⟨ev, g1, g2⟩ := errB_at hH hgs hs
      refine (c2 s ev w hl hv g1 g2).mono ?_
      rintro e w' ⟨⟨p, rfl⟩, h4⟩
      exact ⟨_, rfl, vr_pair (.int _ _) (.iface _ _ _ (.junk _ (by simp) (by simp) (by simp))), h4⟩
    · rename_i hv
      obtain ⟨ev, g1, g2⟩ := errB_at hH hgr hr
      refine (c3 s ev w hl hv g1 g2).mono ?_
      rintro e w' ⟨⟨p, rfl⟩, h4⟩
      exact ⟨_, rfl, vr_pair (.int _ _) (.iface _ _ _ (.junk _ (by simp) (by simp) (by simp))), h4⟩
  · cases h
theorem pu_ok {E : Env} {P : Program} {f gs gr : Nat} (hgs : gs < E.globs) (hgr : gr < E.globs) (hen : Enterable P f)
    (c1 : ∀ (s : ByteArray) (v : Nat) (w : World), s.size ≤ 281474976710656 → Lib.parseUintB 64 s.data.toList = .ok v → Calls P f #[.string s, .int .i64 10, .int .i64 64] w fun e w' => e = .returned (.tuple #[.int .u64 v, .nilIface]) ∧ Below w.heap.size w w')
    (c2 : ∀ (s : ByteArray) (ev : Value) (w : World), s.size ≤ 281474976710656 → Lib.parseUintB 64 s.data.toList = Lib.NumEnd.syntax → w.cell? ⟨gs, 0, none⟩ = some ev → (ev = .nilIface ∨ ∃ te pe, ev = .iface te pe) →
      Calls P f #[.string s, .int .i64 10, .int .i64 64] w fun e w' => (∃ t p, e = .returned (.tuple #[.int .u64 0, .iface t p])) ∧ Below w.heap.size w w')
    (c3 : ∀ (s : ByteArray) (ev : Value) (w : World), s.size ≤ 281474976710656 → Lib.parseUintB 64 s.data.toList = .range → w.cell? ⟨gr, 0, none⟩ = some ev → (ev = .nilIface ∨ ∃ te pe, ev = .iface te pe) →
      Calls P f #[.string s, .int .i64 10, .int .i64 64] w fun e w' => (∃ t p, e = .returned (.tuple #[.int .u64 18446744073709551615, .iface t p])) ∧ Below w.heap.size w w') :
    CallOk E P (fun g args S => if g = f then (puP gs gr args S).map (·, S) else none) := by
  refine callOk_pure hen fun args S v h m w args' hH hv => ?_
  unfold puP at h
  split at h
  · rename_i s
    obtain ⟨x', r', e1, hx, hr'⟩ := VRs.inv hv
    obtain ⟨y', z', e2, hy, hz⟩ := VRs.inv2 hr'
    cases hx; cases hy; cases hz
    rw [e2] at e1
    obtain rfl : args' = #[.string s, .int .i64 10, .int .i64 64] := Array.ext' e1
    obtain ⟨hb, h⟩ := cond_some h
    cases h
    simp only [Bool.and_eq_true, Nat.ble_eq] at hb
    obtain ⟨hl, hs, hr⟩ := hb
    split
    · rename_i v hv
      refine (c1 s v w hl hv).mono ?_
      rintro e w' ⟨rfl, h4⟩
      exact ⟨_, rfl, vr_pair (.int _ _) .nili, h4⟩
    · rename_i hv
      obtain ⟨ev, g1, g2⟩ := errB_at hH hgs hs
      refine (c2 s ev w hl hv g1 g2).mono ?_
      rintro e w' ⟨⟨t, p, rfl⟩, h4⟩
      exact ⟨_, rfl, vr_pair (.int _ _) (.junk _ (by simp) (by simp) (by simp)), h4⟩
    · rename_i hv
      obtain ⟨ev, g1, g2⟩ := errB_at hH hgr hr
      refine (c3 s ev w hl hv g1 g2).mono ?_
      rintro e w' ⟨⟨t, p, rfl⟩, h4⟩
      exact ⟨_, rfl, vr_pair (.int _ _) (.junk _ (by simp) (by simp) (by simp)), h4⟩
  · cases h
/-! ### internal/strconv.formatBase10 -/
def enc8 (b : UInt8) : Value := Value.int .u8 (b.toNat : Int)
def isB : Value → Bool
  | .int .u8 n => decide (0 ≤ n) && decide (n < 256)
  | _ => false
def digV (u n t : Nat) : Value := .int .u8 (((48 + u / 10 ^ (n - 1 - t) % 10 : Nat) : Int))
def digVs (u n : Nat) : List Value := (List.range n).map (digV u n)
def fmtP (args : List Value) (S : St) : Option (Value × St) :=
  match args with
  | [.slice (some ⟨b, o, none⟩) (k + 1) _, .int .u64 u] =>
    (S.loadN b o (k + 1)).bind fun vs =>
      cond (vs.all isB && (decide (0 ≤ u) && (Nat.blt u.toNat (10 ^ (k + 1)) && (Nat.blt u.toNat 18446744073709551616 && Nat.blt (k + 1) 4611686018427387904))))
        ((S.storeN b o (digVs u.toNat (k + 1))).map fun S' => (.tuple #[], S')) none
  | _ => none
theorem isB_enc {v : Value} (h : isB v = true) : ∃ b : UInt8, v = enc8 b := by
  unfold isB at h
  split at h
  · rename_i n
    simp only [Bool.and_eq_true, decide_eq_true_eq] at h
    refine ⟨UInt8.ofNat n.toNat, ?_⟩
    unfold enc8
    congr 1
    have e : (UInt8.ofNat n.toNat).toNat = n.toNat % 256 := rfl
    rw [e]
    omega
  · cases h
theorem fmt_ok {E : Env} {P : Program} {f : Nat} (hen : Enterable P f)
    (c : ∀ (blk off cap u : Nat) (d : Array UInt8) (w : World), Go.Sort.Holds (fun (b : UInt8) => Value.int .u8 (b.toNat : Int)) w blk off d → u < 10 ^ d.size → u < 18446744073709551616 → d.size < 4611686018427387904 →
      Calls P f #[.slice (some ⟨blk, off, none⟩) d.size cap, .int .u64 u] w fun e w' =>
        e = .returned (.tuple #[]) ∧ ∃ (n v' : Nat) (dk : Array UInt8), w' = (Go.Sort.putRow (fun (b : UInt8) => Value.int .u8 (b.toNat : Int)) w blk off dk).drewN n ∧ Lib.FmtInv d.size u 0 v' dk) :
    CallOk E P (fun g args S => if g = f then fmtP args S else none) := by
  refine callOk_any hen fun args S v S' h m w args' hH hv => ?_
  unfold fmtP at h
  split at h
  · rename_i b o k cap u
    obtain ⟨x', y', e1, hx, hy⟩ := VRs.inv2 hv
    cases hy
    obtain ⟨x, cap', hm, rfl, hcap⟩ := vr_slice hx
    obtain rfl : args' = #[.slice (some ⟨x.blk, x.base + o, none⟩) (k + 1) cap', .int .u64 u] := Array.ext' e1
    rw [Option.bind_eq_some_iff] at h
    obtain ⟨vs, h1, h⟩ := h
    obtain ⟨hb, h⟩ := cond_some h
    rw [Option.map_eq_some_iff] at h
    obtain ⟨S2, h2, h3⟩ := h
    cases h3
    simp only [Bool.and_eq_true, Nat.blt_eq, decide_eq_true_eq, List.all_eq_true] at hb
    obtain ⟨ha, hu0, hu1, hu2, hk⟩ := hb
    have hl := loadN_len' h1
    -- the block
    have h2' := h2
    unfold St.storeN at h2'
    split at h2'
    · rename_i cs more ro fz hg
      obtain ⟨y, ccs, e, fr, g1, g2, g3, g4, g5, g6, g7⟩ := hH.cells ⟨x, hm⟩ hg
      rw [hm] at g1; cases g1
      obtain ⟨hb2, h2'⟩ := cond_some h2'
      cases h2'
      simp only [Bool.and_eq_true, Bool.not_eq_true', Nat.ble_eq, List.all_eq_true] at hb2
      obtain ⟨⟨⟨hro, hle⟩, _⟩, hfz⟩ := hb2
      subst hro
      have hdl : (digVs u.toNat (k + 1)).length = k + 1 := by simp [digVs]
      rw [hdl] at hle hfz ⊢
      -- what stands there
      obtain ⟨d, hd1, hd2⟩ := list_of (p := fun i (c : UInt8) => vs[i]? = some (enc8 c)) (n := k + 1) (fun i hi => by
        have hi' : i < vs.length := by omega
        obtain ⟨c, hc⟩ := isB_enc (ha vs[i] (List.getElem_mem hi'))
        exact ⟨c, by rw [List.getElem?_eq_getElem hi', hc]⟩)
      have hH0 : Go.Sort.Holds (fun (b : UInt8) => Value.int .u8 (b.toNat : Int)) w x.blk (x.base + o) d.toArray := by
        intro j hj
        have hj : j < d.length := by simpa using hj
        obtain ⟨v', k1, k2⟩ := hH.cell_at hm (loadN_get h1 (hd2 j hj))
        cases k2
        refine ⟨?_, ?_⟩
        · rw [Nat.add_assoc, k1]
          rw [getElem!_pos d.toArray j (by simpa using hj)]
          rfl
        · unfold World.frozen?
          rw [g2]
          show (decide (fr.1 ≤ x.base + o + j) && decide (x.base + o + j < fr.2)) = false
          cases fz with
          | none => rw [show fr = (0, 0) from g6]; simp
          | some p =>
            obtain ⟨lo, hi⟩ := p
            rw [Bool.and_eq_false_iff]
            by_cases hin : fr.1 ≤ x.base + o + j ∧ x.base + o + j < fr.2
            · have := g6 _ hin.1 hin.2 (by omega) (by omega)
              simp only [St.fzOk, Bool.or_eq_true, Nat.ble_eq] at hfz
              simp only at this
              omega
            · simp; omega
      have hds : d.toArray.size = k + 1 := by simpa using hd1
      have hc := c x.blk (x.base + o) cap' u.toNat d.toArray w hH0 (by rw [hds]; exact hu1) hu2 (by rw [hds]; exact hk)
      rw [hds, show ((u.toNat : Nat) : Int) = u by omega] at hc
      refine hc.mono ?_
      rintro e' w' ⟨rfl, n, v', dk, rfl, hF⟩
      have hdk := hF.size
      have hblk : x.blk < w.heap.size := (Array.getElem?_eq_some_iff.1 g2).1
      have hheap : (Go.Sort.putRow (fun (b : UInt8) => Value.int .u8 (b.toNat : Int)) w x.blk (x.base + o) dk).heap[x.blk]? = some (.cells (Go.Sort.putCells (fun (b : UInt8) => Value.int .u8 (b.toNat : Int)) (x.base + o) dk ccs) e fr) := by
        simp only [Go.Sort.putRow, Go.Sort.mapBlock, Array.getElem?_modify, if_true, g2, Option.map_some, Go.Sort.onCells]
      obtain ⟨k1, k2⟩ := HR.upd (w' := Go.Sort.putRow (fun (b : UInt8) => Value.int .u8 (b.toNat : Int)) w x.blk (x.base + o) dk) hH hg rfl hm (o' := .cells (cs.take o ++ (digVs u.toNat (k + 1) ++ cs.drop (o + (k + 1)))) more false fz) (by
        rw [hheap]
        have hlen : (cs.take o ++ (digVs u.toNat (k + 1) ++ cs.drop (o + (k + 1)))).length = cs.length := by
          simp only [List.length_append, List.length_take, List.length_drop, hdl]; omega
        refine ⟨_, e, fr, rfl, by simp [Go.Sort.putCells, g3], by rw [hlen]; exact g4, ?_, g6, by rw [hlen]; exact g7⟩
        have hcs : ((ccs.toList.drop x.base).take cs.length).length = cs.length := by simp; omega
        refine .of_get (by rw [hlen]; simp [Go.Sort.putCells]; omega) fun i v v' ev ev' => ?_
        have hi : i < cs.length := by
          rw [← hlen]
          exact (List.getElem?_eq_some_iff.1 ev).1
        rw [hlen, List.getElem?_take_of_lt hi, List.getElem?_drop, Array.getElem?_toList] at ev'
        simp only [Go.Sort.putCells, Array.getElem?_mapIdx] at ev'
        have hcc : x.base + i < ccs.size := by omega
        rw [Array.getElem?_eq_getElem hcc, Option.map_some] at ev'
        by_cases hin : o ≤ i ∧ i < o + (k + 1)
        · rw [if_pos ⟨by omega, by rw [hdk]; omega⟩] at ev'
          rw [List.getElem?_append_right (by rw [List.length_take]; omega), List.getElem?_append_left (by rw [hdl, List.length_take]; omega)] at ev
          have e3 : i - (cs.take o).length = i - o := by rw [List.length_take]; omega
          rw [e3, digVs, List.getElem?_map, List.getElem?_range (by omega), Option.map_some] at ev
          have e4 := hF.done (i - o) (Nat.zero_le _) (by omega)
          rw [show x.base + i - (x.base + o) = i - o by omega, e4] at ev'
          cases ev; cases ev'
          have hd10 : u.toNat / 10 ^ (k + 1 - 1 - (i - o)) % 10 < 10 := Nat.mod_lt _ (by omega)
          have e5 : (Lib.dg u.toNat (k + 1 - 1 - (i - o))).toNat = 48 + u.toNat / 10 ^ (k + 1 - 1 - (i - o)) % 10 := by
            show (48 + u.toNat / 10 ^ (k + 1 - 1 - (i - o)) % 10) % 256 = _
            omega
          rw [e5]
          exact .int _ _
        · rw [if_neg (by rw [hdk]; omega)] at ev'
          have ev0 : cs[i]? = some v := by
            by_cases hio : i < o
            · rwa [List.getElem?_append_left (by rw [List.length_take]; omega), List.getElem?_take_of_lt hio] at ev
            · rw [List.getElem?_append_right (by rw [List.length_take]; omega), List.getElem?_append_right (by rw [hdl, List.length_take]; omega), List.getElem?_drop] at ev
              rw [hdl, List.length_take] at ev
              rwa [show o + (k + 1) + (i - min o cs.length - (k + 1)) = i by omega] at ev
          refine g5.get' ev0 ?_
          rw [List.getElem?_take_of_lt hi, List.getElem?_drop, Array.getElem?_toList, Array.getElem?_eq_getElem hcc]
          exact ev')
        (by simp [Go.Sort.putRow, Go.Sort.mapBlock]) (fun c hc => by simp only [Go.Sort.putRow, Go.Sort.mapBlock, Array.getElem?_modify]; rw [if_neg (Ne.symm hc)]) rfl rfl rfl
      exact ⟨_, m, rfl, .tup _ _ rfl (by simp), HR.of_heap k1 rfl, k2.trans (Fr.of_heap rfl rfl rfl rfl)⟩
    · cases h2'
  · cases h
/-! ### math/bits.Len64, internal/strconv.small -/
def lenP (args : List Value) (S : St) : Option Value :=
  match args with
  | [.int .u64 x] => cond (decide (0 ≤ x) && decide (x ≤ 18446744073709551615)) (some (.int .i64 ((Lib.bitLen x.toNat : Nat) : Int))) none
  | _ => none
def smallP (args : List Value) (S : St) : Option Value :=
  match args with
  | [.int .i64 i] => cond (decide (0 ≤ i) && decide (i < 100)) (some (.string ⟨(Lib.decDigits i.toNat).toArray⟩)) none
  | _ => none
theorem len_ok {E : Env} {P : Program} {f : Nat} (hen : Enterable P f)
    (c : ∀ (x : Int) (w : World), 0 ≤ x → x ≤ 18446744073709551615 → Calls P f #[.int .u64 x] w fun e w' => e = .returned (.int .i64 ((Lib.bitLen x.toNat : Nat) : Int)) ∧ w' = w) :
    CallOk E P (fun g args S => if g = f then (lenP args S).map (·, S) else none) := by
  refine callOk_pure hen fun args S v h m w args' hH hv => ?_
  unfold lenP at h
  split at h
  · rename_i x
    obtain ⟨x', e1, hx⟩ := VRs.inv1 hv
    cases hx
    obtain rfl : args' = #[.int .u64 x] := Array.ext' e1
    obtain ⟨hb, h⟩ := cond_some h
    cases h
    simp only [Bool.and_eq_true, decide_eq_true_eq] at hb
    refine (c x w hb.1 hb.2).mono ?_
    rintro e w' ⟨rfl, rfl⟩
    exact ⟨_, rfl, .int _ _, Below.refl _ _⟩
  · cases h
theorem small_ok {E : Env} {P : Program} {f : Nat} (hen : Enterable P f)
    (c : ∀ (i : Nat) (w : World), i < 100 → Calls P f #[.int .i64 i] w fun e w' => e = .returned (.string ⟨(Lib.decDigits i).toArray⟩) ∧ w' = w) :
    CallOk E P (fun g args S => if g = f then (smallP args S).map (·, S) else none) := by
  refine callOk_pure hen fun args S v h m w args' hH hv => ?_
  unfold smallP at h
  split at h
  · rename_i i
    obtain ⟨x', e1, hx⟩ := VRs.inv1 hv
    cases hx
    obtain rfl : args' = #[.int .i64 i] := Array.ext' e1
    obtain ⟨hb, h⟩ := cond_some h
    cases h
    simp only [Bool.and_eq_true, decide_eq_true_eq] at hb
    have hc := c i.toNat w (by omega)
    rw [show ((i.toNat : Nat) : Int) = i by omega] at hc
    refine hc.mono ?_
    rintro e w' ⟨rfl, rfl⟩
    exact ⟨_, rfl, .string _, Below.refl _ _⟩
  · cases h

/-! ### All of them -/
/-- Their numbers: Join, Split, Atoi, ParseUint, formatBase10, Len64, small; the variables MaxLen, ErrSyntax, ErrRange. -/
structure PNums where
  fJ : Nat
  fS : Nat
  fA : Nat
  fP : Nat
  fF : Nat
  fL : Nat
  fD : Nat
  g1 : Nat
  gs : Nat
  gr : Nat
  tE : Nat
def withS (p : List Value → St → Option Value) (args : List Value) (S : St) : Option (Value × St) := (p args S).map (·, S)
def primsB (N : PNums) (f : Nat) : Option (List Value → St → Option (Value × St)) :=
  if f = N.fJ then some (withS joinP) else if f = N.fS then some (splitP N.g1) else if f = N.fA then some (withS (atoiP N.tE N.gs N.gr)) else if f = N.fP then some (withS (puP N.gs N.gr))
  else if f = N.fF then some fmtP else if f = N.fL then some (withS lenP) else if f = N.fD then some (withS smallP) else none
theorem primsB_all {E : Env} {P : Program} {N : PNums}
    (hJ : CallOk E P (fun g args S => if g = N.fJ then (joinP args S).map (·, S) else none))
    (hS : CallOk E P (fun g args S => if g = N.fS then splitP N.g1 args S else none))
    (hA : CallOk E P (fun g args S => if g = N.fA then (atoiP N.tE N.gs N.gr args S).map (·, S) else none))
    (hP : CallOk E P (fun g args S => if g = N.fP then (puP N.gs N.gr args S).map (·, S) else none))
    (hF : CallOk E P (fun g args S => if g = N.fF then fmtP args S else none))
    (hL : CallOk E P (fun g args S => if g = N.fL then (lenP args S).map (·, S) else none))
    (hD : CallOk E P (fun g args S => if g = N.fD then (smallP args S).map (·, S) else none)) : ∀ f p, primsB N f = some p → CallOk E P (fun g args S => if g = f then p args S else none) := by
  intro f p hp
  unfold primsB at hp
  split at hp
  · rename_i e; subst e; cases hp; exact hJ
  split at hp
  · rename_i e; subst e; cases hp; exact hS
  split at hp
  · rename_i e; subst e; cases hp; exact hA
  split at hp
  · rename_i e; subst e; cases hp; exact hP
  split at hp
  · rename_i e; subst e; cases hp; exact hF
  split at hp
  · rename_i e; subst e; cases hp; exact hL
  split at hp
  · rename_i e; subst e; cases hp; exact hD
  · cases hp
theorem withS_lw {p : List Value → St → Option Value} {args : List Value} {S S' : St} {v : Value} (h : withS p args S = some (v, S')) : Lw S S' := by
  unfold withS at h
  rw [Option.map_eq_some_iff] at h
  obtain ⟨u, _, h2⟩ := h
  cases h2
  exact Lw.refl _
theorem primsB_lw {N : PNums} : ∀ f p, primsB N f = some p → ∀ args S v S', p args S = some (v, S') → Lw S S' := by
  intro f p hp args S v S' h
  unfold primsB at hp
  split at hp
  · cases hp; exact withS_lw h
  split at hp
  · cases hp
    unfold splitP at h
    split at h
    · split at h
      · obtain ⟨_, h⟩ := cond_some h
        cases h
        exact Lw.alloc _ _
      · cases h
    · cases h
  split at hp
  · cases hp; exact withS_lw h
  split at hp
  · cases hp; exact withS_lw h
  split at hp
  · cases hp
    unfold fmtP at h
    split at h
    · rw [Option.bind_eq_some_iff] at h
      obtain ⟨vs, _, h⟩ := h
      obtain ⟨_, h⟩ := cond_some h
      rw [Option.map_eq_some_iff] at h
      obtain ⟨S2, h2, h3⟩ := h
      cases h3
      exact Lw.storeN h2
    · cases h
  split at hp
  · cases hp; exact withS_lw h
  split at hp
  · cases hp; exact withS_lw h
  · cases hp
end
end Go.Proofs.YtgdijpcopdgapaaDoor.D

/-
  D, part 36: slices in a block of their own, grown or as they were built; a slice's block as what a fact hangs on.
-/
namespace Go.Proofs.YtgdijpcopdgapaaDoor.D
noncomputable section
set_option linter.unusedVariables false
set_option linter.unusedSimpArgs false

/-- The block of a slice. -/
def slO (s : Sl) (c : Nat) : Prop := ∃ o, s.a = some ⟨c, o, none⟩
/-- A slice in a block of its own: grown, or just as long as it was built. -/
def Ow {α : Type} (f : α → List Value) (sz : Nat) (S : St) (s : Sl) (l : List α) : Prop :=
  ∃ b rest cap more, s = ⟨some ⟨b, 0, none⟩, l.length, cap⟩ ∧ At S b (.cells (l.flatMap f ++ rest) more false none) ∧ ((cap = inex ∧ more = some sz ∧ l.length * sz + rest.length < inex) ∨ (cap = l.length ∧ rest = [] ∧ cap < inex))
section
variable {α : Type} {f : α → List Value} {sz : Nat} {S S' : St} {s : Sl} {l : List α}
theorem Ow.len (h : Ow f sz S s l) : s.len = l.length := by
  obtain ⟨b, rest, cap, more, rfl, _⟩ := h; rfl
theorem Ow.of (hf : ∀ x, (f x).length = sz) (h : Ow f sz S s l) : SlOf f sz S s l := by
  obtain ⟨b, rest, cap, more, rfl, ha, _⟩ := h
  refine ⟨rfl, fun _ => ⟨b, 0, _, _, _, _, rfl, ha, ?_⟩⟩
  rw [List.drop_zero, List.take_append_of_le_length (by rw [flat_len hf]; exact Nat.le_refl _), List.take_of_length_le (by rw [flat_len hf]; exact Nat.le_refl _)]
theorem Ow.lt (h : Ow f sz S s l) {c : Nat} (hc : slO s c) : c < S.next := by
  obtain ⟨b, rest, cap, more, rfl, ha, _⟩ := h
  obtain ⟨o, e⟩ := hc
  cases e
  exact ha.lt
theorem Ow.frm : Frm (slO s) (fun S => Ow f sz S s l) := by
  intro F S S' m hF h
  obtain ⟨b, rest, cap, more, e, ha, h2⟩ := h
  exact ⟨b, rest, cap, more, e, m.at ha (hF b ⟨0, by rw [e]⟩), h2⟩
theorem Ow.ext (h : Ow f sz S s l) (e : Ext S S') : Ow f sz S' s l := Ow.frm _ _ _ e.kp (fun _ _ h => h) h
theorem Ow.grow {N : Nat} (h : GrX f sz N S s l) (hl : l ≠ []) : Ow f sz S s l := by
  rcases h with ⟨h, _⟩ | ⟨b, rest, _, h1, h2, h3⟩
  · exact (hl h).elim
  · exact ⟨b, rest, inex, some sz, h1, h2, .inl ⟨rfl, rfl, h3⟩⟩
theorem Ow.append {E : Env} (hf : ∀ x, (f x).length = sz) (hsz : 0 < sz) (h : Ow f sz S s l) {st xt e : Nat} {d : DInfo} {xd : TypeDesc} {z : Value} (hst : E.und st = some (.slice e)) (he : E.inf e = some d) (hxt : E.und xt = some xd) (hxd : (apK xd && tagOk E e sz) = true)
    (hds : d.size = sz) (hz : d.zero = some z) (hzl : (cellsOf z).length = sz) {x : Value} {vs : List α} (hn : lenOfD x = some vs.length) (hx : firstD S sz vs.length x = some (vs.flatMap f)) (hone : (vs.flatMap f).all St.one = true)
    (hb : (l.length + vs.length) * d.bytes ≤ 17592186044416) (hb2 : l.length + vs.length ≤ 17592186044416) (hvs : vs ≠ []) (hb3 : (l.length + vs.length) * sz < inex)
    {k : Sl → St → Prop} (hk : ∀ s' S', Ow f sz S' s' (l ++ vs) → Mod (slO s) S S' → (∀ c, slO s' c → slO s c ∨ S.next ≤ c) → k s' S') :
    evP tS (appendD E S st xt (.slice s.a s.len s.cap) x) k := by
  obtain ⟨b, rest, cap, more, rfl, hat, ⟨rfl, rfl, hlt⟩ | ⟨rfl, rfl, hlt⟩⟩ := h
  · refine GrX.append (N := 0) hf hsz (.inr ⟨b, rest, Nat.zero_le _, rfl, hat, hlt⟩) hst he hxt hxd hds hz hzl hn hx hone hb hb2 hvs hb3 (fun s' S' g m hs' => hk s' S' (Ow.grow g (by simp [hvs])) (m.mono fun c hc _ => ⟨0, hc.2⟩) fun c hc => ?_) (Nat.zero_le _)
    obtain ⟨o, e⟩ := hc
    rcases hs' with h | ⟨b', h, h'⟩
    · exact .inl ⟨o, by rw [← h]; exact e⟩
    · rw [h] at e; cases e; exact .inr h'
  · have hv0 : ¬ vs.length = 0 := fun hh => hvs (List.length_eq_zero_iff.1 hh)
    have tOk := tOk_of hxd
    have hbz : Nat.beq vs.length 0 = false := Bool.eq_false_iff.2 fun hh => hv0 (Nat.eq_of_beq_eq_true hh)
    have hfl : (vs.flatMap f).length = vs.length * sz := flat_len hf vs
    have g1 : Nat.beq (cellsOf z).length sz = true := by rw [hzl, Nat.beq_refl]
    have g2 : Nat.blt 0 sz = true := by simpa [Nat.blt] using Nat.ble_eq_true_of_le hsz
    have g3 : Nat.beq (vs.flatMap f).length (vs.length * sz) = true := by rw [hfl, Nat.beq_refl]
    have g4 : Nat.ble ((l.length + vs.length) * d.bytes) 17592186044416 = true := Nat.ble_eq_true_of_le hb
    have g5 : Nat.ble (l.length + vs.length) 17592186044416 = true := Nat.ble_eq_true_of_le hb2
    have g6 : Nat.beq l.length inex = false := Bool.eq_false_iff.2 fun hh => by have := Nat.eq_of_beq_eq_true hh; omega
    have g7 : Nat.ble (l.length + vs.length) l.length = false := Bool.eq_false_iff.2 fun hh => by have := Nat.le_of_ble_eq_true hh; omega
    have g8 : S.loadN b 0 (l.length * sz) = some (l.flatMap f) := by
      have hll : ((l.flatMap f ++ []).drop 0).take (l.length * sz) = l.flatMap f := by
        rw [List.append_nil, List.drop_zero, List.take_of_length_le (by rw [flat_len hf]; exact Nat.le_refl _)]
      simp only [St.loadN, hat.get, hll, flat_len hf, Nat.beq_refl, cond_true]
    refine ⟨⟨some ⟨S.next, 0, none⟩, l.length + vs.length, inex⟩, (S.alloc (.cells (l.flatMap f ++ vs.flatMap f) (some sz) false none)).2, ?_, hk _ _ ⟨S.next, [], inex, some sz, by simp, ?_, .inl ⟨rfl, rfl, by simpa using hb3⟩⟩ (alloc_ext.mono fun _ h _ => h.elim) fun c hc => ?_⟩
    · simp only [appendD, hst, he, hxt, tOk.1, tOk.2.1, tOk.2.2.1, tOk.2.2.2, Bool.true_or, Bool.true_and, cond_true, hz, Option.bind_some, hn, hds, hx, g1, g2, g3, g4, g5, Bool.and_true, hbz, cond_false, TT.enc, Ty.enc, Sc.enc, g6, g7, g8, Option.map_some]
    · rw [List.flatMap_append, List.append_nil]; exact alloc_at
    · obtain ⟨o, e⟩ := hc
      cases e
      exact .inr (Nat.le_refl _)
end
/-- A box as a slice of one. -/
theorem firstD_box {α : Type} {f : α → List Value} {sz : Nat} (hf : ∀ x, (f x).length = sz) (hsz : 0 < sz) {S : St} {b : Nat} {v : α} {more : Option Nat} {ro : Bool} {fz : Option (Nat × Nat)} (h : At S b (.cells (f v) more ro fz)) : firstD S sz [v].length (.slice (some ⟨b, 0, none⟩) 1 1) = some ([v].flatMap f) := by
  have e : (f v).length = sz := hf v
  have h0 : Nat.beq sz 0 = false := Bool.eq_false_iff.2 fun hh => by have := Nat.eq_of_beq_eq_true hh; omega
  have h1 : ((f v).drop 0).take sz = f v := by rw [List.drop_zero, List.take_of_length_le (by omega)]
  simp only [firstD, List.length_cons, List.length_nil, Nat.zero_add, Nat.one_mul, h0, cond_false, St.loadN, h.get, h1, e, Nat.beq_refl, cond_true, List.flatMap_cons, List.flatMap_nil, List.append_nil]
end
end Go.Proofs.YtgdijpcopdgapaaDoor.D

/-
  D, part 37: package variables that a row lists: what they hold, as D has it.
-/
namespace Go.Proofs.YtgdijpcopdgapaaDoor.D
noncomputable section
open Go.RowKit
set_option linter.unusedVariables false
set_option linter.unusedSimpArgs false

section
variable {P : Program} {W : World}
theorem laidVars_mem : ∀ {l : List (String × DataW Unit)} {ps : List MemPlace}, DataW.LaidVars P W l ps → ∀ {n : String} {d : DataW Unit}, (n, d) ∈ l →
    ∃ g t cs fuel p, P.globalNamed n = some g ∧ (P.globals[g]?).map (·.type) = some t ∧ W.var? P n = some cs ∧ DataW.trod (fun _ => ()) P W 0 (fun _ => true) false fuel t cs.toList = some (d, p)
  | [], _, _, _, _, h => by cases h
  | (n', d') :: r, ps, hL, n, d, h => by
    obtain ⟨g, t, cs, fuel, p, q, e1, e2, e3, e4, hr, _⟩ := hL
    rcases List.mem_cons.1 h with h | h
    · cases h
      exact ⟨g, t, cs, fuel, p, e1, e2, e3, e4⟩
    · exact laidVars_mem hr h
theorem laid_mem {l : List (String × DataW Unit)} (h : laidMetH P l W) {n : String} {d : DataW Unit} (hm : (n, d) ∈ l) (hd : d.handleName?.isNone = true) :
    ∃ g t cs fuel p, P.globalNamed n = some g ∧ (P.globals[g]?).map (·.type) = some t ∧ W.var? P n = some cs ∧ DataW.trod (fun _ => ()) P W 0 (fun _ => true) false fuel t cs.toList = some (d, p) := by
  obtain ⟨⟨ps, hL, _, _⟩, _⟩ := laidMetH_iff.1 h
  exact laidVars_mem hL (List.mem_filter.2 ⟨hm, hd⟩)
theorem var_heap {n : String} {g : Nat} {cs : Array Value} (hg : P.globalNamed n = some g) (h : W.var? P n = some cs) : ∃ e fr, W.heap[g]? = some (.cells cs e fr) := by
  unfold World.var? at h
  rw [hg, Option.bind_some] at h
  split at h
  · rename_i c e fr hc
    cases h
    exact ⟨e, fr, hc⟩
  · cases h
/-- A package variable, as D has it. -/
theorem var_at {E : Env} {n : String} {g : Nat} {cs : Array Value} (hg : P.globalNamed n = some g) (h : W.var? P n = some cs) : At (argS E W) g (.cells (cs.toList.map (nv (argN E W))) none true (some (0, cs.size))) := by
  obtain ⟨e, fr, hw⟩ := var_heap hg h
  refine ⟨by rw [argS_get, hw]; rfl, ?_⟩
  have := (Array.getElem?_eq_some_iff.1 hw).1
  show g < argN E W
  unfold argN
  omega
variable {H : Type} {enc : TypeId × Value → H} {base : Nat} {spare : Nat → Bool} {held : Bool}
theorem trod_str' {t : TypeId} (hu : P.underlying t = some .string) {fuel : Nat} {cs : List Value} {r : DataW H × List MemPlace} (h : DataW.trod enc P W base spare held fuel t cs = some r) : ∃ s : ByteArray, cs = [.string s] ∧ r.1 = .lit (.string s.data.toList) := by
  cases fuel with
  | zero => cases h
  | succ fuel =>
    unfold DataW.trod at h
    rw [hu] at h
    split at h <;> first | (cases (‹some TypeDesc.string = some _›); done) | (cases h; done) | skip
    split at h
    · cases h
      exact ⟨_, rfl, rfl⟩
    · cases h
theorem trod_iface' {t : TypeId} {ms : Array (String × TypeId)} (hu : P.underlying t = some (.interface ms)) {fuel : Nat} {cs : List Value} {r : DataW H × List MemPlace} (h : DataW.trod enc P W base spare held fuel t cs = some r) : cs = [.nilIface] ∨ ∃ u v, cs = [.iface u v] := by
  cases fuel with
  | zero => cases h
  | succ fuel =>
    unfold DataW.trod at h
    rw [hu] at h
    split at h <;> first | (cases (‹some (TypeDesc.interface ms) = some _›); done) | (cases h; done) | skip
    · exact .inl rfl
    · exact .inr ⟨_, _, rfl⟩
/-- An array of texts. -/
theorem trod_strs {t e : TypeId} {n : Nat} (ht : P.underlying t = some (.array n e)) (he : P.underlying e = some .string) (hce : P.cellsOf e = 1) (hct : P.cellsOf t = n) {fuel : Nat} {cs : List Value} {ls : List (List UInt8)} {p : List MemPlace}
    (h : DataW.trod enc P W base spare held fuel t cs = some (.agg (ls.map fun l => .lit (.string l)), p)) : cs = ls.map fun l => Value.string ⟨l.toArray⟩ := by
  cases fuel with
  | zero => simp [DataW.trod] at h
  | succ fuel =>
    simp only [DataW.trod, ht, hce, hct, Nat.mul_one] at h
    split at h
    · rename_i hl
      obtain ⟨xs, hm, hx⟩ := Option.map_eq_some_iff.1 h
      have hxs : xs.map (·.1) = ls.map fun l => (DataW.lit (.string l) : DataW H) := by
        have := congrArg Prod.fst hx
        simpa using this
      obtain ⟨hxl, hxi⟩ := mapM_range hm
      have hzl : ls.length = n := by
        have := congrArg List.length hxs
        simp at this
        omega
      apply List.ext_getElem?
      intro i
      by_cases hi : i < n
      · have hf := hxi i (by omega)
        obtain ⟨s, hc, hr⟩ := trod_str' he hf
        have h1 : cs[i]? = some (.string s) := by
          have := congrArg (·[0]?) hc
          simpa [List.getElem?_take, List.getElem?_drop] using this
        have h2 : (xs.map (·.1))[i]? = some (DataW.lit (.string s.data.toList) : DataW H) := by
          rw [List.getElem?_map, List.getElem?_eq_getElem (by omega), Option.map_some, hr]
        rw [hxs] at h2
        simp only [List.getElem?_map, Option.map_eq_some_iff, DataW.lit.injEq, Lit.string.injEq] at h2
        obtain ⟨z', hz', rfl⟩ := h2
        rw [h1, List.getElem?_map, hz']
        rfl
      · rw [List.getElem?_eq_none (by omega), List.getElem?_eq_none (by simp; omega)]
    · cases h
end
end
end Go.Proofs.YtgdijpcopdgapaaDoor.D

/-
  D, part 38: a strings.Builder that the code has made itself: copyCheck, String, by contracts.
-/
namespace Go.Proofs.YtgdijpcopdgapaaDoor.D
noncomputable section
open Go.RowKit
set_option linter.unusedVariables false
set_option linter.unusedSimpArgs false

/-- copyCheck; T: the builder's type. -/
def ccP (T : Nat) : List Value → St → Option (Value × St)
  | [.pointer (some ⟨b, 0, none⟩)], S =>
    match S.heap.get b with
    | some (.cells [p, v] (some s) false none) =>
      cond (Nat.beq s (T + 2 * TB))
        (match p with
         | .pointer none => some (.tuple #[], S.upd b (.cells [.pointer (some ⟨b, 0, none⟩), v] (some s) false none))
         | .pointer (some ⟨c, 0, none⟩) => cond (Nat.beq c b) (some (.tuple #[], S)) none
         | _ => none) none
    | _ => none
  | _, _ => none
def dec8 : Value → UInt8
  | .int _ n => UInt8.ofNat n.toNat
  | _ => 0
theorem dec8_enc (c : UInt8) : dec8 (enc8 c) = c := by simp [dec8, enc8]
/-- String; e: the type of bytes. What holds the bytes is not spoken of any more. -/
def strP (T e : Nat) : List Value → St → Option (Value × St)
  | [.pointer (some ⟨b, 0, none⟩)], S =>
    match S.heap.get b with
    | some (.cells [p, v] (some s) false none) =>
      cond (Nat.beq s (T + 2 * TB))
        (match v with
         | .slice none 0 0 => some (.string ⟨#[]⟩, S)
         | .slice (some ⟨c, 0, none⟩) (n + 1) _ =>
           match S.heap.get c with
           | some (.cells cs (some s') false none) =>
             cond (Nat.beq s' (e + TB) && Nat.blt e TB && Nat.ble (n + 1) cs.length && Nat.ble (n + 1) 17592186044416 && (cs.take (n + 1)).all isB)
               (some (.string ⟨((cs.take (n + 1)).map dec8).toArray⟩, S.upd c .dead)) none
           | _ => none
         | _ => none) none
    | _ => none
  | _, _ => none

theorem vr_nils {m : Mp} {v v' : Value} (h : VR m v v') (e : v = .slice none 0 0) : v' = .slice none 0 0 := by
  cases h <;> first | rfl | simp at e
/-- A builder's block. -/
theorem bld_at {E : Env} {m : Mp} {S : St} {w : World} (hH : HR E m S w) {b T : Nat} {x : BM} {p v : Value} (hg : S.heap.get b = some (.cells [p, v] (some (T + 2 * TB)) false none)) (hm : m b = some x) :
    ∃ p' v', x.base = 0 ∧ x.tot = 2 ∧ w.heap[x.blk]? = some (.cells #[p', v'] T (0, 0)) ∧ VR m p p' ∧ VR m v v' := by
  obtain ⟨ccs, e, fr, h1, h2, h3, h4, h5, h6⟩ := hH.obj b _ x hg rfl hm
  obtain ⟨_, hb1, _, ht1⟩ := h6 _ rfl
  have hb : x.base = 0 := hb1 (Nat.le_trans (by omega) (Nat.le_add_left (2 * TB) T))
  obtain ⟨he1, ht2⟩ := ht1 (Nat.le_add_left _ _)
  have ht : x.tot = 2 := ht2
  obtain rfl : e = T := Nat.add_right_cancel he1
  obtain rfl : fr = (0, 0) := h5
  clear hb1 ht1 ht2 he1 h6 hg
  rw [hb, List.drop_zero, List.take_of_length_le (by rw [Array.length_toList, h2, ht]; exact Nat.le_refl _)] at h4
  obtain ⟨p', v', e2, hp, hv⟩ := h4.inv2
  obtain rfl : ccs = #[p', v'] := Array.ext' e2
  exact ⟨p', v', hb, ht, h1, hp, hv⟩
set_option maxRecDepth 100000 in
theorem cc_ok {E : Env} {P : Program} {f T : Nat} (hen : Enterable P f)
    (c1 : ∀ (b : Nat) (w : World), w.cell? ⟨b, 0, none⟩ = some (.pointer none) → w.shape? b = some (T, 2) → w.frozen? ⟨b, 0, none⟩ = false →
      Calls P f #[.pointer (some ⟨b, 0, none⟩)] w fun e w' => e = .returned (.tuple #[]) ∧ w' = w.setCell ⟨b, 0, none⟩ (.pointer (some ⟨b, 0, none⟩)))
    (c2 : ∀ (b : Nat) (w : World), w.cell? ⟨b, 0, none⟩ = some (.pointer (some ⟨b, 0, none⟩)) → Calls P f #[.pointer (some ⟨b, 0, none⟩)] w fun e w' => e = .returned (.tuple #[]) ∧ w' = w) :
    CallOk E P (fun g args S => if g = f then ccP T args S else none) := by
  refine callOk_any hen fun args S v S' h m w args' hH hv => ?_
  unfold ccP at h
  split at h
  · rename_i b
    obtain ⟨x', e1, hx⟩ := VRs.inv1 hv
    cases hx with
    | ptr _ _ x hm =>
      obtain rfl : args' = #[_] := Array.ext' e1
      split at h
      · rename_i p v0 s hg
        obtain ⟨hs, h⟩ := cond_some h
        have hs := Nat.eq_of_beq_eq_true hs
        subst hs
        obtain ⟨p', v', hb, ht, hw, hp, hv0⟩ := bld_at hH hg hm
        obtain ⟨blk, base, tot, sz⟩ := x
        dsimp only at hb ht hw ⊢
        subst hb ht
        split at h
        · cases hp
          cases h
          have hc : w.cell? ⟨blk, 0, none⟩ = some (.pointer none) := by simp [World.cell?, hw]
          have hsh : w.shape? blk = some (T, 2) := by simp [World.shape?, hw]
          have hf : w.frozen? ⟨blk, 0, none⟩ = false := by simp [World.frozen?, hw]
          refine (c1 blk w hc hsh hf).mono ?_
          rintro e' w' ⟨rfl, rfl⟩
          have hh : (w.setCell ⟨blk, 0, none⟩ (.pointer (some ⟨blk, 0, none⟩))).heap[blk]? = some (.cells #[.pointer (some ⟨blk, 0, none⟩), v'] T (0, 0)) := by
            simp [World.setCell, Array.getElem?_modify, hw]
          obtain ⟨k1, k2⟩ := HR.upd hH (w' := w.setCell ⟨blk, 0, none⟩ (.pointer (some ⟨blk, 0, none⟩))) (o' := .cells [.pointer (some ⟨b, 0, none⟩), v0] (some (T + 2 * TB)) false none) hg rfl hm
            (by
              refine ⟨_, T, (0, 0), hh, rfl, Nat.le_refl _, ?_, rfl, by intro s hs; cases hs; exact ⟨(by
                obtain ⟨_, _, _, _, _, _, _, _, h6⟩ := hH.obj b _ _ hg rfl hm
                exact (h6 _ rfl).1), fun _ => rfl, fun _ hh => absurd hh (Nat.not_lt.2 (Nat.le_add_left _ _)), fun _ => ⟨rfl, rfl⟩⟩⟩
              exact .cons (.ptr b 0 ⟨blk, 0, 2, sz⟩ hm) (.cons hv0 .nil)) (by simp [World.setCell]) (fun c hcb => by simp only [World.setCell, Array.getElem?_modify]; rw [if_neg (Ne.symm hcb)]) rfl rfl rfl
          exact ⟨_, m, rfl, .tup _ _ rfl (fun i u u' hu => by simp at hu), k1, k2⟩
        · rename_i c
          obtain ⟨hcb, h'⟩ := cond_some h
          clear h
          have hcb := Nat.eq_of_beq_eq_true hcb
          subst hcb
          cases h'
          cases hp with
          | ptr _ _ y hy =>
            rw [hm] at hy
            cases hy
            have hc : w.cell? ⟨blk, 0, none⟩ = some (.pointer (some ⟨blk, 0, none⟩)) := by simp [World.cell?, hw]
            refine (c2 blk w hc).mono ?_
            rintro e' w' ⟨rfl, rfl⟩
            exact ⟨_, m, rfl, .tup _ _ rfl (fun i u u' hu => by simp at hu), hH, .refl _ _ _⟩
        · cases h
      · cases h
  · cases h
set_option maxRecDepth 100000 in
theorem str_ok {E : Env} {P : Program} {f T e : Nat} (hen : Enterable P f)
    (c1 : ∀ (b g cap : Nat) (p : Value) (l : List UInt8) (cur : Array Value) (w : World), w.heap[b]? = some (.cells #[p, .slice (some ⟨g, 0, none⟩) l.length cap] T (0, 0)) → w.heap[g]? = some (.cells cur e (0, 0)) → l ≠ [] → cap ≠ 0 → l.length ≤ cur.size →
      l.length ≤ 9223372036854775807 → (∀ j x, l[j]? = some x → w.cell? ⟨g, j, none⟩ = some (.int .u8 x.toNat)) →
      Calls P f #[.pointer (some ⟨b, 0, none⟩)] w fun e w' => e = .returned (.string ⟨l.toArray⟩) ∧ w' = w.drew.freeze ⟨g, 0, none⟩ l.length)
    (c2 : ∀ (b : Nat) (p : Value) (w : World), w.heap[b]? = some (.cells #[p, .slice none 0 0] T (0, 0)) → Calls P f #[.pointer (some ⟨b, 0, none⟩)] w fun e w' => e = .returned (.string ⟨#[]⟩) ∧ Below w.heap.size w w') :
    CallOk E P (fun g args S => if g = f then strP T e args S else none) := by
  refine callOk_any hen fun args S v S' h m w args' hH hv => ?_
  unfold strP at h
  split at h
  · rename_i b
    obtain ⟨x', e1, hx⟩ := VRs.inv1 hv
    cases hx with
    | ptr _ _ x hm =>
      obtain rfl : args' = #[_] := Array.ext' e1
      split at h
      · rename_i p v0 s hg
        obtain ⟨hs0, hk0⟩ := cond_some h
        clear h
        obtain rfl := Nat.eq_of_beq_eq_true hs0
        clear hs0
        obtain ⟨p', v', hb, ht, hw, hp, hv0⟩ := bld_at hH hg hm
        obtain ⟨blk, base, tot, sz⟩ := x
        dsimp only at hb ht hw ⊢
        subst hb ht
        split at hk0
        · obtain rfl := vr_nils hv0 rfl
          cases hk0
          refine (c2 blk p' w hw).mono ?_
          rintro e' w' ⟨rfl, hb⟩
          obtain ⟨k1, k2⟩ := hr_below hH hb
          exact ⟨_, m, rfl, .string _, k1, k2⟩
        · rename_i c n cap
          split at hk0
          · rename_i cs s' hc
            obtain ⟨hk, hk1⟩ := cond_some hk0
            clear hk0
            simp only [Bool.and_eq_true, Nat.ble_eq, List.all_eq_true] at hk
            obtain ⟨⟨⟨⟨hs', heb⟩, hn1⟩, hn2⟩, hall⟩ := hk
            cases hk1
            have hs' := Nat.eq_of_beq_eq_true hs'
            have heb := Nat.blt_eq.mp heb
            subst hs'
            obtain ⟨y, cap', hy, rfl, hcap⟩ := vr_slice hv0
            obtain ⟨ccs, ce, fr, g1, g2, g3, g4, g5, g6⟩ := hH.obj c _ y hc rfl hy
            obtain ⟨_, yb, ye, _⟩ := g6 _ rfl
            have yb1 : y.base = 0 := yb (Nat.le_add_left _ _)
            obtain rfl : ce = e := Nat.add_right_cancel (ye (Nat.le_add_left _ _) (by rw [Nat.two_mul]; exact Nat.add_lt_add_right heb _))
            obtain rfl : fr = (0, 0) := g5
            have yb := yb1
            clear yb1
            rw [yb] at hw g3 g4
            have hl : ((cs.take (n + 1)).map dec8).length = n + 1 := by simp; omega
            have hc1 := c1 blk y.blk cap' p' ((cs.take (n + 1)).map dec8) ccs w (by rw [hl]; exact hw) g1 (by intro h0; rw [h0] at hl; cases hl) (by omega) (by rw [hl]; omega) (by rw [hl]; exact Nat.le_trans hn2 (by decide)) (by
              intro j z hz
              have hj : j < n + 1 := by rw [← hl]; exact (List.getElem?_eq_some_iff.1 hz).1
              have hjc : j < cs.length := by omega
              rw [List.getElem?_map, List.getElem?_take_of_lt hj, List.getElem?_eq_getElem hjc, Option.map_some] at hz
              obtain ⟨d, hd⟩ := isB_enc (hall cs[j] (List.mem_of_getElem? (i := j) (by rw [List.getElem?_take_of_lt hj, List.getElem?_eq_getElem hjc])))
              rw [hd, dec8_enc] at hz
              cases hz
              obtain ⟨u, h7, h8⟩ := g4.get (i := j) (v := cs[j]) (List.getElem?_eq_getElem hjc)
              rw [hd] at h8
              cases h8
              rw [List.getElem?_take_of_lt hjc, List.drop_zero, Array.getElem?_toList] at h7
              simp [World.cell?, g1, h7])
            refine hc1.mono ?_
            rintro e' w' ⟨rfl, rfl⟩
            rw [hl]
            have hd := hH.drew
            have fd : Fr m S w m S w.drew := Fr.drew
            generalize w.drew = wd at hd fd ⊢
            obtain ⟨k1, k2⟩ := HR.upd hd (w' := wd.freeze ⟨y.blk, 0, none⟩ (n + 1)) (o' := .dead) hc rfl hy trivial (by simp [World.freeze])
              (fun c hcb => by simp only [World.freeze, Nat.add_one_ne_zero, if_false, Array.getElem?_modify]; rw [if_neg (Ne.symm hcb)]) (by simp [World.freeze]) (by simp [World.freeze]) (by simp [World.freeze])
            exact ⟨_, m, rfl, .string _, k1, fd.trans k2⟩
          · cases hk0
        · cases hk0
      · cases h
  · cases h
/-- stringslite.IndexByte. -/
def idxP (args : List Value) (S : St) : Option Value :=
  match args with
  | [.string s, .int .u8 c] => some (.int .i64 (Lib.indexByte s.data.toList c.toNat.toUInt8))
  | _ => none
theorem idx_ok {E : Env} {P : Program} {f : Nat} (hen : Enterable P f)
    (c : ∀ (s : ByteArray) (c : Int) (w : World), Calls P f #[.string s, .int .u8 c] w fun e w' => e = .returned (.int .i64 (Lib.indexByte s.data.toList c.toNat.toUInt8)) ∧ w' = w) :
    CallOk E P (fun g args S => if g = f then (idxP args S).map (·, S) else none) := by
  refine callOk_pure hen fun args S v h m w args' hH hv => ?_
  unfold idxP at h
  split at h
  · rename_i s x
    obtain ⟨x', y', e1, hx, hy⟩ := VRs.inv2 hv
    cases hx; cases hy
    obtain rfl : args' = #[.string s, .int .u8 x] := Array.ext' e1
    cases h
    refine (c s x w).mono ?_
    rintro e w' ⟨rfl, rfl⟩
    exact ⟨_, rfl, .int _ _, Below.refl _ _⟩
  · cases h
/-- strings.Cut; g1: the variable MaxLen. -/
def cutP (g1 : Nat) (args : List Value) (S : St) : Option Value :=
  match args with
  | [.string s, .string sep] =>
    match S.load1 g1 0 with
    | some (.int .i64 _) =>
      cond (Nat.blt s.size 4294967281) (some (.tuple #[.string ⟨(Lib.cut s.data.toList sep.data.toList).1.toArray⟩, .string ⟨(Lib.cut s.data.toList sep.data.toList).2.1.toArray⟩, .bool (Lib.cut s.data.toList sep.data.toList).2.2])) none
    | _ => none
  | _ => none
theorem vr_three {m : Mp} {a b c a' b' c' : Value} (h1 : VR m a a') (h2 : VR m b b') (h3 : VR m c c') : VR m (.tuple #[a, b, c]) (.tuple #[a', b', c']) := by
  refine .tup _ _ rfl fun i v v' e e' => ?_
  match i with
  | 0 => simp at e e'; subst e e'; exact h1
  | 1 => simp at e e'; subst e e'; exact h2
  | 2 => simp at e e'; subst e e'; exact h3
  | n + 3 => simp at e
theorem cut_ok {E : Env} {P : Program} {f g1 : Nat} (hg1 : g1 < E.globs) (hen : Enterable P f)
    (c : ∀ (s sep : ByteArray) (m : Int) (w : World), s.size < 4294967281 → w.cell? ⟨g1, 0, none⟩ = some (.int .i64 m) →
      Calls P f #[.string s, .string sep] w fun e w' => e = .returned (.tuple #[.string ⟨(Lib.cut s.data.toList sep.data.toList).1.toArray⟩, .string ⟨(Lib.cut s.data.toList sep.data.toList).2.1.toArray⟩, .bool (Lib.cut s.data.toList sep.data.toList).2.2]) ∧ Below w.heap.size w w') :
    CallOk E P (fun g args S => if g = f then (cutP g1 args S).map (·, S) else none) := by
  refine callOk_pure hen fun args S v h m w args' hH hv => ?_
  unfold cutP at h
  split at h
  · rename_i s sep
    obtain ⟨x', y', e1, hx, hy⟩ := VRs.inv2 hv
    cases hx; cases hy
    obtain rfl : args' = #[.string s, .string sep] := Array.ext' e1
    split at h
    · rename_i i hi
      obtain ⟨hb, h⟩ := cond_some h
      cases h
      have hb := Nat.blt_eq.mp hb
      obtain ⟨x, hm, hxb, hx0⟩ := hH.glob g1 hg1
      obtain ⟨v', h4, h5⟩ := hH.cell_at hm hi
      cases h5
      rw [hxb, hx0] at h4
      refine (c s sep i w hb h4).mono ?_
      rintro e w' ⟨rfl, h6⟩
      exact ⟨_, rfl, vr_three (.string _) (.string _) (.bool _), h6⟩
    · cases h
  · cases h
/-- Their numbers: copyCheck, String, stringslite.IndexByte, Cut; the variable MaxLen; the types: Builder, byte. -/
structure BNums where
  fC : Nat
  fT : Nat
  fI : Nat
  fU : Nat
  g1 : Nat
  T : Nat
  e : Nat
def primsC (N : PNums) (B : BNums) (f : Nat) : Option (List Value → St → Option (Value × St)) :=
  if f = B.fC then some (ccP B.T) else if f = B.fT then some (strP B.T B.e) else if f = B.fI then some (withS idxP) else if f = B.fU then some (withS (cutP B.g1)) else primsB N f
theorem primsC_ok {E : Env} {P : Program} {N : PNums} {B : BNums} (hE : E.prim = primsC N B)
    (hC : CallOk E P (fun g args S => if g = B.fC then ccP B.T args S else none))
    (hT : CallOk E P (fun g args S => if g = B.fT then strP B.T B.e args S else none))
    (hI : CallOk E P (fun g args S => if g = B.fI then (idxP args S).map (·, S) else none))
    (hU : CallOk E P (fun g args S => if g = B.fU then (cutP B.g1 args S).map (·, S) else none))
    (hB : ∀ f p, primsB N f = some p → CallOk E P (fun g args S => if g = f then p args S else none)) : PrimOk E P := by
  intro f p hp
  rw [hE] at hp
  unfold primsC at hp
  split at hp
  · rename_i e; subst e; cases hp; exact hC
  split at hp
  · rename_i e; subst e; cases hp; exact hT
  split at hp
  · rename_i e; subst e; cases hp; exact hI
  split at hp
  · rename_i e; subst e; cases hp; exact hU
  · exact hB f p hp
theorem primsC_lw {E : Env} {N : PNums} {B : BNums} (hE : E.prim = primsC N B) : PrimLw E := by
  intro f p hp args S v S' h
  rw [hE] at hp
  unfold primsC at hp
  split at hp
  · cases hp
    unfold ccP at h
    split at h
    · split at h
      · obtain ⟨_, h2⟩ := cond_some h
        split at h2
        · cases h2; exact Lw.upd _ _ _
        · obtain ⟨_, h3⟩ := cond_some h2
          cases h3; exact Lw.refl _
        · cases h2
      · cases h
    · cases h
  split at hp
  · cases hp
    unfold strP at h
    split at h
    · split at h
      · obtain ⟨_, h2⟩ := cond_some h
        split at h2
        · cases h2; exact Lw.refl _
        · split at h2
          · obtain ⟨_, h3⟩ := cond_some h2
            cases h3; exact Lw.upd _ _ _
          · cases h2
        · cases h2
      · cases h
    · cases h
  split at hp
  · cases hp; exact withS_lw h
  split at hp
  · cases hp; exact withS_lw h
  · exact primsB_lw f p hp args S v S' h
end
end Go.Proofs.YtgdijpcopdgapaaDoor.D

/-
  D, part 40: sync/atomic's Uint64: Add of one, and Load, as D's primitives.
-/
namespace Go.Proofs.YtgdijpcopdgapaaDoor.D
noncomputable section
open Go.RowKit
set_option linter.unusedVariables false
set_option linter.unusedSimpArgs false

/-- Add(1), where nothing overflows. -/
def add1P (args : List Value) (S : St) : Option (Value × St) :=
  match args with
  | [.pointer (some ⟨b, o, none⟩), .int .u64 1] =>
    (S.load1 b o).bind fun v =>
      match v with
      | .int .u64 x => cond (decide (0 ≤ x) && decide (x < 18446744073709551615)) ((S.storeN b o [.int .u64 (x + 1)]).map fun S' => (.int .u64 (x + 1), S')) none
      | _ => none
  | _ => none
def ldP (args : List Value) (S : St) : Option Value :=
  match args with
  | [.pointer (some ⟨b, o, none⟩)] =>
    (S.load1 b o).bind fun v =>
      match v with
      | .int .u64 x => some (.int .u64 x)
      | _ => none
  | _ => none
theorem add1_ok {E : Env} {P : Program} {f : Nat} (hen : Enterable P f)
    (c : ∀ (b o : Nat) (x : Int) (w : World), w.cell? ⟨b, o, none⟩ = some (.int .u64 x) → w.frozen? ⟨b, o, none⟩ = false → 0 ≤ x → x < 18446744073709551615 →
      Calls P f #[.pointer (some ⟨b, o, none⟩), .int .u64 1] w fun e w' => e = .returned (.int .u64 (x + 1)) ∧ w' = w.setCell ⟨b, o, none⟩ (.int .u64 (x + 1))) :
    CallOk E P (fun g args S => if g = f then add1P args S else none) := by
  refine callOk_any hen fun args S v S' h m w args' hH hv => ?_
  unfold add1P at h
  split at h
  · rename_i b o
    obtain ⟨x', y', e1, hx, hy⟩ := VRs.inv2 hv
    cases hy
    cases hx with
    | ptr _ _ x hm =>
      obtain rfl : args' = #[_, _] := Array.ext' e1
      rw [Option.bind_eq_some_iff] at h
      obtain ⟨u, h1, h⟩ := h
      split at h
      · rename_i n
        obtain ⟨hb, h⟩ := cond_some h
        rw [Option.map_eq_some_iff] at h
        obtain ⟨S2, h2, h3⟩ := h
        cases h3
        simp only [Bool.and_eq_true, decide_eq_true_eq] at hb
        obtain ⟨u', hc, hu⟩ := hH.cell_at hm h1
        cases hu
        obtain ⟨y, w', hy, hr, k1, k2⟩ := storeN_run (P := P) hH ⟨x, hm⟩ h2 (VRs.cons (.int .u64 (n + 1)) .nil)
        rw [hm] at hy
        cases hy
        have hone : (Value.int .u64 (n + 1)).oneCell' = true := rfl
        have ha : (Addr.add ⟨x.blk, x.base + o, none⟩ 0) = ⟨x.blk, x.base + o, none⟩ := rfl
        have hf : w.frozen? ⟨x.blk, x.base + o, none⟩ = false := by
          cases hfz : w.frozen? ⟨x.blk, x.base + o, none⟩ with
          | false => rfl
          | true =>
            simp only [storeCells, ha, Sem.run_bind, run_store P w _ _ _ hone, hc, hfz] at hr
            simp [Result.andThen] at hr
        have hw : w' = w.setCell ⟨x.blk, x.base + o, none⟩ (.int .u64 (n + 1)) := by
          simp only [storeCells, ha, Sem.run_bind, run_store P w _ _ _ hone, hc, hf] at hr
          simp [Result.andThen] at hr
          exact hr.symm
        refine (c x.blk (x.base + o) n w hc hf hb.1 hb.2).mono ?_
        rintro e w2 ⟨rfl, rfl⟩
        rw [← hw]
        exact ⟨_, m, rfl, .int _ _, k1, k2⟩
      · cases h
  · cases h
theorem ld_ok {E : Env} {P : Program} {f : Nat} (hen : Enterable P f)
    (c : ∀ (b o : Nat) (x : Int) (w : World), w.cell? ⟨b, o, none⟩ = some (.int .u64 x) → Calls P f #[.pointer (some ⟨b, o, none⟩)] w fun e w' => e = .returned (.int .u64 x) ∧ w' = w) :
    CallOk E P (fun g args S => if g = f then (ldP args S).map (·, S) else none) := by
  refine callOk_pure hen fun args S v h m w args' hH hv => ?_
  unfold ldP at h
  split at h
  · rename_i b o
    obtain ⟨x', e1, hx⟩ := VRs.inv1 hv
    cases hx with
    | ptr _ _ x hm =>
      obtain rfl : args' = #[_] := Array.ext' e1
      rw [Option.bind_eq_some_iff] at h
      obtain ⟨u, h1, h⟩ := h
      split at h
      · rename_i n
        cases h
        obtain ⟨u', hc, hu⟩ := hH.cell_at hm h1
        cases hu
        refine (c x.blk (x.base + o) n w hc).mono ?_
        rintro e w2 ⟨rfl, rfl⟩
        exact ⟨_, rfl, .int _ _, Below.refl _ _⟩
      · cases h
  · cases h
theorem add1_lw {args : List Value} {S S' : St} {v : Value} (h : add1P args S = some (v, S')) : Lw S S' := by
  unfold add1P at h
  split at h
  · rw [Option.bind_eq_some_iff] at h
    obtain ⟨u, h1, h⟩ := h
    split at h
    · obtain ⟨hb, h⟩ := cond_some h
      rw [Option.map_eq_some_iff] at h
      obtain ⟨S2, h2, h3⟩ := h
      cases h3
      exact Lw.storeN h2
    · cases h
  · cases h
structure TNums where
  fA : Nat
  fL : Nat
  fF : Nat
  fD : Nat
  fN : Nat
def primsT (N : TNums) (f : Nat) : Option (List Value → St → Option (Value × St)) :=
  if f = N.fA then some add1P else if f = N.fL then some (withS ldP) else if f = N.fF then some fmtP else if f = N.fD then some (withS smallP) else if f = N.fN then some (withS lenP) else none
theorem primsT_ok {E : Env} {P : Program} {N : TNums} (hE : E.prim = primsT N)
    (hA : CallOk E P (fun g args S => if g = N.fA then add1P args S else none))
    (hL : CallOk E P (fun g args S => if g = N.fL then (ldP args S).map (·, S) else none))
    (hF : CallOk E P (fun g args S => if g = N.fF then fmtP args S else none))
    (hD : CallOk E P (fun g args S => if g = N.fD then (smallP args S).map (·, S) else none))
    (hN : CallOk E P (fun g args S => if g = N.fN then (lenP args S).map (·, S) else none)) : PrimOk E P := by
  intro f p hp
  rw [hE] at hp
  unfold primsT at hp
  split at hp
  · rename_i e; subst e; cases hp; exact hA
  split at hp
  · rename_i e; subst e; cases hp; exact hL
  split at hp
  · rename_i e; subst e; cases hp; exact hF
  split at hp
  · rename_i e; subst e; cases hp; exact hD
  split at hp
  · rename_i e; subst e; cases hp; exact hN
  · cases hp
theorem primsT_lw {E : Env} {N : TNums} (hE : E.prim = primsT N) : PrimLw E := by
  intro f p hp args S v S' h
  rw [hE] at hp
  unfold primsT at hp
  split at hp
  · cases hp; exact add1_lw h
  split at hp
  · cases hp; exact withS_lw h
  split at hp
  · cases hp
    unfold fmtP at h
    split at h
    · rw [Option.bind_eq_some_iff] at h
      obtain ⟨vs, h1, h⟩ := h
      obtain ⟨hb, h⟩ := cond_some h
      rw [Option.map_eq_some_iff] at h
      obtain ⟨S2, h2, h3⟩ := h
      cases h3
      exact Lw.storeN h2
    · cases h
  split at hp
  · cases hp; exact withS_lw h
  split at hp
  · cases hp; exact withS_lw h
  · cases hp
end
end Go.Proofs.YtgdijpcopdgapaaDoor.D
