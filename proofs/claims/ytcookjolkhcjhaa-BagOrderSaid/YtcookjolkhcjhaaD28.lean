/-
  D, part 28: a law's arguments: memory as it lies, as blocks that are never written; what was read of them, as lists.
-/
import Derived.Test.YtcookjolkhcjhaaD27
namespace Go.Proofs.Ytcookjolkhcjhaa.D
noncomputable section
open Go.RowKit
set_option linter.unusedVariables false
set_option linter.unusedSimpArgs false

def junkV : Value := .complex .f32 0 0
def okA (n : Nat) (a : Addr) : Bool := a.spot.isNone && Nat.blt a.block n
/-- A value of the world's, as D has it. -/
def nv (n : Nat) : Value → Value
  | .bool b => .bool b
  | .int k i => .int k i
  | .string s => .string s
  | .pointer none => .pointer none
  | .pointer (some a) => cond (okA n a) (.pointer (some a)) junkV
  | .slice none l c => cond (Nat.beq l 0 && Nat.beq c 0) (.slice none 0 0) junkV
  | .slice (some a) l c => cond (Nat.beq l 0 && Nat.beq c 0) (.slice (some ⟨0, 0, none⟩) 0 0) (cond (okA n a && (Nat.ble l c && Nat.blt c inex)) (.slice (some a) l c) junkV)
  | .map none => .map none
  | .nilFunc => .nilFunc
  | .nilIface => .nilIface
  | .agg a => .agg (a.map (nv n))
  | .tuple a => .tuple (a.map (nv n))
  | _ => junkV
termination_by v => SizeOf.sizeOf v

section
variable {m : Mp} {n : Nat} (hm : ∀ b, b < n → ∃ x, m b = some x ∧ x.blk = b ∧ x.base = 0)
include hm
theorem okA_ptr {a : Addr} (h : okA n a = true) : ∃ x : BM, m a.block = some x ∧ a = ⟨x.blk, x.base + a.off, none⟩ ∧ a = ⟨a.block, a.off, none⟩ := by
  simp only [okA, Bool.and_eq_true, Option.isNone_iff_eq_none, Nat.blt_eq] at h
  obtain ⟨x, h1, h2, h3⟩ := hm a.block h.2
  refine ⟨x, h1, ?_, ?_⟩ <;> (obtain ⟨b, o, s⟩ := a; simp at h ⊢; simp [h.1, h2, h3])
theorem nv_vr : ∀ (v : Value), VR m (nv n v) v
  | .bool b => by unfold nv; exact .bool b
  | .int k i => by unfold nv; exact .int k i
  | .string s => by unfold nv; exact .string s
  | .pointer none => by unfold nv; exact .nilp
  | .pointer (some a) => by
    unfold nv
    cases h : okA n a with
    | false => exact .junk _ (by simp) (by simp) (by simp)
    | true =>
      obtain ⟨x, h1, h2, h3⟩ := okA_ptr hm h
      have := VR.ptr a.block a.off x h1
      rw [← h2, ← h3] at this
      exact this
  | .slice none l c => by
    unfold nv
    cases h : (Nat.beq l 0 && Nat.beq c 0) with
    | false => exact .junk _ (by simp) (by simp) (by simp)
    | true =>
      rw [Bool.and_eq_true] at h
      rw [Nat.eq_of_beq_eq_true h.1, Nat.eq_of_beq_eq_true h.2]
      exact .nils
  | .slice (some a) l c => by
    unfold nv
    cases h : (Nat.beq l 0 && Nat.beq c 0) with
    | true =>
      rw [Bool.and_eq_true] at h
      rw [Nat.eq_of_beq_eq_true h.1, Nat.eq_of_beq_eq_true h.2]
      exact .slz 0 0 a
    | false =>
      cases h2 : (okA n a && (Nat.ble l c && Nat.blt c inex)) with
      | false => exact .junk _ (by simp) (by simp) (by simp)
      | true =>
        simp only [Bool.and_eq_true] at h2
        obtain ⟨x, h3, h4, h5⟩ := okA_ptr hm h2.1
        have hc : c < inex := Nat.blt_eq.mp h2.2.2
        have := VR.sl a.block a.off l c x h3 (Nat.ne_of_lt hc) (Nat.le_of_ble_eq_true h2.2.1)
        rw [← h4, ← h5] at this
        exact this
  | .map none => by unfold nv; exact .nilm
  | .map (some r) => by unfold nv; exact .junk _ (by simp) (by simp) (by simp)
  | .nilFunc => by unfold nv; exact .nilf
  | .nilIface => by unfold nv; exact .nili
  | .agg a => by
    unfold nv
    refine .agg _ _ (by simp) fun i v v' h1 h2 => ?_
    rw [Array.getElem?_map, h2] at h1
    cases h1
    have := Array.sizeOf_lt_of_mem (Array.mem_of_getElem? h2)
    exact nv_vr v'
  | .tuple a => by
    unfold nv
    refine .tup _ _ (by simp) fun i v v' h1 h2 => ?_
    rw [Array.getElem?_map, h2] at h1
    cases h1
    have := Array.sizeOf_lt_of_mem (Array.mem_of_getElem? h2)
    exact nv_vr v'
  | .float k b => by unfold nv; exact .junk _ (by simp) (by simp) (by simp)
  | .complex k r i => by unfold nv; exact .junk _ (by simp) (by simp) (by simp)
  | .chan r => by unfold nv; exact .junk _ (by simp) (by simp) (by simp)
  | .func f a b => by unfold nv; exact .junk _ (by simp) (by simp) (by simp)
  | .iface t v => by unfold nv; exact .junk _ (by simp) (by simp) (by simp)
termination_by v => SizeOf.sizeOf v
theorem nv_vrs : ∀ (l : List Value), VRs m (l.map (nv n)) l
  | [] => .nil
  | v :: l => .cons (nv_vr hm v) (nv_vrs l)
end

/-! ### Memory as it lies -/
def argO (n : Nat) : Obj → DObj
  | .cells c _ _ => .cells (c.toList.map (nv n)) none true (some (0, c.size))
  | _ => .dead
def argN (E : Env) (W : World) : Nat := max W.heap.size E.globs
def argS (E : Env) (W : World) : St := ⟨PM.ofList (W.heap.toList.map (argO (argN E W))) 0 .leaf, argN E W, argN E W⟩
def argM (E : Env) (W : World) : Mp := fun b => if b < argN E W then some ⟨b, 0, (match W.heap[b]? with | some (.cells c _ _) => c.size | _ => 0), 0⟩ else none
theorem argM_ok (E : Env) (W : World) (b : Nat) (h : b < argN E W) : ∃ x, argM E W b = some x ∧ x.blk = b ∧ x.base = 0 := ⟨_, by unfold argM; rw [if_pos h], rfl, rfl⟩
theorem argS_get (E : Env) (W : World) (b : Nat) : (argS E W).heap.get b = (W.heap[b]?).map (argO (argN E W)) := by
  simp only [argS, PM.get_ofList, Nat.zero_le, true_and, Nat.zero_add, List.length_map, Array.length_toList, Nat.sub_zero, List.getElem?_map, Array.getElem?_toList, PM.get_leaf]
  split
  · rfl
  · rename_i h
    rw [Array.getElem?_eq_none (by omega)]; rfl
theorem argO_wr {n : Nat} {o : Obj} : (argO n o).wr = false := by unfold argO; split <;> rfl
theorem argHR (E : Env) (W : World) : HR E (argM E W) (argS E W) W where
  dom := by
    intro b x h
    unfold argM at h
    split at h
    · assumption
    · cases h
  glob := by
    intro g hg
    obtain ⟨x, h1, h2, h3⟩ := argM_ok E W g (by unfold argN; omega)
    exact ⟨x, h1, h2, h3⟩
  obj := by
    intro b o h hl
    rw [argS_get] at h
    cases hw : W.heap[b]? with
    | none => rw [hw] at h; cases h
    | some ob =>
      rw [hw] at h
      cases h
      have hb : b < W.heap.size := (Array.getElem?_eq_some_iff.1 hw).1
      have hbn : b < argN E W := by unfold argN; omega
      refine ⟨_, by unfold argM; rw [if_pos hbn], ?_⟩
      cases ob with
      | cells c e fr =>
        refine ⟨c, e, fr, hw, by rw [hw], ?_, ?_, ?_, by simp⟩
        · rw [hw]; simp
        · simp only [argO, List.length_map, List.drop_zero]
          rw [List.take_of_length_le (by simp)]
          exact nv_vrs (argM_ok E W) _
        · intro i _ _ _ hi
          rw [hw] at hi
          have hi : i < c.size := hi
          constructor
          · omega
          · show i - 0 < c.size
            omega
      | _ => simp [argO, DObj.live] at hl
  inj := by
    intro b b' o o' x x' h h' _ _ _ hw
    rw [argS_get] at h h'
    rw [Option.map_eq_some_iff] at h h'
    obtain ⟨_, _, rfl⟩ := h
    obtain ⟨_, _, rfl⟩ := h'
    simp [argO_wr] at hw
theorem arg_noOwn (E : Env) (W : World) (c : Nat) : ¬ Own (argM E W) (argS E W) c := by
  rintro ⟨b, o, x, h, hw, _⟩
  rw [argS_get, Option.map_eq_some_iff] at h
  obtain ⟨_, _, rfl⟩ := h
  rw [argO_wr] at hw; cases hw
/-- A law of arguments: D's condition holds of them. -/
theorem calls_args {E : Env} {P : Program} (hE : E.Ok P) (hm : P.follows .mixedOrders = true) (hprim : PrimOk E P) (hplw : PrimLw E) {f : Nat} {args : Array Value} {W : World}
    (h : WC E f (args.toList.map (nv (argN E W))) (argS E W) fun v _ => v = .bool true) : Calls P f args W fun e w' => e = .returned (.bool true) ∧ Below W.heap.size W w' := by
  obtain ⟨k, v, S', h1, rfl⟩ := h
  exact calls_true hE hm hprim hplw h1 (argHR E W) (nv_vrs (argM_ok E W) _) fun c _ => arg_noOwn E W c

/-! ### What was read, as lists -/
theorem mapM_range {α : Type} {f : Nat → Option α} : ∀ {n : Nat} {r : List α}, (List.range n).mapM f = some r → r.length = n ∧ ∀ i (h : i < r.length), f i = some r[i] := by
  have key : ∀ (l : List Nat) (r : List α), l.mapM f = some r → r.length = l.length ∧ ∀ i (h : i < r.length) (h' : i < l.length), f l[i] = some r[i] := by
    intro l
    induction l with
    | nil => intro r h; simp at h; subst h; simp
    | cons x l ih =>
      intro r h
      rw [List.mapM_cons] at h
      cases hx : f x with
      | none => rw [hx] at h; cases h
      | some y =>
        rw [hx] at h
        cases hl : l.mapM f with
        | none => rw [hl] at h; cases h
        | some ys =>
          rw [hl] at h
          cases h
          obtain ⟨h1, h2⟩ := ih ys hl
          refine ⟨by simp [h1], fun i h h' => ?_⟩
          cases i with
          | zero => simpa using hx
          | succ i => simpa using h2 i (by simpa using h) (by simpa using h')
  intro n r h
  obtain ⟨h1, h2⟩ := key _ _ h
  refine ⟨by simpa using h1, fun i hi => ?_⟩
  have := h2 i hi (by rw [← h1]; exact hi)
  simpa using this
theorem cell_some {W : World} {a : Addr} {v : Value} (h : W.cell? a = some v) : ∃ c e fr, W.heap[a.block]? = some (.cells c e fr) ∧ a.spot = none ∧ c[a.off]? = some v := by
  unfold World.cell? at h
  split at h
  · rename_i c e fr hc
    split at h
    · cases h
    · rename_i hs
      exact ⟨c, e, fr, hc, by simpa using hs, h⟩
  · cases h
theorem add_off {a : Addr} (h : a.spot = none) (n : Nat) : a.add n = ⟨a.block, a.off + n, none⟩ := by
  unfold Addr.add
  obtain ⟨b, o, s⟩ := a
  simp at h
  subst h
  split
  · rename_i hn; subst hn; rfl
  · rfl
/-- Cells that are read, as D has them. -/
theorem cells_at {E : Env} {W : World} {base : Nat} {a : Addr} {n : Nat} {cs : List Value} (h : W.cells? base a n = some cs) (hn : 0 < n) :
    a.spot = none ∧ ∃ c e fr, W.heap[a.block]? = some (.cells c e fr) ∧ At (argS E W) a.block (.cells (c.toList.map (nv (argN E W))) none true (some (0, c.size))) ∧
      ((c.toList.map (nv (argN E W))).drop a.off).take n = cs.map (nv (argN E W)) ∧ cs.length = n := by
  unfold World.cells? at h
  split at h
  · obtain ⟨h1, h2⟩ := mapM_range h
    have h0 := h2 0 (by omega)
    obtain ⟨c, e, fr, hc, hs, _⟩ := cell_some h0
    have hs0 : a.spot = none := by simpa [Addr.add] using hs
    rw [add_off hs0] at hc
    have hc : W.heap[a.block]? = some (.cells c e fr) := hc
    refine ⟨hs0, c, e, fr, hc, ⟨?_, ?_⟩, ?_, h1⟩
    · rw [argS_get, hc]; rfl
    · have := (Array.getElem?_eq_some_iff.1 hc).1
      show a.block < argN E W
      unfold argN
      omega
    · rw [← List.map_drop, ← List.map_take]
      congr 1
      apply List.ext_getElem?
      intro i
      rw [List.getElem?_take, List.getElem?_drop, Array.getElem?_toList]
      split
      · rename_i hi
        have := h2 i (by omega)
        rw [add_off hs0] at this
        obtain ⟨c', e', fr', hc', _, hv⟩ := cell_some this
        rw [hc] at hc'
        cases hc'
        rw [hv, List.getElem?_eq_getElem (by omega)]
      · rename_i hi
        rw [List.getElem?_eq_none (by omega)]
  · cases h
theorem take_flat {α : Type} {f : α → List Value} {sz : Nat} {cs : List Value} : ∀ {l : List α} {o : Nat}, (∀ i (h : i < l.length), (cs.drop (o + i * sz)).take sz = f l[i]) → (∀ x, (f x).length = sz) → (cs.drop o).take (l.length * sz) = l.flatMap f := by
  intro l
  induction l with
  | nil => intro o _ _; simp
  | cons x l ih =>
    intro o h hf
    have h0 := h 0 (by simp)
    simp only [Nat.zero_mul, Nat.add_zero, List.getElem_cons_zero] at h0
    have ih := ih (o := o + sz) (fun i hi => by
      have := h (i + 1) (by simpa using hi)
      simp only [List.getElem_cons_succ] at this
      rw [← this]
      congr 2
      rw [Nat.succ_mul]; omega) hf
    rw [List.flatMap_cons, ← ih, ← h0, List.length_cons, Nat.succ_mul, Nat.add_comm, List.take_add, List.drop_drop]
theorem list_of {α : Type} {p : Nat → α → Prop} : ∀ {n : Nat}, (∀ i, i < n → ∃ x, p i x) → ∃ l : List α, l.length = n ∧ ∀ i (h : i < l.length), p i l[i] := by
  intro n
  induction n with
  | zero => intro _; exact ⟨[], rfl, by simp⟩
  | succ n ih =>
    intro h
    obtain ⟨l, h1, h2⟩ := ih fun i hi => h i (by omega)
    obtain ⟨x, hx⟩ := h n (by omega)
    refine ⟨l ++ [x], by simp [h1], fun i hi => ?_⟩
    rw [List.getElem_append]
    split
    · exact h2 _ _
    · rename_i hn
      have : i = n := by simp at hi; omega
      subst this
      simpa [h1] using hx
section
variable {H : Type} {enc : TypeId × Value → H} {P : Program} {W : World} {base : Nat} {spare : Nat → Bool} {held : Bool} {E : Env}
/-- A slice that was read. -/
theorem trod_sl {α : Type} {f : α → List Value} {sz : Nat} {Wf : α → Prop} (hf : ∀ x, (f x).length = sz) (hsz : 0 < sz) {t e : TypeId} (hu : P.underlying t = some (.slice e)) (hce : P.cellsOf e = sz)
    (hel : ∀ fuel cs r, DataW.trod enc P W base spare held fuel e cs = some r → cs.length = sz → ∃ x, Wf x ∧ cs.map (nv (argN E W)) = f x) (hsp : ∀ b, spare b = true)
    {fuel : Nat} {v : Value} {d : DataW H} {ps : List MemPlace} (h : DataW.trod enc P W base spare held fuel t [v] = some (d, ps)) :
    ∃ s l, nv (argN E W) v = .slice s.a s.len s.cap ∧ SlOf f sz (argS E W) s l ∧ (∀ x ∈ l, Wf x) ∧ s.len ≤ s.cap ∧ s.cap < inex := by
  cases fuel with
  | zero => cases h
  | succ fuel =>
    unfold DataW.trod at h
    rw [hu] at h
    split at h <;> first | (cases (‹some (TypeDesc.slice e) = some _›); done) | (cases h; done) | skip
    · rename_i he hv
      cases hv
      exact ⟨⟨none, 0, 0⟩, [], by unfold nv; rfl, ⟨rfl, fun h => (h rfl).elim⟩, by simp, Nat.le_refl _, by decide⟩
    · rename_i e' a len cap he hv
      cases he
      cases hv
      split at h
      · rename_i hc
        obtain ⟨hc1, hc2, hc3⟩ := hc
        rw [hce] at h
        rw [Option.bind_eq_some_iff] at h
        obtain ⟨elems, h1, h⟩ := h
        rw [Option.map_eq_some_iff] at h
        obtain ⟨rest, h2, _⟩ := h
        rw [hsp, if_pos rfl] at h2
        obtain ⟨g1, g2⟩ := mapM_range h1
        obtain ⟨g3, g4⟩ := mapM_range h2
        have hcap : cap < inex := by
          have : cap ≤ 2 ^ 63 - 1 := hc3
          unfold inex
          omega
        by_cases h0 : cap = 0
        · subst h0
          have : len = 0 := by omega
          subst this
          exact ⟨⟨some ⟨0, 0, none⟩, 0, 0⟩, [], by unfold nv; rfl, ⟨rfl, fun h => (h rfl).elim⟩, by simp, Nat.le_refl _, by decide⟩
        · -- the first cell is read: the address is one
          have hat : ∀ i, i < cap → ∃ cs r, W.cells? base (a.add (i * sz)) sz = some cs ∧ DataW.trod enc P W base spare held fuel e cs = some r := by
            intro i hi
            by_cases hl : i < len
            · have := g2 i (by omega)
              rw [Option.bind_eq_some_iff] at this
              obtain ⟨cs, h5, h6⟩ := this
              exact ⟨cs, _, h5, h6⟩
            · have := g4 (i - len) (by omega)
              rw [Option.bind_eq_some_iff, show len + (i - len) = i by omega] at this
              obtain ⟨cs, h5, h6⟩ := this
              exact ⟨cs, _, h5, h6⟩
          obtain ⟨cs0, r0, h5, h6⟩ := hat 0 (by omega)
          obtain ⟨hs0, c, et, fr, hw, hA, _, _⟩ := cells_at (E := E) h5 hsz
          simp only [Nat.zero_mul, show a.add 0 = a by simp [Addr.add]] at hs0 hw hA
          obtain ⟨l, hl1, hl2⟩ := list_of (p := fun i x => Wf x ∧ ((c.toList.map (nv (argN E W))).drop (a.off + i * sz)).take sz = f x) (n := len) (fun i hi => by
            obtain ⟨cs, r, h7, h8⟩ := hat i (by omega)
            obtain ⟨_, c', et', fr', hw', hA', ht, hlen⟩ := cells_at (E := E) h7 hsz
            rw [add_off hs0] at hw' ht
            rw [hw] at hw'
            cases hw'
            obtain ⟨x, hx1, hx2⟩ := hel fuel cs r h8 hlen
            exact ⟨x, hx1, by rw [← hx2]; exact ht⟩)
          have hok : okA (argN E W) a = true := by
            have := hA.lt
            simp only [okA, hs0, Option.isNone_none, Bool.true_and]
            exact Nat.blt_eq.mpr this
          have ha : a = ⟨a.block, a.off, none⟩ := by
            obtain ⟨b, o, s⟩ := a
            simp at hs0
            rw [hs0]
          refine ⟨⟨some a, len, cap⟩, l, ?_, ⟨hl1.symm, fun _ => ⟨a.block, a.off, _, _, _, _, congrArg some ha, hA, take_flat (fun i hi => (hl2 i hi).2) hf⟩⟩, ?_, hc2, hcap⟩
          · unfold nv
            have e1 : (Nat.beq len 0 && Nat.beq cap 0) = false := by
              rw [Bool.and_eq_false_iff]
              exact .inr (PM.beq_f h0)
            rw [e1, hok, Nat.ble_eq_true_of_le hc2, Nat.blt_eq.mpr hcap]
            rfl
          · intro x hx
            obtain ⟨i, hi, rfl⟩ := List.getElem_of_mem hx
            exact (hl2 i hi).1
      · cases h
/-- A number that was read. -/
theorem trod_int {t : TypeId} {k : IntKind} (hu : P.underlying t = some (.int k)) {fuel : Nat} {cs : List Value} {r : DataW H × List MemPlace} (h : DataW.trod enc P W base spare held fuel t cs = some r) :
    ∃ n, cs = [.int k n] ∧ (Lit.int k n).wf = true := by
  cases fuel with
  | zero => cases h
  | succ fuel =>
    unfold DataW.trod at h
    rw [hu] at h
    split at h <;> first | (cases (‹some (TypeDesc.int k) = some _›); done) | (cases h; done) | skip
    · rename_i k0 k' n he
      cases he
      split at h
      · rename_i hc
        obtain ⟨rfl, h2⟩ := hc
        exact ⟨_, rfl, h2⟩
      · cases h
end
section
variable {H : Type} {enc : TypeId × Value → H} {P : Program} {W : World} {base : Nat} {spare : Nat → Bool} {held : Bool}
theorem mapM_each {α β : Type} {f : α → Option β} : ∀ {l : List α} {r : List β}, l.mapM f = some r → ∀ x ∈ l, ∃ y, f x = some y := by
  intro l
  induction l with
  | nil => intro r _ x hx; cases hx
  | cons a l ih =>
    intro r h x hx
    rw [List.mapM_cons] at h
    cases ha : f a with
    | none => rw [ha] at h; cases h
    | some y =>
      rw [ha] at h
      cases hl : l.mapM f with
      | none => rw [hl] at h; cases h
      | some ys =>
        rcases List.mem_cons.1 hx with rfl | hx
        · exact ⟨y, ha⟩
        · exact ih hl x hx
/-- A struct that was read: each field was. -/
theorem trod_struct {t : TypeId} {fs : Array Field} (hu : P.underlying t = some (.struct fs)) {fuel : Nat} {cs : List Value} {r : DataW H × List MemPlace} (h : DataW.trod enc P W base spare held fuel t cs = some r) :
    cs.length = P.cellsOf t ∧ ∃ fuel', ∀ f ∈ fs.toList, ∃ r', DataW.trod enc P W base spare held fuel' f.type ((cs.drop f.offset).take (P.cellsOf f.type)) = some r' := by
  cases fuel with
  | zero => cases h
  | succ fuel =>
    unfold DataW.trod at h
    rw [hu] at h
    split at h <;> first | (cases (‹some (TypeDesc.struct fs) = some _›); done) | (cases h; done) | (exact ((‹∀ fs_1 : Array Field, some (TypeDesc.struct fs) = some (TypeDesc.struct fs_1) → False›) _ rfl).elim) | skip
    rename_i fs' he
    cases he
    split at h
    · rename_i hc
      rw [Option.map_eq_some_iff] at h
      obtain ⟨xs, h1, _⟩ := h
      exact ⟨hc, fuel, fun f hf => mapM_each h1 f hf⟩
    · cases h
theorem trod_bool {t : TypeId} (hu : P.underlying t = some .bool) {fuel : Nat} {cs : List Value} {r : DataW H × List MemPlace} (h : DataW.trod enc P W base spare held fuel t cs = some r) : ∃ b, cs = [.bool b] := by
  cases fuel with
  | zero => cases h
  | succ fuel =>
    unfold DataW.trod at h
    rw [hu] at h
    split at h <;> first | (cases (‹some TypeDesc.bool = some _›); done) | (cases h; done) | skip
    exact ⟨_, rfl⟩
theorem trod_str {t : TypeId} (hu : P.underlying t = some .string) {fuel : Nat} {cs : List Value} {r : DataW H × List MemPlace} (h : DataW.trod enc P W base spare held fuel t cs = some r) : ∃ s, cs = [.string s] ∧ s.size ≤ maxLen := by
  cases fuel with
  | zero => cases h
  | succ fuel =>
    unfold DataW.trod at h
    rw [hu] at h
    split at h <;> first | (cases (‹some TypeDesc.string = some _›); done) | (cases h; done) | skip
    split at h
    · rename_i hs; exact ⟨_, rfl, hs⟩
    · cases h
/-- A slice's header that was read. -/
theorem trod_sl0 {E : Env} {t e : TypeId} (hu : P.underlying t = some (.slice e)) (hce : 0 < P.cellsOf e) (hsp : ∀ b, spare b = true) {fuel : Nat} {cs : List Value} {r : DataW H × List MemPlace} (h : DataW.trod enc P W base spare held fuel t cs = some r) :
    ∃ (v : Value) (s : Sl), cs = [v] ∧ nv (argN E W) v = .slice s.a s.len s.cap := by
  have h' := h
  have hv : ∃ v, cs = [v] := by
    cases fuel with
    | zero => cases h
    | succ fuel =>
      unfold DataW.trod at h
      rw [hu] at h
      split at h <;> first | (cases (‹some (TypeDesc.slice e) = some _›); done) | (cases h; done) | exact ⟨_, rfl⟩
  obtain ⟨v, rfl⟩ := hv
  obtain ⟨d, ps⟩ := r
  obtain ⟨s, l, h1, _⟩ := trod_sl (E := E) (f := fun (x : {l : List Value // l.length = P.cellsOf e}) => x.1) (Wf := fun _ => True) (fun x => x.2) hce hu rfl (fun fuel cs r _ hl => ⟨⟨cs.map (nv (argN E W)), by simpa using hl⟩, trivial, rfl⟩) hsp h'
  exact ⟨v, s, rfl, h1⟩
end
/-- A struct's value is its cells. -/
theorem okWide_agg {P : Program} {w : World} {r : Reach} {base : Nat} {t : TypeId} {v : Value} {fs : Array Field} (hu : P.underlying t = some (.struct fs)) (h : Value.okWide P w r base t v) : ∃ cs, v = .agg cs := by
  unfold Value.okWide at h
  rw [hu] at h
  obtain ⟨cs, h1, _⟩ := h
  exact ⟨cs, h1⟩
/-- A value that is no struct is one cell. -/
theorem okWide_cell {P : Program} {w : World} {r : Reach} {base : Nat} {t : TypeId} {v : Value} {u : TypeDesc} (hu : P.underlying t = some u) (hs : aggD u = false) (h : Value.okWide P w r base t v) : v.cells.toList = [v] := by
  have key : ∀ a, v ≠ .agg a := by
    rintro a rfl
    unfold Value.okWide at h
    rw [hu] at h
    cases u <;> first | (cases hs; done) | (simp [Cell.okWide, Cell.ok, hu] at h; done)
  cases v <;> first | rfl | exact (key _ rfl).elim
section
variable {H : Type} {enc : TypeId × Value → H} {P : Program} {W : World} {base b0 : Nat} {spare : Nat → Bool} {held : Bool} {E : Env} {r : Reach}
theorem arg_sl {α : Type} {f : α → List Value} {sz : Nat} {Wf : α → Prop} (hf : ∀ x, (f x).length = sz) (hsz : 0 < sz) {t e : TypeId} (hu : P.underlying t = some (.slice e)) (hce : P.cellsOf e = sz)
    (hel : ∀ fuel cs r, DataW.trod enc P W base spare held fuel e cs = some r → cs.length = sz → ∃ x, Wf x ∧ cs.map (nv (argN E W)) = f x) (hsp : ∀ b, spare b = true)
    {v : Value} {d : DataW H} {ps : List MemPlace} (hok : Value.okWide P W r b0 t v) (h : DataW.Trod enc P W base spare held t v d ps) :
    ∃ s l, nv (argN E W) v = .slice s.a s.len s.cap ∧ SlOf f sz (argS E W) s l ∧ (∀ x ∈ l, Wf x) ∧ s.len ≤ s.cap ∧ s.cap < inex := by
  obtain ⟨fuel, h⟩ := h
  rw [okWide_cell hu rfl hok] at h
  exact trod_sl hf hsz hu hce hel hsp h
theorem arg_int {t : TypeId} {k : IntKind} (hu : P.underlying t = some (.int k)) {v : Value} {d : DataW H} {ps : List MemPlace} (hok : Value.okWide P W r b0 t v) (h : DataW.Trod enc P W base spare held t v d ps) :
    ∃ n, v = .int k n ∧ (Lit.int k n).wf = true := by
  obtain ⟨fuel, h⟩ := h
  rw [okWide_cell hu rfl hok] at h
  obtain ⟨n, h1, h2⟩ := trod_int hu h
  cases h1
  exact ⟨n, rfl, h2⟩
/-- Slices of numbers. -/
theorem arg_ints {t e : TypeId} {k : IntKind} (hu : P.underlying t = some (.slice e)) (hce : P.cellsOf e = 1) (hue : P.underlying e = some (.int k)) (hsp : ∀ b, spare b = true)
    {v : Value} {d : DataW H} {ps : List MemPlace} (hok : Value.okWide P W r b0 t v) (h : DataW.Trod enc P W base spare held t v d ps) :
    ∃ (s : Sl) (l : List Int), nv (argN E W) v = .slice s.a s.len s.cap ∧ SlOf (fun n => [Value.int k n]) 1 (argS E W) s l ∧ (∀ x ∈ l, (Lit.int k x).wf = true) ∧ s.len ≤ s.cap ∧ s.cap < inex :=
  arg_sl (f := fun n => [Value.int k n]) (sz := 1) (Wf := fun x => (Lit.int k x).wf = true) (fun _ => rfl) (by omega) hu hce (fun fuel cs r h _ => by
    obtain ⟨n, rfl, h2⟩ := trod_int hue h
    exact ⟨n, h2, by simp [nv]⟩) hsp hok h
end
@[simp] theorem nv_int (n : Nat) (k : IntKind) (i : Int) : nv n (.int k i) = .int k i := by unfold nv; rfl
@[simp] theorem nv_bool (n : Nat) (b : Bool) : nv n (.bool b) = .bool b := by unfold nv; rfl
@[simp] theorem nv_string (n : Nat) (s : ByteArray) : nv n (.string s) = .string s := by unfold nv; rfl
@[simp] theorem nv_agg (n : Nat) (a : Array Value) : nv n (.agg a) = .agg (a.map (nv n)) := by unfold nv; rfl

end
end Go.Proofs.Ytcookjolkhcjhaa.D
