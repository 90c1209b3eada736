/- Parts of the proof, put together. -/
import Derived.RangeFuncRecord
import Derived.Below
import Derived.Laws.Strings
/-
  D, part 1: maps from numbers; the abstract heap's objects; the relation between an abstract value and the model's.
-/
namespace Go.Proofs.Ytcdignblakejoaa.D

/-! ### Maps from numbers -/
inductive PM (α : Type) where
  | leaf
  | ov (k : Nat) (v : α) (t : PM α)
  | node (l : PM α) (v : Option α) (r : PM α)

namespace PM
variable {α : Type}
/- By recursors, not by matches: the kernel runs this. What a compiler could run (for tools alone):
NATIVE
def get : PM α → Nat → Option α
  | .leaf, _ => none
  | .ov k v t, n => cond (Nat.beq n k) (some v) (get t n)
  | .node l v r, n => cond (Nat.beq n 0) v (cond (Nat.beq ((n - 1) % 2) 1) (get l ((n - 1) / 2)) (get r ((n - 1) / 2)))
def setF : Nat → PM α → Nat → α → PM α
  | 0, t, n, v => .ov n v t
  | f + 1, .leaf, n, v =>
    cond (Nat.beq n 0) (.node .leaf (some v) .leaf)
      (cond (Nat.beq ((n - 1) % 2) 1) (.node (setF f .leaf ((n - 1) / 2) v) none .leaf) (.node .leaf none (setF f .leaf ((n - 1) / 2) v)))
  | f + 1, .node l x r, n, v =>
    cond (Nat.beq n 0) (.node l (some v) r)
      (cond (Nat.beq ((n - 1) % 2) 1) (.node (setF f l ((n - 1) / 2) v) x r) (.node l x (setF f r ((n - 1) / 2) v)))
  | _ + 1, .ov k w t, n, v => .ov n v (.ov k w t)
def set (t : PM α) (n : Nat) (v : α) : PM α := setF 40 t n v
END -/
-- KERNEL
def getOv (k : Nat) (v : α) (t : Nat → Option α) (n : Nat) : Option α := cond (Nat.beq n k) (some v) (t n)
def getNode (l : Nat → Option α) (v : Option α) (r : Nat → Option α) (n : Nat) : Option α :=
  @Nat.rec (fun _ => Option α) v (fun m _ => cond (Nat.beq (m % 2) 1) (l (m / 2)) (r (m / 2))) n
noncomputable def get (t : PM α) : Nat → Option α :=
  @PM.rec α (fun _ => Nat → Option α) (fun _ => none) (fun k v _ ih => getOv k v ih) (fun _ v _ l r => getNode l v r) t
def mkP (v : α) (f : Nat) : Nat → PM α :=
  @Nat.rec (fun _ => Nat → PM α) (fun n => .ov n v .leaf)
    (fun _ ih n => @Nat.rec (fun _ => PM α) (.node .leaf (some v) .leaf) (fun m _ => cond (Nat.beq (m % 2) 1) (.node (ih (m / 2)) none .leaf) (.node .leaf none (ih (m / 2)))) n) f
def setNode (v : α) (l : PM α) (x : Option α) (r : PM α) (l' r' : Nat → PM α) (n : Nat) : PM α :=
  @Nat.rec (fun _ => PM α) (.node l (some v) r) (fun m _ => cond (Nat.beq (m % 2) 1) (.node (l' (m / 2)) x r) (.node l x (r' (m / 2)))) n
noncomputable def setR (v : α) (t : PM α) : Nat → PM α :=
  @PM.rec α (fun _ => Nat → PM α) (mkP v 40) (fun k w t _ n => .ov n v (.ov k w t)) (fun l x r l' r' => setNode v l x r l' r') t
noncomputable def set (t : PM α) (n : Nat) (v : α) : PM α := setR v t n

theorem beq_f {a b : Nat} (h : ¬ a = b) : Nat.beq a b = false := Bool.eq_false_iff.2 fun e => h (Nat.eq_of_beq_eq_true e)
@[simp] theorem get_leaf (n : Nat) : (PM.leaf : PM α).get n = none := rfl
theorem get_ov (k : Nat) (v : α) (t : PM α) (n : Nat) : (PM.ov k v t).get n = if n = k then some v else t.get n := by
  show getOv k v t.get n = _
  unfold getOv
  by_cases h : n = k
  · subst h; simp
  · rw [beq_f h, if_neg h]; rfl
theorem get_node0 (l r : PM α) (v : Option α) : (PM.node l v r).get 0 = v := rfl
theorem get_node (l r : PM α) (v : Option α) (n : Nat) : (PM.node l v r).get (n + 1) = if n % 2 = 1 then l.get (n / 2) else r.get (n / 2) := by
  show cond (Nat.beq (n % 2) 1) (l.get (n / 2)) (r.get (n / 2)) = _
  by_cases h : n % 2 = 1
  · rw [if_pos h, h]; rfl
  · rw [if_neg h, beq_f h]; rfl
theorem get_mkP (v : α) : ∀ (f n m : Nat), (mkP v f n).get m = if m = n then some v else none := by
  intro f
  induction f with
  | zero => intro n m; show (PM.ov n v .leaf).get m = _; rw [get_ov]; rfl
  | succ f ih =>
    intro n m
    cases n with
    | zero =>
      show (PM.node .leaf (some v) .leaf).get m = _
      cases m with
      | zero => rfl
      | succ m => rw [get_node]; simp
    | succ n =>
      show (cond (Nat.beq (n % 2) 1) (PM.node (mkP v f (n / 2)) none .leaf) (.node .leaf none (mkP v f (n / 2)))).get m = _
      by_cases h : n % 2 = 1
      · have e : Nat.beq (n % 2) 1 = true := by rw [h]; rfl
        rw [e]
        cases m with
        | zero => rw [if_neg (by omega)]; rfl
        | succ m =>
          simp only [cond_true, get_node, ih, get_leaf]
          by_cases hm : m % 2 = 1
          · rw [if_pos hm]
            have : (m / 2 = n / 2) ↔ m + 1 = n + 1 := by omega
            simp only [this]
          · rw [if_neg hm, if_neg (by omega)]
      · rw [beq_f h]
        cases m with
        | zero => rw [if_neg (by omega)]; rfl
        | succ m =>
          simp only [cond_false, get_node, ih, get_leaf]
          by_cases hm : m % 2 = 1
          · rw [if_pos hm, if_neg (by omega)]
          · rw [if_neg hm]
            have : (m / 2 = n / 2) ↔ m + 1 = n + 1 := by omega
            simp only [this]
theorem get_set (t : PM α) (n : Nat) (v : α) (m : Nat) : (t.set n v).get m = if m = n then some v else t.get m := by
  induction t generalizing n m with
  | leaf => exact get_mkP v 40 n m
  | ov k w t _ => show (PM.ov n v (.ov k w t)).get m = _; rw [get_ov]
  | node l x r ihl ihr =>
    cases n with
    | zero =>
      show (PM.node l (some v) r).get m = _
      cases m with
      | zero => rfl
      | succ m => rw [if_neg (show ¬ m + 1 = 0 by omega), get_node, get_node]
    | succ n =>
      show (cond (Nat.beq (n % 2) 1) (PM.node (l.set (n / 2) v) x r) (.node l x (r.set (n / 2) v))).get m = _
      by_cases h : n % 2 = 1
      · have e : Nat.beq (n % 2) 1 = true := by rw [h]; rfl
        rw [e]
        cases m with
        | zero => rw [if_neg (by omega)]; rfl
        | succ m =>
          simp only [cond_true, get_node, ihl]
          by_cases hm : m % 2 = 1
          · have : (m / 2 = n / 2) ↔ m + 1 = n + 1 := by omega
            simp only [hm, if_true, this]
          · rw [if_neg hm, if_neg hm, if_neg (by omega)]
      · rw [beq_f h]
        cases m with
        | zero => rw [if_neg (by omega)]; rfl
        | succ m =>
          simp only [cond_false, get_node, ihr]
          by_cases hm : m % 2 = 1
          · rw [if_pos hm, if_pos hm, if_neg (by omega)]
          · have : (m / 2 = n / 2) ↔ m + 1 = n + 1 := by omega
            simp only [hm, if_false, this]
@[simp] theorem get_set_same (t : PM α) (n : Nat) (v : α) : (t.set n v).get n = some v := by rw [get_set, if_pos rfl]
theorem get_set_ne {t : PM α} {n m : Nat} {v : α} (h : m ≠ n) : (t.set n v).get m = t.get m := by rw [get_set, if_neg h]
-- KERNEL END
/-- A list laid at the places 'i', 'i + 1', ... -/
noncomputable def ofList : List α → Nat → PM α → PM α
  | [], _, t => t
  | v :: r, i, t => ofList r (i + 1) (t.set i v)

theorem get_ofList : ∀ (l : List α) (i : Nat) (t : PM α) (m : Nat), (ofList l i t).get m = if i ≤ m ∧ m < i + l.length then l[m - i]? else t.get m := by
  intro l
  induction l with
  | nil => intro i t m; simp [ofList]; omega
  | cons v r ih =>
    intro i t m
    simp only [ofList, ih, get_set, List.length_cons]
    by_cases h1 : i + 1 ≤ m ∧ m < i + 1 + r.length
    · rw [if_pos h1, if_pos (by omega)]
      have : m - i = (m - (i + 1)) + 1 := by omega
      rw [this, List.getElem?_cons_succ]
    · rw [if_neg h1]
      by_cases h2 : m = i
      · subst h2; rw [if_pos rfl, if_pos (by omega)]; simp
      · rw [if_neg h2, if_neg (by omega)]
end PM

/-! ### The abstract heap -/

/-- A slice whose capacity the run has drawn: it reaches to the end of its block, however long that is. -/
def inex : Nat := 18446744073709551616

/-- From here on a number behind a row is a mark: of which type its block is. -/
def TB : Nat := 1000000
/-- How many cells an element has, behind such a mark: one. -/
def szT (s : Nat) : Nat := cond (Nat.blt s TB) s 1
theorem szT_lt {s : Nat} (h : s < TB) : szT s = s := by
  unfold szT
  rw [Nat.blt_eq.mpr h]; rfl
theorem szT_ge {s : Nat} (h : TB ≤ s) : szT s = 1 := by
  unfold szT
  have e : Nat.blt s TB = false := Bool.eq_false_iff.2 fun hh => by have := Nat.blt_eq.mp hh; omega
  rw [e]; rfl

/-- The record of a loop over a function. -/
structure DLoop where
  state : LoopState
  pending : Option Code
  regs : PM Value
  n : Nat
  params : Array Tmp
  assign : Code
  body : Code
  dfr : Nat

inductive DObj where
  /-- A row of cells. more: there may be spare cells behind them, for elements of so many cells · ro: it is never written · fz: bytes that strings share. -/
  | cells (cs : List Value) (more : Option Nat) (ro : Bool) (fz : Option (Nat × Nat))
  | map (es : List MapEntry) (clock : Nat)
  | loop (l : DLoop)
  /-- who goes through a map: since when, what was told, when last -/
  | iter (mp : Option Nat) (since : Nat) (seen : List Nat) (last : Nat)
  | deferred
  | dead

def DObj.live : DObj → Bool
  | .dead => false
  | _ => true
/-- May it be written? -/
def DObj.wr : DObj → Bool
  | .cells _ _ ro _ => !ro
  | .dead => false
  | _ => true

structure St where
  heap : PM DObj
  next : Nat
  /-- the least block that was written since the last mark -/
  low : Nat

/-- Where a block lies in the model's heap: at 'base' of block 'blk', which has 'tot' cells; elements of 'sz' cells. -/
structure BM where
  blk : Nat
  base : Nat
  tot : Nat
  sz : Nat

abbrev Mp := Nat → Option BM

def Mp.le (m m' : Mp) : Prop := ∀ b x, m b = some x → m' b = some x
theorem Mp.le_refl (m : Mp) : m.le m := fun _ _ h => h
theorem Mp.le_trans {a b c : Mp} (h : a.le b) (k : b.le c) : a.le c := fun _ _ e => k _ _ (h _ _ e)
def Mp.put (m : Mp) (b : Nat) (x : BM) : Mp := fun c => if c = b then some x else m c
theorem Mp.le_put {m : Mp} {b : Nat} {x : BM} (h : m b = none) : m.le (m.put b x) := fun c y e => by
  unfold Mp.put; split
  · rename_i hc; subst hc; rw [h] at e; cases e
  · exact e
@[simp] theorem Mp.put_same (m : Mp) (b : Nat) (x : BM) : m.put b x b = some x := by simp [Mp.put]
theorem Mp.put_ne {m : Mp} {b c : Nat} {x : BM} (h : c ≠ b) : m.put b x c = m c := by simp [Mp.put, h]

/-- An abstract value (left) and the model's (right). -/
inductive VR (m : Mp) : Value → Value → Prop
  | bool (b : Bool) : VR m (.bool b) (.bool b)
  | int (k : IntKind) (n : Int) : VR m (.int k n) (.int k n)
  | string (s : ByteArray) : VR m (.string s) (.string s)
  | nilp : VR m (.pointer none) (.pointer none)
  | ptr (b o : Nat) (x : BM) : m b = some x → VR m (.pointer (some ⟨b, o, none⟩)) (.pointer (some ⟨x.blk, x.base + o, none⟩))
  | nils : VR m (.slice none 0 0) (.slice none 0 0)
  | sl (b o len cap : Nat) (x : BM) : m b = some x → cap ≠ inex → len ≤ cap → VR m (.slice (some ⟨b, o, none⟩) len cap) (.slice (some ⟨x.blk, x.base + o, none⟩) len cap)
  | slx (b o len cap : Nat) (x : BM) : m b = some x → len ≤ cap → x.base + o + cap * x.sz = x.tot →
      VR m (.slice (some ⟨b, o, none⟩) len inex) (.slice (some ⟨x.blk, x.base + o, none⟩) len cap)
  | sle (b o : Nat) (a : Addr) (x : BM) : m b = some x → x.base + o = x.tot → VR m (.slice (some ⟨b, o, none⟩) 0 inex) (.slice (some a) 0 0)
  | slz (b o : Nat) (a : Addr) : VR m (.slice (some ⟨b, o, none⟩) 0 0) (.slice (some a) 0 0)
  | nilm : VR m (.map none) (.map none)
  | mp (b : Nat) (x : BM) : m b = some x → VR m (.map (some b)) (.map (some x.blk))
  | fn (f : Fn) (fs fs' cs cs' : Array Value) : (∀ l, f ≠ .yield l) →
      fs.size = fs'.size → (∀ (i : Nat) (v v' : Value), fs[i]? = some v → fs'[i]? = some v' → VR m v v') →
      cs.size = cs'.size → (∀ (i : Nat) (v v' : Value), cs[i]? = some v → cs'[i]? = some v' → VR m v v') →
      VR m (.func f fs cs) (.func f fs' cs')
  | yield (l : Nat) (x : BM) : m l = some x → VR m (.func (.yield l) #[] #[]) (.func (.yield x.blk) #[] #[])
  | nilf : VR m .nilFunc .nilFunc
  | iface (t : TypeId) (v v' : Value) : VR m v v' → VR m (.iface t v) (.iface t v')
  | nili : VR m .nilIface .nilIface
  /-- what D does not speak of -/
  | junk (v : Value) : (∀ a, v ≠ .agg a) → (∀ a, v ≠ .tuple a) → (∀ b, v ≠ .bool b) → VR m (.complex .f32 0 0) v
  | agg (a a' : Array Value) : a.size = a'.size → (∀ (i : Nat) (v v' : Value), a[i]? = some v → a'[i]? = some v' → VR m v v') → VR m (.agg a) (.agg a')
  | tup (a a' : Array Value) : a.size = a'.size → (∀ (i : Nat) (v v' : Value), a[i]? = some v → a'[i]? = some v' → VR m v v') → VR m (.tuple a) (.tuple a')

theorem VR.mono {m m' : Mp} (h : m.le m') {v v' : Value} (hv : VR m v v') : VR m' v v' := by
  induction hv with
  | bool b => exact .bool b
  | int k n => exact .int k n
  | string s => exact .string s
  | nilp => exact .nilp
  | ptr b o x e => exact .ptr b o x (h _ _ e)
  | nils => exact .nils
  | sl b o len cap x e h1 h2 => exact .sl b o len cap x (h _ _ e) h1 h2
  | slx b o len cap x e h1 h2 => exact .slx b o len cap x (h _ _ e) h1 h2
  | sle b o a x e h1 => exact .sle b o a x (h _ _ e) h1
  | slz b o a => exact .slz b o a
  | nilm => exact .nilm
  | mp b x e => exact .mp b x (h _ _ e)
  | fn f fs fs' cs cs' hf h1 _ h3 _ ih1 ih2 => exact .fn f fs fs' cs cs' hf h1 ih1 h3 ih2
  | yield l x e => exact .yield l x (h _ _ e)
  | nilf => exact .nilf
  | iface t v v' _ ih => exact .iface t v v' ih
  | nili => exact .nili
  | junk v h1 h2 h3 => exact .junk v h1 h2 h3
  | agg a a' h1 _ ih => exact .agg a a' h1 ih
  | tup a a' h1 _ ih => exact .tup a a' h1 ih

/-- Lists of values, one by one. -/
inductive VRs (m : Mp) : List Value → List Value → Prop
  | nil : VRs m [] []
  | cons {v v' : Value} {l l' : List Value} : VR m v v' → VRs m l l' → VRs m (v :: l) (v' :: l')

namespace VRs
variable {m m' : Mp}
theorem mono (h : m.le m') {l l' : List Value} (hv : VRs m l l') : VRs m' l l' := by
  induction hv with
  | nil => exact .nil
  | cons h1 _ ih => exact .cons (h1.mono h) ih
theorem length {l l' : List Value} (h : VRs m l l') : l.length = l'.length := by
  induction h with
  | nil => rfl
  | cons _ _ ih => simp [ih]
theorem get {l l' : List Value} (h : VRs m l l') : ∀ {i : Nat} {v : Value}, l[i]? = some v → ∃ v', l'[i]? = some v' ∧ VR m v v' := by
  induction h with
  | nil => intro i v e; simp at e
  | cons h1 _ ih =>
    intro i v e
    cases i with
    | zero => simp at e; subst e; exact ⟨_, by simp, h1⟩
    | succ i => simp at e; obtain ⟨v', e', hv⟩ := ih e; exact ⟨v', by simpa using e', hv⟩
theorem get' {l l' : List Value} (h : VRs m l l') {i : Nat} {v v' : Value} (e : l[i]? = some v) (e' : l'[i]? = some v') : VR m v v' := by
  obtain ⟨u, e'', hv⟩ := h.get e; rw [e'] at e''; cases e''; exact hv
theorem of_get : ∀ {l l' : List Value}, l.length = l'.length → (∀ (i : Nat) (v v' : Value), l[i]? = some v → l'[i]? = some v' → VR m v v') → VRs m l l'
  | [], [], _, _ => .nil
  | v :: l, v' :: l', hl, h => .cons (h 0 v v' (by simp) (by simp)) (of_get (by simpa using hl) fun i u u' e e' => h (i + 1) u u' (by simpa using e) (by simpa using e'))
  | [], _ :: _, hl, _ => by simp at hl
  | _ :: _, [], hl, _ => by simp at hl
theorem append {l l' k k' : List Value} (h : VRs m l l') (hk : VRs m k k') : VRs m (l ++ k) (l' ++ k') := by
  induction h with
  | nil => exact hk
  | cons h1 _ ih => exact .cons h1 ih
theorem take {l l' : List Value} (h : VRs m l l') : ∀ n, VRs m (l.take n) (l'.take n) := by
  induction h with
  | nil => intro n; simp; exact .nil
  | cons h1 _ ih =>
    intro n; cases n with
    | zero => simp; exact .nil
    | succ n => simp; exact .cons h1 (ih n)
theorem drop {l l' : List Value} (h : VRs m l l') : ∀ n, VRs m (l.drop n) (l'.drop n) := by
  induction h with
  | nil => intro n; simp; exact .nil
  | cons h1 h2 ih =>
    intro n; cases n with
    | zero => simp; exact .cons h1 h2
    | succ n => simp; exact ih n
theorem set {l l' : List Value} (h : VRs m l l') {v v' : Value} (hv : VR m v v') : ∀ i, VRs m (l.set i v) (l'.set i v') := by
  induction h with
  | nil => intro i; simp; exact .nil
  | cons h1 h2 ih =>
    intro i; cases i with
    | zero => simp; exact .cons hv h2
    | succ i => simp; exact .cons h1 (ih i)
theorem replicate {v v' : Value} (hv : VR m v v') : ∀ n, VRs m (List.replicate n v) (List.replicate n v')
  | 0 => .nil
  | n + 1 => by rw [List.replicate_succ, List.replicate_succ]; exact .cons hv (replicate hv n)
theorem map_same {l : List Value} (h : ∀ v ∈ l, VR m v v) : VRs m l l := by
  induction l with
  | nil => exact .nil
  | cons v l ih => exact .cons (h v (by simp)) (ih fun u hu => h u (by simp [hu]))
end VRs

theorem VRs.array {m : Mp} {a a' : Array Value} (h : VRs m a.toList a'.toList) : a.size = a'.size ∧ ∀ (i : Nat) (v v' : Value), a[i]? = some v → a'[i]? = some v' → VR m v v' :=
  ⟨by simpa using h.length, fun i v v' e e' => h.get' (i := i) (by simpa using e) (by simpa using e')⟩
theorem VRs.of_array {m : Mp} {a a' : Array Value} (h1 : a.size = a'.size) (h2 : ∀ (i : Nat) (v v' : Value), a[i]? = some v → a'[i]? = some v' → VR m v v') : VRs m a.toList a'.toList :=
  .of_get (by simpa using h1) fun i v v' e e' => h2 i v v' (by simpa using e) (by simpa using e')

/-- A value without memory: a constant. -/
inductive Plain : Value → Prop
  | bool (b : Bool) : Plain (.bool b)
  | int (k : IntKind) (n : Int) : Plain (.int k n)
  | string (s : ByteArray) : Plain (.string s)
  | nilp : Plain (.pointer none)
  | nils : Plain (.slice none 0 0)
  | nilm : Plain (.map none)
  | nilf : Plain .nilFunc
  | nili : Plain .nilIface
  | fn (f : Nat) : Plain (.func (.func f) #[] #[])
  | iface (t : TypeId) (v : Value) : Plain v → Plain (.iface t v)
  | agg (a : Array Value) : (∀ v ∈ a.toList, Plain v) → Plain (.agg a)
  | tup (a : Array Value) : (∀ v ∈ a.toList, Plain v) → Plain (.tuple a)

theorem Plain.vr {m : Mp} {v : Value} (h : Plain v) : VR m v v := by
  induction h with
  | bool b => exact .bool b
  | int k n => exact .int k n
  | string s => exact .string s
  | nilp => exact .nilp
  | nils => exact .nils
  | nilm => exact .nilm
  | nilf => exact .nilf
  | nili => exact .nili
  | fn f => exact .fn _ _ _ _ _ (by simp) rfl (by simp) rfl (by simp)
  | iface t v _ ih => exact .iface t v v ih
  | agg a _ ih => exact .agg a a rfl fun i v v' e e' => by rw [e] at e'; cases e'; exact ih v (by simpa using Array.mem_of_getElem? e)
  | tup a _ ih => exact .tup a a rfl fun i v v' e e' => by rw [e] at e'; cases e'; exact ih v (by simpa using Array.mem_of_getElem? e)

/-- One cell's value that is plain. -/
def plain1 : Value → Bool
  | .bool _ | .int _ _ | .string _ | .pointer none | .slice none 0 0 | .map none | .nilFunc | .nilIface => true
  | .func (.func _) fs cs => fs.toList.isEmpty && cs.toList.isEmpty
  | _ => false
/-- A constant, as code and types hold them. -/
def plainB : Value → Bool
  | .agg a | .tuple a => a.toList.all plain1
  | v => plain1 v

theorem plain1_sound {v : Value} (h : plain1 v = true) : Plain v := by
  unfold plain1 at h
  split at h <;> first
    | exact .bool _
    | exact .int _ _
    | exact .string _
    | exact .nilp
    | exact .nils
    | exact .nilm
    | exact .nilf
    | exact .nili
    | (simp at h; obtain ⟨h1, h2⟩ := h; subst h1; subst h2; exact .fn _)
    | cases h
theorem plainB_sound {v : Value} (h : plainB v = true) : Plain v := by
  unfold plainB at h
  split at h
  · exact .agg _ fun v hv => plain1_sound (List.all_eq_true.1 h v hv)
  · exact .tup _ fun v hv => plain1_sound (List.all_eq_true.1 h v hv)
  · exact plain1_sound h

end Go.Proofs.Ytcdignblakejoaa.D

/-
  D, part 2: the interpreter: a deterministic, checked big-step run of the model's code over the abstract heap.
  Where the model draws an order or a capacity, the run goes on only if the answer does not matter; else it is 'none'.
-/
namespace Go.Proofs.Ytcdignblakejoaa.D
noncomputable section

structure DInfo where
  und : TypeDesc
  size : Nat
  bytes : Nat
  zero : Option Value
  comparable : Bool
  /-- 'eqGuardType' -/
  eqg : Bool
  /-- a struct without blank fields, not stood in for -/
  noBlank : Bool

structure Env where
  inf : Nat → Option DInfo
  fn : Nat → Option Func
  prim : Nat → Option (List Value → St → Option (Value × St))
  globs : Nat

/-- An activation: its temporaries (n of them), the marks of its loops over functions, the loop whose round it is. -/
structure Ac where
  regs : PM Value
  n : Nat
  defers : List Nat
  rd : Option Nat

namespace Ac
def get (A : Ac) (t : Nat) : Value := (A.regs.get t).getD undef
def put (A : Ac) (dst : Option Tmp) (v : Value) : Option Ac :=
  match dst with
  | none => some A
  | some d => cond (Nat.blt d A.n) (some { A with regs := A.regs.set d v }) none
def eval (E : Env) (A : Ac) : Operand → Option Value
  | .tmp t => some (A.get t)
  | .const v => cond (plainB v) (some v) none
  | .global g => cond (Nat.blt g E.globs) (some (.pointer (some ⟨g, 0, none⟩))) none
  | .func f => some (.func (.func f) #[] #[])
def evals (E : Env) (A : Ac) : List Operand → Option (List Value)
  | [] => some []
  | x :: r => (A.eval E x).bind fun v => (evals E A r).map (v :: ·)
end Ac

section
variable (E : Env)
def Env.und (t : TypeId) : Option TypeDesc := (E.inf t).map (·.und)
def Env.size (t : TypeId) : Option Nat := (E.inf t).map (·.size)
def Env.bytes (t : TypeId) : Option Nat := (E.inf t).map (·.bytes)
def Env.zero (t : TypeId) : Option Value := (E.inf t).bind (·.zero)
end

def aggD : TypeDesc → Bool
  | .struct _ | .array _ _ => true
  | _ => false

/-! ### Memory -/
namespace St
def alloc (S : St) (o : DObj) : Nat × St := (S.next, { S with heap := S.heap.set S.next o, next := S.next + 1 })
/-- n cells from o on. -/
def loadN (S : St) (b o n : Nat) : Option (List Value) :=
  match S.heap.get b with
  | some (.cells cs _ _ _) => let l := (cs.drop o).take n; cond (Nat.beq l.length n) (some l) none
  | _ => none
def load1 (S : St) (b o : Nat) : Option Value :=
  match S.heap.get b with
  | some (.cells cs _ _ _) => cs[o]?
  | _ => none
def upd (S : St) (b : Nat) (o : DObj) : St := { S with heap := S.heap.set b o, low := cond (Nat.blt b S.low) b S.low }
def one : Value → Bool
  | .agg _ | .tuple _ => false
  | _ => true
def fzOk : Option (Nat × Nat) → Nat → Nat → Bool
  | none, _, _ => true
  | some (lo, hi), o, n => Nat.ble (o + n) lo || Nat.ble hi o
def storeN (S : St) (b o : Nat) (vs : List Value) : Option St :=
  match S.heap.get b with
  | some (.cells cs more ro fz) =>
    cond (!ro && Nat.ble (o + vs.length) cs.length && vs.all one && fzOk fz o vs.length)
      (some (S.upd b (.cells (cs.take o ++ (vs ++ cs.drop (o + vs.length))) more ro fz))) none
  | _ => none
end St

def cellsOf : Value → List Value
  | .agg cs => cs.toList
  | v => [v]

def loadV (E : Env) (S : St) (t : TypeId) : Value → Option Value
  | .pointer (some ⟨b, o, none⟩) =>
    match E.inf t with
    | some i => cond (aggD i.und) ((S.loadN b o i.size).map fun l => .agg l.toArray) (S.load1 b o)
    | none => none
  | _ => none
def storeV (E : Env) (S : St) (t : TypeId) (a v : Value) : Option St :=
  match a with
  | .pointer (some ⟨b, o, none⟩) =>
    match E.inf t with
    | some i => let cs := cellsOf v; cond (Nat.beq cs.length i.size) (S.storeN b o cs) none
    | none => none
  | _ => none
/-- A part of a struct's or an array's cells. -/
def partD (i : DInfo) (cs : List Value) (off : Nat) : Option Value :=
  cond (aggD i.und) (let l := (cs.drop off).take i.size; cond (Nat.beq l.length i.size) (some (.agg l.toArray)) none) cs[off]?

/-! ### Numbers -/
def inRange : IntKind → Int → Bool
  | .i8, n => decide (-128 ≤ n) && decide (n < 128)
  | .i16, n => decide (-32768 ≤ n) && decide (n < 32768)
  | .i32, n => decide (-2147483648 ≤ n) && decide (n < 2147483648)
  | .i64, n => decide (-9223372036854775808 ≤ n) && decide (n < 9223372036854775808)
  | .u8, n => decide (0 ≤ n) && decide (n < 256)
  | .u16, n => decide (0 ≤ n) && decide (n < 65536)
  | .u32, n => decide (0 ≤ n) && decide (n < 4294967296)
  | .u64, n => decide (0 ≤ n) && decide (n < 18446744073709551616)
def wrapD (k : IntKind) (n : Int) : Int := cond (inRange k n) n (k.wrap n)
def kindEq : IntKind → IntKind → Bool
  | .i8, .i8 | .i16, .i16 | .i32, .i32 | .i64, .i64 | .u8, .u8 | .u16, .u16 | .u32, .u32 | .u64, .u64 => true
  | _, _ => false
/-- Two numbers of one kind. -/
def intD (op : BinOp) (k : IntKind) (a b : Int) : Option Value :=
  match op with
  | .add => some (.int k (wrapD k (a + b)))
  | .sub => some (.int k (wrapD k (a - b)))
  | .mul => some (.int k (wrapD k (a * b)))
  | .quo => cond (decide (b = 0)) none (some (.int k (wrapD k (a.tdiv b))))
  | .rem => cond (decide (b = 0)) none (some (.int k (a.tmod b)))
  | .and => some (.int k (k.wrap (BitVec.ofInt k.bits a &&& BitVec.ofInt k.bits b).toNat))
  | .or => some (.int k (k.wrap (BitVec.ofInt k.bits a ||| BitVec.ofInt k.bits b).toNat))
  | .xor => some (.int k (k.wrap (BitVec.ofInt k.bits a ^^^ BitVec.ofInt k.bits b).toNat))
  | .andNot => some (.int k (k.wrap (BitVec.ofInt k.bits a &&& ~~~(BitVec.ofInt k.bits b)).toNat))
  | .eql => some (.bool (decide (a = b)))
  | .neq => some (.bool (!decide (a = b)))
  | .lss => some (.bool (decide (a < b)))
  | .leq => some (.bool (decide (a ≤ b)))
  | .gtr => some (.bool (decide (b < a)))
  | .geq => some (.bool (decide (b ≤ a)))
  | .shl | .shr => none
def shiftD (left : Bool) (k : IntKind) (a b : Int) : Option Value :=
  cond (decide (b < 0)) none
    (let n := min b.toNat k.bits
     cond left (some (.int k (wrapD k (a * ((2 ^ n : Nat) : Int))))) (some (.int k (a.fdiv ((2 ^ n : Nat) : Int)))))
def bytesLt : List UInt8 → List UInt8 → Bool := Op.bytesLess
def strD (op : BinOp) (a b : ByteArray) : Option Value :=
  let x := a.data.toList
  let y := b.data.toList
  match op with
  | .add => cond (decide (((x.length + y.length : Nat) : Int) ≤ 9223372036854775807)) (some (.string ⟨(x ++ y).toArray⟩)) none
  | .eql => some (.bool (x == y))
  | .neq => some (.bool (!(x == y)))
  | .lss => some (.bool (bytesLt x y))
  | .leq => some (.bool (bytesLt x y || x == y))
  | .gtr => some (.bool (!(bytesLt x y || x == y)))
  | .geq => some (.bool (!bytesLt x y))
  | _ => none

/-! ### Equality -/
/-- No bytes of the block are shared with a string. -/
def clean (S : St) (b : Nat) : Bool :=
  match S.heap.get b with
  | some (.cells _ _ false none) => true
  | _ => false
def fieldsEq (E : Env) (rec : TypeId → Value → Value → Option Bool) (xs ys : List Value) : List Field → Option Bool
  | [] => some true
  | f :: r =>
    (E.inf f.type).bind fun i => (partD i xs f.offset).bind fun x => (partD i ys f.offset).bind fun y =>
      (rec f.type x y).bind fun e => cond e (fieldsEq E rec xs ys r) (some false)
def eqD (E : Env) (S : St) : Nat → TypeId → Value → Value → Option Bool
  | 0, _, _, _ => none
  | n + 1, t, x, y =>
    match E.inf t with
    | none => none
    | some i =>
      match i.und, x, y with
      | .bool, .bool a, .bool b => some (a == b)
      | .int _, .int k a, .int k' b => cond (kindEq k k') (some (decide (a = b))) none
      | .string, .string a, .string b => some (a.data.toList == b.data.toList)
      | .pointer _, .pointer none, .pointer none => some true
      | .pointer _, .pointer none, .pointer (some _) => some false
      | .pointer _, .pointer (some _), .pointer none => some false
      | .pointer e, .pointer (some ⟨b, o, none⟩), .pointer (some ⟨b', o', none⟩) =>
        match E.size e with
        | some (_ + 1) => cond (Nat.beq b b') (some (Nat.beq o o')) (cond (clean S b && clean S b') (some false) none)
        | _ => none
      | .interface _, .nilIface, .nilIface => some true
      | .interface _, .nilIface, .iface _ _ => some false
      | .interface _, .iface _ _, .nilIface => some false
      | .interface _, .iface tx vx, .iface ty vy =>
        cond (Nat.beq tx ty) (match E.inf tx with | some j => cond j.comparable (eqD E S n tx vx vy) none | none => none) (some false)
      | .struct fields, .agg xs, .agg ys => cond i.noBlank (fieldsEq E (eqD E S n) xs.toList ys.toList fields.toList) none
      | .slice _, .slice none _ _, .slice b _ _ => some b.isNone
      | .slice _, .slice (some _) _ _, .slice none _ _ => some false
      | .map _ _, .map none, .map b => some b.isNone
      | .map _ _, .map (some _), .map none => some false
      | .func _ _ _, .nilFunc, .nilFunc => some true
      | .func _ _ _, .nilFunc, .func _ _ _ => some false
      | .func _ _ _, .func _ _ _, .nilFunc => some false
      | _, _, _ => none
def isConst : Operand → Bool
  | .const _ => true
  | _ => false
/-- 'eqGuard' lets it by. -/
def guardD (E : Env) (t : TypeId) (x y : Operand) (a b : Value) : Bool :=
  match a, b with
  | .nilIface, .nilIface => isConst x || isConst y
  | .agg _, .agg _ => match E.inf t with | some i => !i.eqg | none => false
  | _, _ => true
def binD (E : Env) (S : St) (op : BinOp) (t : TypeId) (x y : Operand) (a b : Value) : Option Value :=
  match a, b with
  | .int k p, .int k' q =>
    match op with
    | .shl => shiftD true k p q
    | .shr => shiftD false k p q
    | _ => cond (kindEq k k') (intD op k p q) none
  | .string p, .string q => strD op p q
  | _, _ =>
    match op with
    | .eql => cond (guardD E t x y a b) ((eqD E S 6 t a b).map .bool) none
    | .neq => cond (guardD E t x y a b) ((eqD E S 6 t a b).map fun e => .bool (!e)) none
    | _ => none
def unD (op : UnOp) : Value → Option Value
  | .int k n =>
    match op with
    | .neg => some (.int k (wrapD k (0 - n)))
    | .xor => some (.int k (k.wrap (BitVec.ofInt k.bits (if k.signed then -1 else k.max) ^^^ BitVec.ofInt k.bits n).toNat))
    | _ => none
  | .bool b => match op with | .not => some (.bool (!b)) | _ => none
  | _ => none

/-! ### Structs, arrays, slices -/
def fillD (place : Nat → Option (Nat × Nat)) : List Value → List (Nat × Value) → Option (List Value)
  | cells, [] => some cells
  | cells, (i, v) :: rest =>
    match place i with
    | none => none
    | some (off, size) =>
      let cs := cellsOf v
      cond (Nat.beq cs.length size && Nat.ble (off + cs.length) cells.length)
        (fillD place (cells.take off ++ (cs ++ cells.drop (off + cs.length))) rest) none
def zerosD (z : List Value) (n : Nat) : List Value := (List.replicate n z).flatten
def buildD (E : Env) (t : TypeId) (parts : List (Nat × Value)) : Option Value :=
  match E.inf t with
  | none => none
  | some i =>
    i.zero.bind fun z =>
    match i.und with
    | .struct fields =>
      cond (fields.toList.all fun f => (E.inf f.type).isSome)
        ((fillD (fun j => (fields[j]?).bind fun f => (E.size f.type).map fun s => (f.offset, s)) (cellsOf z) parts).map fun l => .agg l.toArray) none
    | .array _ e => (E.size e).bind fun s => (fillD (fun j => some (j * s, s)) (cellsOf z) parts).map fun l => .agg l.toArray
    | _ => none
def buildSliceD (E : Env) (S : St) (t : TypeId) (len : Nat) (parts : List (Nat × Value)) : Option (Value × St) :=
  match E.und t with
  | some (.slice e) =>
    match E.inf e with
    | some i =>
      i.zero.bind fun z =>
      cond (Nat.ble (len * i.size) 16777216 && Nat.ble len 16777216 && Nat.beq (cellsOf z).length i.size)
        ((fillD (fun j => some (j * i.size, i.size)) (zerosD (cellsOf z) len) parts).map fun l =>
          (.slice (some ⟨S.next, 0, none⟩) len len, (S.alloc (.cells l none false none)).2)) none
    | none => none
  | _ => none
def makeSliceD (E : Env) (S : St) (t : TypeId) (l c : Value) : Option (Value × St) :=
  match E.und t, l, c with
  | some (.slice e), .int _ ln, .int _ cp =>
    match E.inf e with
    | some i =>
      i.zero.bind fun z =>
      cond (decide (0 ≤ ln) && decide (ln ≤ cp) && decide ((i.bytes : Int) * cp ≤ 140737488355328) && decide (cp ≤ 140737488355328) && Nat.beq (cellsOf z).length i.size && Nat.ble 1 i.size)
        (some (.slice (some ⟨S.next, 0, none⟩) ln.toNat cp.toNat, (S.alloc (.cells (zerosD (cellsOf z) cp.toNat) none false none)).2)) none
    | none => none
  | _, _, _ => none
def natOf : Value → Option Nat
  | .int _ n => cond (decide (0 ≤ n)) (some n.toNat) none
  | _ => none
def optNat (d : Option Nat) : Option Value → Option Nat
  | some v => natOf v
  | none => d
/-- Elements of s cells lie in the block, spare cells behind them. -/
def moreIs (S : St) (b s : Nat) : Bool :=
  match S.heap.get b with
  | some (.cells _ (some z) _ _) => Nat.beq (szT z) s
  | _ => false
/-- How many elements of s cells there are room for, as far as D knows. -/
def roomD (S : St) (b o s : Nat) : Nat :=
  match S.heap.get b with
  | some (.cells cs (some z) _ _) => cond (Nat.beq (szT z) s && Nat.blt 0 s) ((cs.length - o) / s) 0
  | _ => 0
/-- A capacity that is sure. -/
def kcapD (S : St) (s : Nat) (a : Option Addr) (len cap : Nat) : Nat :=
  cond (Nat.beq cap inex) (match a with | some ⟨b, o, none⟩ => Nat.max len (roomD S b o s) | _ => len) cap
/-- s[lo:hi], s[lo:hi:mx] -/
def sliceD (E : Env) (S : St) (t : TypeId) (x : Value) (lo hi mx : Option Value) : Option Value :=
  match E.und t with
  | some .string =>
    match x, mx with
    | .string s, none =>
      let bs := s.data.toList
      (optNat (some bs.length) hi).bind fun h =>
      (optNat (some 0) lo).bind fun l =>
      cond (Nat.ble h bs.length && Nat.ble l h) (some (.string ⟨((bs.drop l).take (h - l)).toArray⟩)) none
    | _, _ => none
  | some (.slice e) =>
    (E.size e).bind fun s =>
    match x with
    | .slice a len cap =>
      (optNat (some (kcapD S s a len cap)) mx).bind fun m =>
      (optNat (cond mx.isNone (some len) none) hi).bind fun h =>
      (optNat (some 0) lo).bind fun l =>
      cond (Nat.ble m (kcapD S s a len cap) && Nat.ble h m && Nat.ble l h && Nat.blt m inex)
        (match a with
         | none => some (.slice none 0 0)
         | some ⟨b, o, none⟩ =>
           cond (Nat.beq cap inex && mx.isNone)
             (cond (moreIs S b s) (some (.slice (some ⟨b, o + l * s, none⟩) (h - l) inex)) none)
             (some (.slice (some ⟨b, cond (Nat.beq m l) o (o + l * s), none⟩) (h - l) (m - l)))
         | _ => none) none
    | _ => none
  | some (.array n e) =>
    (E.size e).bind fun s =>
    match x with
    | .pointer (some ⟨b, o, none⟩) =>
      (optNat (some n) mx).bind fun m =>
      (optNat (cond mx.isNone (some n) none) hi).bind fun h =>
      (optNat (some 0) lo).bind fun l =>
      cond (Nat.ble m n && Nat.ble h m && Nat.ble l h && Nat.blt m inex)
        (some (.slice (some ⟨b, cond (Nat.beq m l) o (o + l * s), none⟩) (h - l) (m - l))) none
    | _ => none
  | _ => none
def indexAddrD (E : Env) (t : TypeId) (x ix : Value) : Option Value :=
  match E.und t, x, ix with
  | some (.slice e), .slice (some ⟨b, o, none⟩) len _, .int _ i =>
    (E.size e).bind fun s => cond (decide (0 ≤ i) && decide (i < (len : Int))) (some (.pointer (some ⟨b, o + i.toNat * s, none⟩))) none
  | some (.array len e), .pointer (some ⟨b, o, none⟩), .int _ i =>
    (E.size e).bind fun s => cond (decide (0 ≤ i) && decide (i < (len : Int))) (some (.pointer (some ⟨b, o + i.toNat * s, none⟩))) none
  | _, _, _ => none
def indexD (E : Env) (t : TypeId) (x ix : Value) : Option Value :=
  match E.und t, x, ix with
  | some .string, .string s, .int _ i => cond (decide (0 ≤ i)) ((s.data.toList[i.toNat]?).map fun b => .int .u8 b.toNat) none
  | some (.array len e), .agg cs, .int _ i =>
    (E.inf e).bind fun d => cond (decide (0 ≤ i) && decide (i < (len : Int))) (partD d cs.toList (i.toNat * d.size)) none
  | _, _, _ => none
def fieldAddrD (E : Env) (t : TypeId) (x : Value) (f : Nat) : Option Value :=
  match E.und t, x with
  | some (.struct fields), .pointer (some ⟨b, o, none⟩) =>
    (fields[f]?).bind fun d => match E.size d.type with | some (_ + 1) => some (.pointer (some ⟨b, o + d.offset, none⟩)) | _ => none
  | _, _ => none
def fieldD (E : Env) (t : TypeId) (x : Value) (f : Nat) : Option Value :=
  match E.und t, x with
  | some (.struct fields), .agg cs => (fields[f]?).bind fun d => (E.inf d.type).bind fun i => partD i cs.toList d.offset
  | _, _ => none
def bytesOfS (s : ByteArray) : List Value := s.data.toList.map fun b => .int .u8 b.toNat
def byteOfV : Value → Option UInt8
  | .int .u8 n => some (UInt8.ofNat n.toNat)
  | _ => none
def convertD (E : Env) (S : St) (src dst : TypeId) (x : Value) : Option (Value × St) :=
  match E.und src, E.und dst, x with
  | some _, some (.int k), .int _ n => some (.int k (wrapD k n), S)
  | some .string, some .string, .string s => some (.string s, S)
  | some _, some (.slice e), .string s =>
    match E.und e with
    | some (.int .u8) =>
      cond (Nat.blt s.data.toList.length 9223372036854775807) (some (.slice (some ⟨S.next, 0, none⟩) s.data.toList.length inex, (S.alloc (.cells (bytesOfS s) (some 1) false (some (0, 0)))).2)) none
    | _ => none
  | some (.slice e), some .string, .slice a len _ =>
    match E.und e with
    | some (.int .u8) =>
      match a with
      | none => some (.string ⟨#[]⟩, S)
      | some ⟨b, o, none⟩ => cond (Nat.beq len 0) (some (.string ⟨#[]⟩, S)) ((S.loadN b o len).bind fun l => (l.mapM byteOfV).map fun bs => (.string ⟨bs.toArray⟩, S))
      | _ => none
    | _ => none
  | some (.slice _), some (.slice e), .slice (some ⟨b, o, none⟩) len cap =>
    cond (Nat.beq src dst && !Nat.beq cap 0 && !Nat.beq cap inex)
      (match E.und e, S.heap.get b with
       | some (.int .u8), some (.cells cs more false none) => some (.slice (some ⟨b, o, none⟩) len cap, S.upd b (.cells cs more false (some (0, 0))))
       | _, _ => none) none
  | _, _, _ => none

/-! ### Maps -/
/-- A key that needs no memory. -/
def keyOk : Value → Bool
  | .int _ _ | .string _ | .bool _ => true
  | .agg a => a.toList.all fun v => match v with | .int _ _ | .string _ | .bool _ => true | _ => false
  | _ => false
def keyEq (E : Env) (S : St) (kt : TypeId) (a b : Value) : Option Bool :=
  match a, b with
  | .agg _, .agg _ => eqD E S 3 kt a b
  | .int k x, .int k' y => cond (kindEq k k') (some (decide (x = y))) none
  | .string x, .string y => some (x.data.toList == y.data.toList)
  | .bool x, .bool y => some (x == y)
  | _, _ => none
def findD (E : Env) (S : St) (kt : TypeId) (k : Value) : List MapEntry → Nat → Option (Option (Nat × MapEntry))
  | [], _ => some none
  | e :: r, i => (keyEq E S kt k e.key).bind fun b => cond b (some (some (i, e))) (findD E S kt k r (i + 1))
/-- May values of the type be keys here? -/
def keyType (E : Env) (kt : TypeId) (k : Value) : Bool :=
  keyOk k &&
  match E.inf kt with
  | some i =>
    match i.und, k with
    | .int _, .int _ _ | .string, .string _ | .bool, .bool _ => true
    | .struct fs, .agg cs => i.noBlank && fs.toList.all fun f =>
        match E.inf f.type with
        | some j => (match j.und with | .int _ | .string | .bool => true | _ => false) && Nat.blt f.offset cs.size
        | none => false
    | _, _ => false
  | none => false
def lookupD (E : Env) (S : St) (t : TypeId) (x k : Value) (ok : Bool) : Option Value :=
  match E.und t with
  | some (.map kt e) =>
    cond (keyType E kt k)
      ((match x with
        | .map none => some none
        | .map (some r) => (match S.heap.get r with | some (.map es _) => findD E S kt k es 0 | _ => none)
        | _ => none).bind fun found =>
        (match found with | some (_, en) => some (en.val, true) | none => (E.zero e).map (·, false)).map fun (v, b) =>
          cond ok (.tuple #[v, .bool b]) v) none
  | _ => none
def mapPut (E : Env) (S : St) (kt : TypeId) (r : Nat) (k v : Value) : Option St :=
  match S.heap.get r with
  | some (.map es clock) =>
    (findD E S kt k es 0).bind fun found =>
    match found with
    | some (i, en) => cond (Instr.sameBits 10000 en.key k) (some (S.upd r (.map (es.modify i fun e => { e with key := k, val := v }) clock))) none
    | none => some (S.upd r (.map (es ++ [{ key := k, val := v, born := clock }]) (clock + 1)))
  | _ => none
def mapUpdateD (E : Env) (S : St) (t : TypeId) (m k v : Value) : Option St :=
  match E.und t, m with
  | some (.map kt _), .map (some r) => cond (keyType E kt k) (mapPut E S kt r k v) none
  | _, _ => none
def mapEntryD (E : Env) (S : St) (t : TypeId) (m k : Value) : Option (Value × St) :=
  match E.und t, m with
  | some (.map kt e), .map (some r) =>
    cond (keyType E kt k)
      (match S.heap.get r with
       | some (.map es clock) =>
         (findD E S kt k es 0).bind fun found =>
         match found with
         | some (i, en) =>
           cond (Instr.sameBits 10000 en.key k)
             (some (.tuple #[en.val, .int .i64 (en.born : Int)], S.upd r (.map (es.modify i fun e => { e with key := k }) clock))) none
         | none => (E.zero e).map fun z => (.tuple #[z, .int .i64 (clock : Int)], S.upd r (.map (es ++ [{ key := k, val := z, born := clock }]) (clock + 1)))
       | _ => none) none
  | _, _ => none
def bornAt (n : Int) : List MapEntry → Nat → Option Nat
  | [], _ => none
  | e :: r, i => cond (decide ((e.born : Int) = n)) (some i) (bornAt n r (i + 1))
def entryStoreD (S : St) (m s v : Value) : Option St :=
  match m, s with
  | .map (some r), .int _ born =>
    match S.heap.get r with
    | some (.map es clock) => (bornAt born es 0).map fun i => S.upd r (.map (es.modify i fun e => { e with val := v }) clock)
    | _ => none
  | _, _ => none

/-! ### Builtins -/
def lenD (E : Env) (S : St) (t : TypeId) (x : Value) : Option Value :=
  match E.und t, x with
  | some .string, .string s => some (.int .i64 (s.data.toList.length : Int))
  | some (.array n _), _ => some (.int .i64 (n : Int))
  | some (.slice _), .slice _ n _ => some (.int .i64 (n : Int))
  | some (.map _ _), .map none => some (.int .i64 0)
  | some (.map _ _), .map (some r) => match S.heap.get r with | some (.map es _) => some (.int .i64 (es.length : Int)) | _ => none
  | _, _ => none
def capD (E : Env) (t : TypeId) (x : Value) : Option Value :=
  match E.und t, x with
  | some (.slice _), .slice _ _ n => cond (Nat.beq n inex) none (some (.int .i64 (n : Int)))
  | _, _ => none
/-- The first n elements' cells of a slice, or the bytes of a string. -/
def firstD (S : St) (size n : Nat) : Value → Option (List Value)
  | .slice none _ _ => cond (Nat.beq n 0) (some []) none
  | .slice (some ⟨b, o, none⟩) _ _ => cond (Nat.beq (n * size) 0) (some []) (S.loadN b o (n * size))
  | .string s => some ((bytesOfS s).take n)
  | _ => none
def lenOfD : Value → Option Nat
  | .slice _ n _ => some n
  | .string s => some s.data.toList.length
  | _ => none
/-- How many cells from o on there are for sure. -/
def roomAt (S : St) (b o : Nat) : Nat :=
  match S.heap.get b with
  | some (.cells cs _ _ _) => cs.length - o
  | _ => 0
def killD (S : St) (b : Nat) : St := S.upd b .dead
/-- What may be appended: a slice, a string. -/
def apK (u : TypeDesc) : Bool := match u with | .slice _ | .string => true | _ => false
/-- The mark of a new row: bytes'. -/
def tagA (E : Env) (e : TypeId) (sz : Nat) : Nat := match E.und e with | some (.int .u8) => cond (Nat.beq sz 1) (e + TB) sz | _ => sz
/-- Rows of these elements bear no mark. -/
def tagOk (E : Env) (e : TypeId) (sz : Nat) : Bool := Nat.blt sz TB && Nat.blt e TB && Nat.beq (tagA E e sz) sz
/-- The mark of a new variable that could be a strings.Builder. -/
def tagN (e : TypeId) : List Value → Option Nat
  | [.pointer none, .slice none 0 0] => some (e + 2 * TB)
  | _ => none
/-- append(s, make(..)...): where there is no room. -/
def appendZD (S : St) (i : DInfo) (xd : TypeDesc) (base : Option Addr) (sLen sCap : Nat) (x : Value) : Option (Value × St) :=
  match xd, base, x with
  | .int _, some ⟨b, o, none⟩, .int _ k =>
    cond (Nat.blt sCap inex && (decide (0 < k) && (Nat.blt sCap (sLen + k.toNat) && (Nat.ble ((sLen + k.toNat) * i.bytes) 17592186044416 && (Nat.ble (sLen + k.toNat) 17592186044416 && (Nat.blt 0 i.size && Nat.blt i.size TB))))))
      (i.zero.bind fun z => cond (Nat.beq (cellsOf z).length i.size)
        ((S.loadN b o (sLen * i.size)).map fun old => (.slice (some ⟨S.next, 0, none⟩) (sLen + k.toNat) inex, (S.alloc (.cells (old ++ zerosD (cellsOf z) k.toNat) (some i.size) false none)).2)) none) none
  | _, _, _ => none
def appendD (E : Env) (S : St) (st xt : TypeId) (s x : Value) : Option (Value × St) :=
  match E.und st, s with
  | some (.slice e), .slice base sLen sCap =>
    match E.inf e, E.und xt with
    | some i, some xd =>
      cond (apK xd)
        (i.zero.bind fun z => (lenOfD x).bind fun n => (firstD S i.size n x).bind fun new =>
          cond (Nat.beq (cellsOf z).length i.size && Nat.blt 0 i.size && Nat.beq new.length (n * i.size) && Nat.ble ((sLen + n) * i.bytes) 17592186044416 && Nat.ble (sLen + n) 17592186044416 && Nat.blt i.size TB && Nat.blt e TB)
          (match base with
          | none =>
            cond (Nat.beq n 0) (some (.slice none sLen sCap, S))
              (some (.slice (some ⟨S.next, 0, none⟩) n inex, (S.alloc (.cells new (some (tagA E e i.size)) false none)).2))
          | some ⟨b, o, none⟩ =>
            cond (Nat.beq n 0) (some (.slice base sLen sCap, S)) (
            cond (Nat.beq sCap inex)
              (match S.heap.get b with
               | some (.cells cs (some sz) ro fz) =>
                 cond (Nat.beq sz i.size || Nat.beq sz (e + TB) && Nat.beq i.size 1) (
                 cond (Nat.ble (o + (sLen + n) * i.size) cs.length)
                   -- it fits for sure
                   ((S.storeN b (o + sLen * i.size) new).map fun S' => (.slice base (sLen + n) inex, S'))
                   -- in place, or anew: the old block is given up
                   (cond (!ro && Nat.ble (o + sLen * i.size) cs.length && new.all St.one && St.fzOk fz (o + sLen * i.size) (n * i.size))
                     (let S1 := S.upd b .dead
                      some (.slice (some ⟨S.next, 0, none⟩) (sLen + n) inex,
                        (S1.alloc (.cells ((cs.drop o).take (sLen * i.size) ++ new) (some (cond (Nat.beq o 0) sz i.size)) false (fz.map fun p => (p.1 - o, p.2 - o)))).2)) none)) none
               | _ => none)
              (cond (Nat.ble (sLen + n) sCap)
                ((S.storeN b (o + sLen * i.size) new).map fun S' => (.slice base (sLen + n) sCap, S'))
                ((S.loadN b o (sLen * i.size)).map fun old =>
                   (.slice (some ⟨S.next, 0, none⟩) (sLen + n) inex, (S.alloc (.cells (old ++ new) (some i.size) false none)).2))))
          | _ => none) none) (appendZD S i xd base sLen sCap x)
    | _, _ => none
  | _, _ => none
def copyD (E : Env) (S : St) (dt : TypeId) (d x : Value) : Option (Value × St) :=
  match E.und dt, d with
  | some (.slice e), .slice base dLen _ =>
    match E.inf e with
    | some i =>
      (lenOfD x).bind fun xl =>
      let n := Nat.min xl dLen
      (firstD S i.size n x).bind fun new =>
      match base with
      | none => some (.int .i64 (n : Int), S)
      | some ⟨b, o, none⟩ => cond (new.isEmpty) (some (.int .i64 (n : Int), S)) ((S.storeN b o new).map fun S' => (.int .i64 (n : Int), S'))
      | _ => none
    | none => none
  | _, _ => none
def deleteD (E : Env) (S : St) (mt : TypeId) (m k : Value) : Option St :=
  match E.und mt, m with
  | some (.map kt _), .map none => cond (keyType E kt k) (some S) none
  | some (.map kt _), .map (some r) =>
    cond (keyType E kt k)
      (match S.heap.get r with
       | some (.map es clock) =>
         (findD E S kt k es 0).map fun found =>
         match found with
         | some (i, _) => S.upd r (.map (es.eraseIdx i) clock)
         | none => S.upd r (.map es clock)
       | _ => none) none
  | _, _ => none
def clearD (E : Env) (S : St) (t : TypeId) (x : Value) : Option St :=
  match E.und t, x with
  | some (.map _ _), .map none => some S
  | some (.map _ _), .map (some r) =>
    match S.heap.get r with
    | some (.map _ clock) => some (S.upd r (.map [] clock))
    | _ => none
  | some (.slice _), .slice none _ _ => some S
  | some (.slice e), .slice (some ⟨b, o, none⟩) n _ =>
    match E.inf e with
    | some i => i.zero.bind fun z => cond (Nat.beq n 0) (some S) (S.storeN b o (zerosD (cellsOf z) n))
    | none => none
  | _, _ => none
def minmaxD (mx : Bool) : Value → List Value → Option Value
  | x, [] => some x
  | .int k a, .int k' b :: r => cond (kindEq k k') (minmaxD mx (.int k (cond mx (cond (decide (b > a)) b a) (cond (decide (b < a)) b a))) r) none
  | _, _ => none

/-! ### One operation -/
inductive DN where
  | val (v : Value) (S : St)
  | skip (S : St)
  | enter (f : Nat) (args : List Value) (S : St)
  | yield (l : Nat) (args : List Value) (S : St)

def builtinD (E : Env) (S : St) (b : Builtin) (ts : Array TypeId) (args : List Value) : Option (Value × St) :=
  match b, args with
  | .len, [x] => (ts[0]?).bind fun t => (lenD E S t x).map (·, S)
  | .cap, [x] => (ts[0]?).bind fun t => (capD E t x).map (·, S)
  | .append, [s, x] => (ts[0]?).bind fun t => (ts[1]?).bind fun u => appendD E S t u s x
  | .copy, [d, x] => (ts[0]?).bind fun t => copyD E S t d x
  | .delete, [m, k] => (ts[0]?).bind fun t => (deleteD E S t m k).map (.tuple #[], ·)
  | .clear, [x] => (ts[0]?).bind fun t => (clearD E S t x).map (.tuple #[], ·)
  | .max, x :: r => (minmaxD true x r).map (·, S)
  | .min, x :: r => (minmaxD false x r).map (·, S)
  | _, _ => none
def partsD (E : Env) (A : Ac) : List (Nat × Operand) → Option (List (Nat × Value))
  | [] => some []
  | (i, x) :: r => (A.eval E x).bind fun v => (partsD E A r).map ((i, v) :: ·)
def optD (E : Env) (A : Ac) : Option Operand → Option (Option Value)
  | none => some none
  | some x => (A.eval E x).map some
def notYield : Fn → Bool
  | .yield _ => false
  | _ => true
def ofP (x : Option (Value × St)) : Option DN := x.map fun p => .val p.1 p.2
def ofV (S : St) (x : Option Value) : Option DN := x.map fun v => .val v S
def ofS (x : Option St) : Option DN := x.map .skip
def calleeD (S : St) (args : List Value) : Value → Option DN
  | .func (.func g) first captured => some (.enter g (first.toList ++ args ++ captured.toList) S)
  | .func (.yield l) _ _ => some (.yield l args S)
  | _ => none
def callD (E : Env) (A : Ac) (S : St) (c : Call) : Option DN :=
  (A.evals E c.args.toList).bind fun args =>
  match c.callee with
  | .builtin b => ofP (builtinD E S b c.argTypes args)
  | .value f => (A.eval E f).bind (calleeD S args)
  | .invoke _ _ => none
def pickD (E : Env) (A : Ac) (a b : Operand) : Value → Option Value
  | .bool t => cond t (A.eval E a) (A.eval E b)
  | _ => none
def nilD : Value → Option Value
  | .pointer (some a) => some (.pointer (some a))
  | .func (.func f) fs cs => some (.func (.func f) fs cs)
  | .func (.yield f) fs cs => some (.func (.yield f) fs cs)
  | _ => none
def extractD (i : Nat) : Value → Option Value
  | .tuple vs => vs.toList[i]?
  | _ => none
def ifaceD (E : Env) (t : TypeId) (v : Value) : Option Value :=
  match E.und t with
  | some (.interface _) => none
  | some _ => some (.iface t v)
  | none => none
def hintOk (E : Env) (t : TypeId) : Option Value → Bool
  | none => true
  | some (.int _ _) => match E.und t with | some (.map _ _) => true | _ => false
  | _ => false
/-- Going through a map: where one entry at most is left. -/
def rangeD (E : Env) (S : St) (t : TypeId) (v : Value) : Option (Value × St) :=
  match E.und t, v with
  | some (.map _ _), .map none => some (.pointer (some ⟨S.next, 0, none⟩), (S.alloc (.iter none 0 [] 0)).2)
  | some (.map _ _), .map (some b) =>
    match S.heap.get b with
    | some (.map _ clock) => some (.pointer (some ⟨S.next, 0, none⟩), (S.alloc (.iter (some b) clock [] clock)).2)
    | _ => none
  | _, _ => none
def leftD (seen : List Nat) (es : List MapEntry) : List MapEntry := es.filter fun e => !(seen.any fun n => Nat.beq n e.born)
def goneB (seen : List Nat) (es : List MapEntry) (last : Nat) : Bool := !seen.isEmpty && (!es.isEmpty && es.all fun e => Nat.ble last e.born)
def nextD (S : St) (v : Value) (str : Bool) : Option (Value × St) :=
  match v, str with
  | .pointer (some ⟨r, 0, none⟩), false =>
    match S.heap.get r with
    | some (.iter none _ _ _) => some (.tuple #[.bool false], S)
    | some (.iter (some b) since seen last) =>
      match S.heap.get b with
      | some (.map es clock) =>
        cond (goneB seen es last) none
          (match leftD seen es with
           | [] => some (.tuple #[.bool false], S)
           | [e] => cond (Nat.blt e.born since) (some (.tuple #[.bool true, e.key, e.val], S.upd r (.iter (some b) since (seen ++ [e.born]) clock))) none
           | _ => none)
      | _ => none
    | _ => none
  | _, _ => none
def lastD : List Nat → Option Nat
  | [] => none
  | [n] => some n
  | _ :: r => lastD r
/-- The entry that was told last. -/
def entryD (S : St) (v : Value) : Option Value :=
  match v with
  | .pointer (some ⟨r, 0, none⟩) =>
    match S.heap.get r with
    | some (.iter (some b) _ seen last) =>
      match S.heap.get b with
      | some (.map es clock) => cond (Nat.beq clock last) ((lastD seen).bind fun n => (es.find? fun e => Nat.beq e.born n).map fun e => .tuple #[e.key, e.val]) none
      | _ => none
    | _ => none
  | _ => none
def newD (S : St) (o : DObj) (v : Nat → Value) : DN := .val (v S.next) (S.alloc o).2
def opD (E : Env) (A : Ac) (S : St) (o : Op) : Option DN :=
  match o with
  | .move x | .assign x => ofV S (A.eval E x)
  | .pick c a b => (A.eval E c).bind fun v => ofV S (pickD E A a b v)
  | .alloc e => (E.zero e).map fun z => newD S (.cells (cellsOf z) (tagN e (cellsOf z)) false none) fun b => .pointer (some ⟨b, 0, none⟩)
  | .box _ x => (A.eval E x).map fun v => newD S (.cells (cellsOf v) none false none) fun b => .pointer (some ⟨b, 0, none⟩)
  | .build t ps => (partsD E A ps.toList).bind fun parts => ofV S (buildD E t parts)
  | .buildSlice t n ps => (partsD E A ps.toList).bind fun parts => ofP (buildSliceD E S t n parts)
  | .load t a => (A.eval E a).bind fun v => ofV S (loadV E S t v)
  | .store t a x => (A.eval E a).bind fun p => (A.eval E x).bind fun v => ofS (storeV E S t p v)
  | .nilCheck x => (A.eval E x).bind fun v => ofV S (nilD v)
  | .binOp op t x y _ => (A.eval E x).bind fun a => (A.eval E y).bind fun b => ofV S (binD E S op t x y a b)
  | .unOp op _ x => (A.eval E x).bind fun v => ofV S (unD op v)
  | .convert s d x => (A.eval E x).bind fun v => ofP (convertD E S s d v)
  | .makeInterface t x => (A.eval E x).bind fun v => ofV S (ifaceD E t v)
  | .makeFunc fn first captured =>
    (A.evals E first.toList).bind fun fs => (A.evals E captured.toList).bind fun cs =>
      cond (notYield fn) (some (.val (.func fn fs.toArray cs.toArray) S)) none
  | .makeMap t r => (optD E A r).bind fun h => cond (hintOk E t h) (some (newD S (.map [] 0) fun b => .map (some b))) none
  | .makeSlice t l c => (A.eval E l).bind fun ln => (A.eval E c).bind fun cp => ofP (makeSliceD E S t ln cp)
  | .slice t x lo hi mx =>
    (A.eval E x).bind fun v => (optD E A lo).bind fun l => (optD E A hi).bind fun h => (optD E A mx).bind fun m => ofV S (sliceD E S t v l h m)
  | .fieldAddr t x f => (A.eval E x).bind fun v => ofV S (fieldAddrD E t v f)
  | .field t x f => (A.eval E x).bind fun v => ofV S (fieldD E t v f)
  | .indexAddr t x i => (A.eval E x).bind fun v => (A.eval E i).bind fun j => ofV S (indexAddrD E t v j)
  | .index t x i => (A.eval E x).bind fun v => (A.eval E i).bind fun j => ofV S (indexD E t v j)
  | .lookup t x k ok => (A.eval E x).bind fun v => (A.eval E k).bind fun j => ofV S (lookupD E S t v j ok)
  | .mapUpdate t m k x | .insert t m k x => (A.eval E m).bind fun v => (A.eval E k).bind fun j => (A.eval E x).bind fun u => ofS (mapUpdateD E S t v j u)
  | .mapEntry t m k => (A.eval E m).bind fun v => (A.eval E k).bind fun j => ofP (mapEntryD E S t v j)
  | .entryStore _ m s x => (A.eval E m).bind fun v => (A.eval E s).bind fun j => (A.eval E x).bind fun u => ofS (entryStoreD S v j u)
  | .extract t i => (A.eval E t).bind fun v => ofV S (extractD i v)
  | .range t x => (A.eval E x).bind fun v => ofP (rangeD E S t v)
  | .next it str => (A.eval E it).bind fun v => ofP (nextD S v str)
  | .entry it => (A.eval E it).bind fun v => ofV S (entryD S v)
  | .call c => callD E A S c
  | _ => none

/-! ### Code -/
/-- The runner of one level below: of code. -/
abbrev Runner := Code → Ac → St → Option (Exit × Ac × St)

def resultD (E : Env) (S : St) (A : Ac) : ResultVar → Option Value
  | .tmp t => some (A.get t)
  | .cell a t => loadV E S t (A.get a)
def resultsD (E : Env) (S : St) (A : Ac) : List ResultVar → Option (List Value)
  | [] => some []
  | r :: rs => (resultD E S A r).bind fun v => (resultsD E S A rs).map (v :: ·)
def tupleD : List Value → Value
  | [v] => v
  | vs => .tuple vs.toArray
/-- The marks of the loops over functions are taken off. -/
def shutD : List Nat → St → Option St
  | [], S => some S
  | d :: r, S => match S.heap.get d with | some .deferred => shutD r (S.upd d .dead) | _ => none
def leaveD (E : Env) (fn : Func) (A : Ac) (S : St) : Option (Value × St) :=
  (shutD A.defers S).bind fun S2 => (resultsD E S2 A fn.results.toList).map fun vs => (tupleD vs, S2)
def bodyF (E : Env) (run : Runner) (fn : Func) (c : Code) (args : List Value) (S : St) : Option (Value × St) :=
  match run c { regs := PM.ofList args 0 .leaf, n := args.length + (fn.ntmps - args.length), defers := [], rd := none } S with
  | some (.normal, A, S') => leaveD E fn A S'
  | some (.ret, A, S') => leaveD E fn A S'
  | _ => none
def callF (E : Env) (run : Runner) (f : Nat) (args : List Value) (S : St) : Option (Value × St) :=
  match E.prim f with
  | some p => p args S
  | none =>
    match E.fn f with
    | some fn =>
      match fn.body with
      | some c => bodyF E run fn c args S
      | none => none
    | none => none
def putAll : List Tmp → List Value → Ac → Option Ac
  | [], [], A => some A
  | t :: ts, v :: vs, A => (A.put (some t) v).bind (putAll ts vs)
  | _, _, _ => none
def isReady : LoopState → Bool
  | .ready => true
  | _ => false
def isBusy : LoopState → Bool
  | .busy => true
  | _ => false
def endRoundD (l : Nat) (e : Exit) (S : St) : Option (Value × St) :=
  match S.heap.get l with
  | some (.loop r) =>
    (match e with
     | .normal => some (.bool true, S.upd l (.loop { r with state := .ready, pending := none }))
     | .ret => some (.bool false, S.upd l (.loop { r with state := .done, pending := some .ret }))
     | .exit id => some (.bool false, S.upd l (.loop { r with state := .done, pending := some (.exit id) }))
     | _ => none)
  | _ => none
def roundBody (run : Runner) (l : Nat) (body : Code) (A : Ac) (S : St) : Option (Value × St) :=
  match S.heap.get l with
  | some (.loop r) =>
    cond (isReady r.state)
      (match run body A (S.upd l (.loop { r with state := .busy })) with
       | some (e, _, S2) => endRoundD l e S2
       | none => none) none
  | _ => none
/-- One round of a loop over a function. -/
def roundF (run : Runner) (l : Nat) (args : List Value) (S : St) : Option (Value × St) :=
  match S.heap.get l with
  | some (.loop r) =>
    (putAll r.params.toList args { regs := r.regs, n := r.n, defers := [], rd := some l }).bind fun A =>
      match run r.assign A S with
      | some (.normal, A1, S1) => roundBody run l r.body A1 S1
      | _ => none
  | _ => none
def contD (E : Env) (run : Runner) (dst : Option Tmp) (A : Ac) : DN → Option (Ac × St)
  | .val v S => (A.put dst v).map (·, S)
  | .skip S => (A.put dst undef).map (·, S)
  | .enter f args S => (callF E run f args S).bind fun p => (A.put dst p.1).map (·, p.2)
  | .yield l args S => (roundF run l args S).bind fun p => (A.put dst p.1).map (·, p.2)
/-- Is the operation wanted? (its guard) -/
def wantedD (ops : Array Oper) (A : Ac) (o : Oper) : Bool :=
  match o.guard with
  | none => true
  | some (j, want) =>
    match (ops[j]?).bind (·.dst) with
    | some t => cond (Nat.blt t A.n) (match A.get t with | .bool b => b == want | _ => false) false
    | none => false
def oneD (E : Env) (run : Runner) (ops : Array Oper) (o : Oper) (A : Ac) (S : St) : Option (Ac × St) :=
  cond (wantedD ops A o) ((opD E A S o.op).bind (contD E run o.dst A)) ((A.put o.dst undef).map (·, S))
def opsD (E : Env) (run : Runner) (ops : Array Oper) : List Oper → Ac → St → Option (Ac × St)
  | [], A, S => some (A, S)
  | o :: r, A, S =>
    match oneD E run ops o A S with
    | some (A', S') => opsD E run ops r A' S'
    | none => none
def loopD (run : Runner) (c : Code) : Nat → Ac → St → Option (Exit × Ac × St)
  | 0, _, _ => none
  | k + 1, A, S =>
    match run c A S with
    | some (.normal, A', S') => loopD run c k A' S'
    | r => r
/-- Behind a loop over a function: the jump that a round left. -/
def endLoopD (l : Nat) (A : Ac) (S : St) : Option (Exit × Ac × St) :=
  match S.heap.get l with
  | some (.loop r) =>
    cond (isBusy r.state) none
      (match r.pending with
       | none => some (.normal, A, S.upd l (.loop { r with state := .exhausted }))
       | some .ret => some (.ret, A, S.upd l (.loop { r with state := .exhausted }))
       | some (.exit id) => some (.exit id, A, S.upd l (.loop { r with state := .exhausted }))
       | _ => none)
  | _ => none
def rangeGo (E : Env) (run : Runner) (g : Value) (l : Nat) (A : Ac) (S : St) : Option (Exit × Ac × St) :=
  match g with
  | .func (.func f) first captured =>
    match E.prim f with
    | some _ => none
    | none => (callF E run f (first.toList ++ [.func (.yield l) #[] #[]] ++ captured.toList) S).bind fun p => endLoopD l A p.2
  | _ => none
def rangeF (E : Env) (run : Runner) (f : Operand) (params : Array Tmp) (assign body : Code) (A : Ac) (S : St) : Option (Exit × Ac × St) :=
  (A.eval E f).bind fun g =>
  match A.rd with
  | none =>
    let S1 := (S.alloc .deferred).2
    let S2 := (S1.alloc (.loop { state := .ready, pending := none, regs := A.regs, n := A.n, params, assign, body, dfr := S.next })).2
    rangeGo E run g S1.next { A with defers := S.next :: A.defers } S2
  | some l =>
    match S.heap.get l with
    | some (.loop r) =>
      rangeGo E run g S.next A (S.alloc (.loop { state := .ready, pending := none, regs := A.regs, n := A.n, params, assign, body, dfr := r.dfr })).2
    | _ => none
def condD (run : Runner) (a b : Code) (A : Ac) (S : St) : Value → Option (Exit × Ac × St)
  | .bool t => run (cond t a b) A S
  | _ => none
def seqD (run : Runner) (b : Code) : Option (Exit × Ac × St) → Option (Exit × Ac × St)
  | some (.normal, A, S) => run b A S
  | r => r
def blockD (id : Nat) : Option (Exit × Ac × St) → Option (Exit × Ac × St)
  | some (.exit i, A, S) => some (cond (Nat.beq i id) .normal (.exit i), A, S)
  | r => r
def scopeD : Option (Exit × Ac × St) → Option (Exit × Ac × St)
  | some (.goto _, _, _) => none
  | r => r
/-- A region whose order is drawn. -/
abbrev Draw := Env → Runner → Array Oper → Ac → St → Option (Ac × St)
def stepD (E : Env) (draw : Draw) (n : Nat) (run : Runner) (c : Code) (A : Ac) (S : St) : Option (Exit × Ac × St) :=
  match c with
  | .skip => some (.normal, A, S)
  | .label _ => some (.normal, A, S)
  | .region _ ops false => (opsD E run ops ops.toList A S).map fun p => (.normal, p.1, p.2)
  | .region _ ops true => (draw E run ops A S).map fun p => (.normal, p.1, p.2)
  | .seq a b => seqD run b (run a A S)
  | .cond c a b => (A.eval E c).bind (condD run a b A S)
  | .block id body => blockD id (run body A S)
  | .loop body => loopD run body n A S
  | .rangeFunc f ps a b => rangeF E run f ps a b A S
  | .exit id => some (.exit id, A, S)
  | .scope body => scopeD (run body A S)
  | .ret => some (.ret, A, S)
  | .goto _ => none
  | .refuse _ => none
def exec (E : Env) (draw : Draw) : Nat → Runner
  | 0 => fun _ _ _ => none
  | n + 1 => fun c A S => stepD E draw n (exec E draw n) c A S

end
end Go.Proofs.Ytcdignblakejoaa.D

/-
  D, part 3: the relation between the abstract heap and the model's, and the steps that keep it.
-/
namespace Go.Proofs.Ytcdignblakejoaa.D

theorem VR.ptrAt {m : Mp} {b o : Nat} {p' : Value} (h : VR m (.pointer (some ⟨b, o, none⟩)) p') : ∃ x, m b = some x := by
  cases h with
  | ptr _ _ y hy => exact ⟨y, hy⟩

theorem VR.mpAt {m : Mp} {b : Nat} {p' : Value} (h : VR m (.map (some b)) p') : ∃ x, m b = some x := by
  cases h with
  | mp _ y hy => exact ⟨y, hy⟩
theorem VR.slAt {m : Mp} {b o l c : Nat} {p' : Value} (h : VR m (.slice (some ⟨b, o, none⟩) l c) p') (hn : l ≠ 0 ∨ c ≠ 0) : ∃ x, m b = some x := by
  cases h with
  | sl _ _ _ _ y hy _ _ => exact ⟨y, hy⟩
  | slx _ _ _ _ y hy _ _ => exact ⟨y, hy⟩
  | sle _ _ a y hy _ => exact ⟨y, hy⟩
  | slz _ _ a => simp at hn

/-! ### Entries of a map, the record of a loop -/
structure ER (m : Mp) (e e' : MapEntry) : Prop where
  key : VR m e.key e'.key
  val : VR m e.val e'.val
  born : e.born = e'.born
inductive ERs (m : Mp) : List MapEntry → List MapEntry → Prop
  | nil : ERs m [] []
  | cons {e e' : MapEntry} {l l' : List MapEntry} : ER m e e' → ERs m l l' → ERs m (e :: l) (e' :: l')
theorem ER.mono {m m' : Mp} (h : m.le m') {e e' : MapEntry} (r : ER m e e') : ER m' e e' := ⟨r.key.mono h, r.val.mono h, r.born⟩
namespace ERs
variable {m m' : Mp}
theorem mono (h : m.le m') {l l' : List MapEntry} (r : ERs m l l') : ERs m' l l' := by
  induction r with
  | nil => exact .nil
  | cons h1 _ ih => exact .cons (h1.mono h) ih
theorem length {l l' : List MapEntry} (r : ERs m l l') : l.length = l'.length := by
  induction r with
  | nil => rfl
  | cons _ _ ih => simp [ih]
theorem snoc {l l' : List MapEntry} (r : ERs m l l') {e e' : MapEntry} (h : ER m e e') : ERs m (l ++ [e]) (l' ++ [e']) := by
  induction r with
  | nil => exact .cons h .nil
  | cons h1 _ ih => exact .cons h1 ih
theorem modify {l l' : List MapEntry} (r : ERs m l l') {f f' : MapEntry → MapEntry} (hf : ∀ e e', ER m e e' → ER m (f e) (f' e')) : ∀ i, ERs m (l.modify i f) (l'.modify i f') := by
  induction r with
  | nil => intro i; cases i <;> simp <;> exact .nil
  | cons h1 h2 ih =>
    intro i; cases i with
    | zero => simp; exact .cons (hf _ _ h1) h2
    | succ i => simp; exact .cons h1 (ih i)
theorem erase {l l' : List MapEntry} (r : ERs m l l') : ∀ i, ERs m (l.eraseIdx i) (l'.eraseIdx i) := by
  induction r with
  | nil => intro i; simp; exact .nil
  | cons h1 h2 ih =>
    intro i; cases i with
    | zero => simp; exact h2
    | succ i => simp; exact .cons h1 (ih i)
theorem get {l l' : List MapEntry} (r : ERs m l l') : ∀ {i : Nat} {e : MapEntry}, l[i]? = some e → ∃ e', l'[i]? = some e' ∧ ER m e e' := by
  induction r with
  | nil => intro i e h; simp at h
  | cons h1 _ ih =>
    intro i e h
    cases i with
    | zero => simp at h; subst h; exact ⟨_, by simp, h1⟩
    | succ i => simp at h; obtain ⟨e', h', hr⟩ := ih h; exact ⟨e', by simpa using h', hr⟩
end ERs

/-- Temporaries. -/
structure TR (m : Mp) (regs : PM Value) (n : Nat) (tmps : Array Value) : Prop where
  size : tmps.size = n
  reg : ∀ t, VR m ((regs.get t).getD undef) (tmps.getD t undef)
theorem TR.mono {m m' : Mp} (h : m.le m') {regs : PM Value} {n : Nat} {tmps : Array Value} (r : TR m regs n tmps) : TR m' regs n tmps := ⟨r.size, fun t => (r.reg t).mono h⟩
theorem TR.set {m : Mp} {regs : PM Value} {n : Nat} {tmps : Array Value} (r : TR m regs n tmps) {d : Nat} (hd : d < n) {v v' : Value} (hv : VR m v v') :
    TR m (regs.set d v) n (tmps.setIfInBounds d v') := by
  refine ⟨by simp [r.size], fun t => ?_⟩
  rw [PM.get_set]
  by_cases h : t = d
  · subst h
    rw [if_pos rfl]
    have : t < tmps.size := by rw [r.size]; exact hd
    simpa [Array.getD_eq_getD_getElem?, this] using hv
  · rw [if_neg h]
    have := r.reg t
    simpa [Array.getD_eq_getD_getElem?, Array.getElem?_setIfInBounds_ne (Ne.symm h)] using this

structure LR (m : Mp) (r : DLoop) (r' : Loop) : Prop where
  state : r'.state = r.state
  pending : r'.pending = r.pending
  tmps : TR m r.regs r.n r'.tmps
  params : r'.params = r.params
  assign : r'.assign = r.assign
  body : r'.body = r.body
  dfr : ∃ x, m r.dfr = some x ∧ x.blk = r'.defers
theorem LR.mono {m m' : Mp} (h : m.le m') {r : DLoop} {r' : Loop} (l : LR m r r') : LR m' r r' :=
  ⟨l.state, l.pending, l.tmps.mono h, l.params, l.assign, l.body, let ⟨x, h1, h2⟩ := l.dfr; ⟨x, h _ _ h1, h2⟩⟩

/-! ### The heap -/
def FZ (fz : Option (Nat × Nat)) (x : BM) (fr : Nat × Nat) : Prop :=
  match fz with
  | none => fr = (0, 0)
  | some p => ∀ i, fr.1 ≤ i → i < fr.2 → x.base ≤ i → i < x.tot → p.1 ≤ i - x.base ∧ i - x.base < p.2

/-- What a row's number says: its elements' cells; or the type of its block (with spare cells; without). -/
def TY (x : BM) (n e s : Nat) : Prop := x.sz = szT s ∧ (TB ≤ s → x.base = 0) ∧ (TB ≤ s → s < 2 * TB → e + TB = s) ∧ (2 * TB ≤ s → e + 2 * TB = s ∧ x.tot = n) ∧ (2 ≤ s → s < TB → x.tot ≤ 9223372036854775807 * s)
theorem TY.low {x : BM} {n e s : Nat} (h : x.sz = s) (hs : s < TB) (hb : 2 ≤ s → x.tot ≤ 9223372036854775807 * s) : TY x n e s :=
  ⟨by rw [szT_lt hs]; exact h, fun hh => by omega, fun hh => by omega, fun hh => by omega, fun hh _ => hb hh⟩
theorem TY.row {x : BM} {n e : Nat} (h : x.base = 0) (h1 : x.sz = szT (e + TB)) (he : Nat.blt e TB = true) : TY x n e (e + TB) := by
  have := Nat.blt_eq.mp he
  exact ⟨h1, fun _ => h, fun _ _ => rfl, fun hh => by omega, fun _ hh => by omega⟩
theorem TY.var {x : BM} {n e : Nat} (h : x.base = 0) (h1 : x.sz = 1) (h2 : x.tot = n) : TY x n e (e + 2 * TB) :=
  ⟨by rw [h1, szT_ge (by omega)], fun _ => h, fun _ _ => by omega, fun _ => ⟨rfl, h2⟩, fun _ hh => by omega⟩
def IR (m : Mp) : Option Nat → Option Nat → Prop
  | none, none => True
  | some b, some r => ∃ y, m b = some y ∧ y.blk = r
  | _, _ => False
theorem IR.mono {m m' : Mp} (h : m.le m') : ∀ {a b : Option Nat}, IR m a b → IR m' a b
  | none, none, _ => trivial
  | some _, some _, ⟨y, h1, h2⟩ => ⟨y, h _ _ h1, h2⟩
  | none, some _, k => k.elim
  | some _, none, k => k.elim
def OR (m : Mp) (x : BM) (o : DObj) (c : Option Obj) : Prop :=
  match o with
  | .cells cs more _ fz => ∃ ccs e fr, c = some (.cells ccs e fr) ∧ ccs.size = x.tot ∧ x.base + cs.length ≤ x.tot ∧
      VRs m cs ((ccs.toList.drop x.base).take cs.length) ∧ FZ fz x fr ∧ ∀ s, more = some s → TY x cs.length e s
  | .map es clock => ∃ ces, c = some (.map ces clock) ∧ ERs m es ces.toList
  | .loop r => ∃ r', c = some (.loop r') ∧ LR m r r'
  | .iter mp since seen last => x.base = 0 ∧ ∃ r, c = some (.mapIter r since seen.toArray last) ∧ IR m mp r
  | .deferred => c = some (.deferred (some []))
  | .dead => True
theorem OR.mono {m m' : Mp} (h : m.le m') {x : BM} {o : DObj} {c : Option Obj} (r : OR m x o c) : OR m' x o c := by
  cases o with
  | cells cs more ro fz => obtain ⟨ccs, e, fr, h1, h2, h3, h4, h5⟩ := r; exact ⟨ccs, e, fr, h1, h2, h3, h4.mono h, h5⟩
  | map es clock => obtain ⟨ces, h1, h2⟩ := r; exact ⟨ces, h1, h2.mono h⟩
  | loop l => obtain ⟨r', h1, h2⟩ := r; exact ⟨r', h1, h2.mono h⟩
  | iter mp since seen last => obtain ⟨h0, r', h1, h2⟩ := r; exact ⟨h0, r', h1, h2.mono h⟩
  | deferred => exact r
  | dead => trivial

structure HR (E : Env) (m : Mp) (S : St) (w : World) : Prop where
  dom : ∀ b x, m b = some x → b < S.next
  glob : ∀ g, g < E.globs → ∃ x, m g = some x ∧ x.blk = g ∧ x.base = 0
  obj : ∀ b o x, S.heap.get b = some o → o.live = true → m b = some x → OR m x o w.heap[x.blk]?
  inj : ∀ b b' o o' x x', S.heap.get b = some o → S.heap.get b' = some o' → o.live = true → o'.live = true → b ≠ b' → (o.wr = true ∨ o'.wr = true) →
    m b = some x → m b' = some x' → x.blk ≠ x'.blk

/-- The blocks that the run may write. -/
def Own (m : Mp) (S : St) (c : Nat) : Prop := ∃ b o x, S.heap.get b = some o ∧ o.wr = true ∧ m b = some x ∧ x.blk = c

structure Fr (m : Mp) (S : St) (w : World) (m' : Mp) (S' : St) (w' : World) : Prop where
  le : m.le m'
  size : w.heap.size ≤ w'.heap.size
  os : w'.os = w.os
  tape : w'.tape = w.tape
  output : w'.output = w.output
  keep : ∀ c, c < w.heap.size → ¬ Own m S c → w'.heap[c]? = w.heap[c]?
  own : ∀ c, c < w.heap.size → Own m' S' c → Own m S c
  next : S.next ≤ S'.next
  /-- What has no place in the model's heap yet stays as it is. -/
  free : ∀ b, b < S.next → m b = none → m' b = none ∧ S'.heap.get b = S.heap.get b
theorem Fr.refl (m : Mp) (S : St) (w : World) : Fr m S w m S w := ⟨Mp.le_refl m, Nat.le_refl _, rfl, rfl, rfl, fun _ _ _ => rfl, fun _ _ h => h, Nat.le_refl _, fun _ _ h => ⟨h, rfl⟩⟩
theorem Fr.trans {m m' m'' : Mp} {S S' S'' : St} {w w' w'' : World} (h : Fr m S w m' S' w') (k : Fr m' S' w' m'' S'' w'') : Fr m S w m'' S'' w'' :=
  ⟨Mp.le_trans h.le k.le, Nat.le_trans h.size k.size, k.os.trans h.os, k.tape.trans h.tape, k.output.trans h.output,
   fun c hc hn => (k.keep c (Nat.lt_of_lt_of_le hc h.size) fun ho => hn (h.own c hc ho)).trans (h.keep c hc hn),
   fun c hc ho => h.own c hc (k.own c (Nat.lt_of_lt_of_le hc h.size) ho), Nat.le_trans h.next k.next,
   fun b hb hn => have g := h.free b hb hn; have g2 := k.free b (Nat.lt_of_lt_of_le hb h.next) g.1; ⟨g2.1, g2.2.trans g.2⟩⟩

section
variable {E : Env} {m : Mp} {S : St} {w : World}

theorem DObj.live_of_wr {o : DObj} (h : o.wr = true) : o.live = true := by cases o <;> simp_all [DObj.wr, DObj.live]

/-- Only the heap counts. -/
theorem HR.of_heap {w' : World} (h : HR E m S w) (e : w'.heap = w.heap) : HR E m S w' := ⟨h.dom, h.glob, by rw [e]; exact h.obj, h.inj⟩
theorem HR.drew (h : HR E m S w) : HR E m S w.drew := h.of_heap rfl
theorem Fr.of_heap {w' : World} (e : w'.heap = w.heap) (h1 : w'.os = w.os) (h2 : w'.tape = w.tape) (h3 : w'.output = w.output) : Fr m S w m S w' :=
  ⟨Mp.le_refl m, by rw [e]; exact Nat.le_refl _, h1, h2, h3, fun _ _ _ => by rw [e], fun _ _ h => h, Nat.le_refl _, fun _ _ h => ⟨h, rfl⟩⟩
theorem Fr.drew : Fr m S w m S w.drew := .of_heap rfl rfl rfl rfl

theorem HR.fresh (h : HR E m S w) : m S.next = none := by
  cases e : m S.next with
  | none => rfl
  | some x => exact absurd (h.dom _ _ e) (Nat.lt_irrefl _)

/-- A live block that is written lies in the model's heap. -/
theorem OR.lt {x : BM} {o : DObj} (hl : o.live = true) (h : OR m x o w.heap[x.blk]?) : x.blk < w.heap.size := by
  rcases Nat.lt_or_ge x.blk w.heap.size with hlt | hge
  · exact hlt
  · have e : w.heap[x.blk]? = none := Array.getElem?_eq_none hge
    rw [e] at h
    cases o with
    | cells cs more ro fz => obtain ⟨_, _, _, h1, _⟩ := h; cases h1
    | map es clock => obtain ⟨_, h1, _⟩ := h; cases h1
    | loop l => obtain ⟨_, h1, _⟩ := h; cases h1
    | iter mp since seen last => obtain ⟨_, _, h1, _⟩ := h; cases h1
    | deferred => cases h
    | dead => cases hl

/-- A new block. -/
theorem HR.alloc (h : HR E m S w) (o : DObj) (O : Obj) (x : BM) (hx : x.blk = w.heap.size) (ho : OR (m.put S.next x) x o (some O)) :
    HR E (m.put S.next x) (S.alloc o).2 (w.alloc O) ∧ Fr m S w (m.put S.next x) (S.alloc o).2 (w.alloc O) := by
  have hf := h.fresh
  have hle : m.le (m.put S.next x) := Mp.le_put hf
  have hold : ∀ c, c < w.heap.size → (w.alloc O).heap[c]? = w.heap[c]? := fun c hc => RowKit.Below.heap_alloc w O c hc
  have hnew : (w.alloc O).heap[w.heap.size]? = some O := World.alloc_heap_new w O
  have hback : ∀ b y, b ≠ S.next → m.put S.next x b = some y → m b = some y := fun b y hb e => by rwa [Mp.put_ne hb] at e
  refine ⟨⟨?_, ?_, ?_, ?_⟩, ⟨hle, by simp, rfl, rfl, rfl, fun c hc _ => hold c hc, ?_, Nat.le_succ _, fun b hb hn => ⟨by rw [Mp.put_ne (by omega)]; exact hn, PM.get_set_ne (by omega)⟩⟩⟩
  · intro b y e
    by_cases hb : b = S.next
    · subst hb; simp [St.alloc]
    · have := h.dom b y (hback b y hb e); simp [St.alloc]; omega
  · intro g hg
    obtain ⟨y, h1, h2⟩ := h.glob g hg
    exact ⟨y, hle _ _ h1, h2⟩
  · intro b o' y hg hl e
    simp only [St.alloc, PM.get_set] at hg
    by_cases hb : b = S.next
    · rw [if_pos hb] at hg; cases hg
      rw [hb] at e; simp at e; subst e
      rw [hx, hnew]; exact ho
    · rw [if_neg hb] at hg
      have h2 := h.obj b o' y hg hl (hback b y hb e)
      rw [hold _ (OR.lt hl h2)]; exact h2.mono hle
  · intro b b' o1 o2 y y' hg hg' hl hl' hne hw e e'
    simp only [St.alloc, PM.get_set] at hg hg'
    by_cases hb : b = S.next
    · by_cases hb' : b' = S.next
      · exact absurd (hb.trans hb'.symm) hne
      · rw [if_neg hb'] at hg'
        have e2 := hback b' y' hb' e'
        have := OR.lt hl' (h.obj b' o2 y' hg' hl' e2)
        rw [hb] at e; simp at e; subst e
        omega
    · rw [if_neg hb] at hg
      have e2 := hback b y hb e
      have hlt := OR.lt hl (h.obj b o1 y hg hl e2)
      by_cases hb' : b' = S.next
      · rw [hb'] at e'; simp at e'; subst e'
        omega
      · rw [if_neg hb'] at hg'
        exact h.inj b b' o1 o2 y y' hg hg' hl hl' hne hw e2 (hback b' y' hb' e')
  · rintro c hc ⟨b, o', y, hg, hw, e, rfl⟩
    simp only [St.alloc, PM.get_set] at hg
    by_cases hb : b = S.next
    · rw [hb] at e; simp at e; subst e; omega
    · rw [if_neg hb] at hg
      exact ⟨b, o', y, hg, hw, hback b y hb e, rfl⟩

/-- A block that had no place in the model's heap is laid there. -/
theorem HR.place (h : HR E m S w) {b : Nat} {o : DObj} (hb : b < S.next) (hg : S.heap.get b = some o) (hm : m b = none) (O : Obj) (x : BM) (hx : x.blk = w.heap.size) (ho : OR (m.put b x) x o (some O)) :
    HR E (m.put b x) S (w.alloc O) ∧ m.le (m.put b x) ∧ (∀ c, c < w.heap.size → (w.alloc O).heap[c]? = w.heap[c]?) ∧ (∀ c, c < w.heap.size → Own (m.put b x) S c → Own m S c) := by
  have hle : m.le (m.put b x) := Mp.le_put hm
  have hold : ∀ c, c < w.heap.size → (w.alloc O).heap[c]? = w.heap[c]? := fun c hc => RowKit.Below.heap_alloc w O c hc
  have hnew : (w.alloc O).heap[w.heap.size]? = some O := World.alloc_heap_new w O
  have hback : ∀ c y, c ≠ b → m.put b x c = some y → m c = some y := fun c y hc e => by rwa [Mp.put_ne hc] at e
  refine ⟨⟨?_, ?_, ?_, ?_⟩, hle, hold, ?_⟩
  · intro c y e
    by_cases hc : c = b
    · rw [hc]; exact hb
    · exact h.dom c y (hback c y hc e)
  · intro g hg
    obtain ⟨y, h1, h2⟩ := h.glob g hg
    exact ⟨y, hle _ _ h1, h2⟩
  · intro c o' y hc hl e
    by_cases hcb : c = b
    · subst hcb
      rw [hg] at hc; cases hc
      simp at e; subst e
      rw [hx, hnew]; exact ho
    · have h2 := h.obj c o' y hc hl (hback c y hcb e)
      rw [hold _ (OR.lt hl h2)]; exact h2.mono hle
  · intro c c' o1 o2 y y' hc hc' hl hl' hne hw e e'
    by_cases hcb : c = b
    · by_cases hcb' : c' = b
      · exact absurd (hcb.trans hcb'.symm) hne
      · have e2 := hback c' y' hcb' e'
        have := OR.lt hl' (h.obj c' o2 y' hc' hl' e2)
        rw [hcb] at e; simp at e; subst e
        omega
    · have e2 := hback c y hcb e
      have hlt := OR.lt hl (h.obj c o1 y hc hl e2)
      by_cases hcb' : c' = b
      · rw [hcb'] at e'; simp at e'; subst e'
        omega
      · exact h.inj c c' o1 o2 y y' hc hc' hl hl' hne hw e2 (hback c' y' hcb' e')
  · rintro c hc ⟨b', o', y, hg', hw, e, rfl⟩
    by_cases hcb : b' = b
    · rw [hcb] at e; simp at e; subst e; omega
    · exact ⟨b', o', y, hg', hw, hback b' y hcb e, rfl⟩

/-- A block that may be written becomes another one; in the model's heap its block alone turns. -/
theorem HR.upd (h : HR E m S w) {b : Nat} {o o' : DObj} {x : BM} {w' : World} (hg : S.heap.get b = some o) (hw : o.wr = true) (hm : m b = some x)
    (ho : OR m x o' w'.heap[x.blk]?) (hsz : w'.heap.size = w.heap.size) (hk : ∀ c, c ≠ x.blk → w'.heap[c]? = w.heap[c]?)
    (h1 : w'.os = w.os) (h2 : w'.tape = w.tape) (h3 : w'.output = w.output) :
    HR E m (S.upd b o') w' ∧ Fr m S w m (S.upd b o') w' := by
  have hl := DObj.live_of_wr hw
  refine ⟨⟨h.dom, h.glob, ?_, ?_⟩, ⟨Mp.le_refl m, by omega, h1, h2, h3, ?_, ?_, Nat.le_refl _, fun c _ hn => ⟨hn, PM.get_set_ne fun e => by rw [e, hm] at hn; cases hn⟩⟩⟩
  · intro c oc y hc hlc hy1
    simp only [St.upd, PM.get_set] at hc
    by_cases hcb : c = b
    · rw [if_pos hcb] at hc; cases hc; subst hcb
      rw [hm] at hy1; cases hy1
      exact ho
    · rw [if_neg hcb] at hc
      have hy2 := h.obj c oc y hc hlc hy1
      have hne := h.inj c b oc o y x hc hg hlc hl hcb (.inr hw) hy1 hm
      rw [hk _ hne]; exact hy2
  · intro c c' oc oc' y y' hc hc' hlc hlc' hne hww e e'
    simp only [St.upd, PM.get_set] at hc hc'
    by_cases hcb : c = b
    · by_cases hcb' : c' = b
      · exact absurd (hcb.trans hcb'.symm) hne
      · rw [if_neg hcb'] at hc'
        subst hcb
        exact h.inj c c' o oc' y y' hg hc' hl hlc' hne (.inl hw) e e'
    · rw [if_neg hcb] at hc
      by_cases hcb' : c' = b
      · subst hcb'
        exact h.inj c c' oc o y y' hc hg hlc hl hne (.inr hw) e e'
      · rw [if_neg hcb'] at hc'
        exact h.inj c c' oc oc' y y' hc hc' hlc hlc' hne hww e e'
  · intro c _ hn
    exact hk c fun e => hn ⟨b, o, x, hg, hw, hm, e.symm⟩
  · rintro c _ ⟨c', oc, y, hc, hwc, e, rfl⟩
    simp only [St.upd, PM.get_set] at hc
    by_cases hcb : c' = b
    · subst hcb; exact ⟨c', o, y, hg, hw, e, rfl⟩
    · rw [if_neg hcb] at hc; exact ⟨c', oc, y, hc, hwc, e, rfl⟩

/-- A block is given up. -/
theorem HR.kill (h : HR E m S w) {b : Nat} {x : BM} (hm : m b = some x) : HR E m (S.upd b .dead) w ∧ Fr m S w m (S.upd b .dead) w := by
  refine ⟨⟨h.dom, h.glob, ?_, ?_⟩, ⟨Mp.le_refl m, Nat.le_refl _, rfl, rfl, rfl, fun _ _ _ => rfl, ?_, Nat.le_refl _, fun c _ hn => ⟨hn, PM.get_set_ne fun e => by rw [e, hm] at hn; cases hn⟩⟩⟩
  · intro c oc y hc hlc hy1
    simp only [St.upd, PM.get_set] at hc
    by_cases hcb : c = b
    · rw [if_pos hcb] at hc; cases hc; cases hlc
    · rw [if_neg hcb] at hc; exact h.obj c oc y hc hlc hy1
  · intro c c' oc oc' y y' hc hc' hlc hlc' hne hww e e'
    simp only [St.upd, PM.get_set] at hc hc'
    by_cases hcb : c = b
    · rw [if_pos hcb] at hc; cases hc; cases hlc
    · rw [if_neg hcb] at hc
      by_cases hcb' : c' = b
      · rw [if_pos hcb'] at hc'; cases hc'; cases hlc'
      · rw [if_neg hcb'] at hc'
        exact h.inj c c' oc oc' y y' hc hc' hlc hlc' hne hww e e'
  · rintro c _ ⟨c', oc, y, hc, hwc, e, rfl⟩
    simp only [St.upd, PM.get_set] at hc
    by_cases hcb : c' = b
    · rw [if_pos hcb] at hc; cases hc; cases hwc
    · rw [if_neg hcb] at hc; exact ⟨c', oc, y, hc, hwc, e, rfl⟩

/-- A block is given up, and turns in the model's heap. -/
theorem HR.killW (h : HR E m S w) {b : Nat} {o : DObj} {x : BM} {w' : World} (hg : S.heap.get b = some o) (hw : o.wr = true) (hm : m b = some x)
    (hsz : w'.heap.size = w.heap.size) (hk : ∀ c, c ≠ x.blk → w'.heap[c]? = w.heap[c]?) (h1 : w'.os = w.os) (h2 : w'.tape = w.tape) (h3 : w'.output = w.output) :
    HR E m (S.upd b .dead) w' ∧ Fr m S w m (S.upd b .dead) w' := by
  have hl := DObj.live_of_wr hw
  refine ⟨⟨h.dom, h.glob, ?_, ?_⟩, ⟨Mp.le_refl m, by omega, h1, h2, h3, ?_, ?_, Nat.le_refl _, fun c _ hn => ⟨hn, PM.get_set_ne fun e => by rw [e, hm] at hn; cases hn⟩⟩⟩
  · intro c oc y hc hlc hy1
    simp only [St.upd, PM.get_set] at hc
    by_cases hcb : c = b
    · rw [if_pos hcb] at hc; cases hc; cases hlc
    · rw [if_neg hcb] at hc
      have hy2 := h.obj c oc y hc hlc hy1
      have hne := h.inj c b oc o y x hc hg hlc hl hcb (.inr hw) hy1 hm
      rw [hk _ hne]; exact hy2
  · intro c c' oc oc' y y' hc hc' hlc hlc' hne hww e e'
    simp only [St.upd, PM.get_set] at hc hc'
    by_cases hcb : c = b
    · rw [if_pos hcb] at hc; cases hc; cases hlc
    · rw [if_neg hcb] at hc
      by_cases hcb' : c' = b
      · rw [if_pos hcb'] at hc'; cases hc'; cases hlc'
      · rw [if_neg hcb'] at hc'
        exact h.inj c c' oc oc' y y' hc hc' hlc hlc' hne hww e e'
  · intro c _ hn
    exact hk c fun e => hn ⟨b, o, x, hg, hw, hm, e.symm⟩
  · rintro c _ ⟨c', oc, y, hc, hwc, e, rfl⟩
    simp only [St.upd, PM.get_set] at hc
    by_cases hcb : c' = b
    · rw [if_pos hcb] at hc; cases hc; cases hwc
    · rw [if_neg hcb] at hc; exact ⟨c', oc, y, hc, hwc, e, rfl⟩

/-- A block is given up, and another one takes its place in the model's heap. -/
theorem HR.move (h : HR E m S w) {b : Nat} {o o' : DObj} {x x' : BM} {w' : World} (hg : S.heap.get b = some o) (hw : o.wr = true) (hm : m b = some x)
    (hx : x'.blk = x.blk) (ho : OR (m.put S.next x') x' o' w'.heap[x.blk]?) (hsz : w'.heap.size = w.heap.size) (hk : ∀ c, c ≠ x.blk → w'.heap[c]? = w.heap[c]?)
    (h1 : w'.os = w.os) (h2 : w'.tape = w.tape) (h3 : w'.output = w.output) :
    HR E (m.put S.next x') ((S.upd b .dead).alloc o').2 w' ∧ Fr m S w (m.put S.next x') ((S.upd b .dead).alloc o').2 w' := by
  have hl := DObj.live_of_wr hw
  have hf := h.fresh
  have hle : m.le (m.put S.next x') := Mp.le_put hf
  have hbn : b ≠ S.next := fun e => by rw [e, hf] at hm; cases hm
  have hback : ∀ b y, b ≠ S.next → m.put S.next x' b = some y → m b = some y := fun b y hb e => by rwa [Mp.put_ne hb] at e
  have hget : ∀ c oc, ((S.upd b .dead).alloc o').2.heap.get c = some oc → oc.live = true → (c = S.next ∧ oc = o') ∨ (c ≠ S.next ∧ c ≠ b ∧ S.heap.get c = some oc) := by
    intro c oc hc hlc
    simp only [St.alloc, St.upd, PM.get_set] at hc
    by_cases h1 : c = S.next
    · rw [if_pos h1] at hc; cases hc; exact .inl ⟨h1, rfl⟩
    · rw [if_neg h1] at hc
      by_cases h2 : c = b
      · rw [if_pos h2] at hc; cases hc; cases hlc
      · rw [if_neg h2] at hc; exact .inr ⟨h1, h2, hc⟩
  refine ⟨⟨?_, ?_, ?_, ?_⟩, ⟨hle, by omega, h1, h2, h3, ?_, ?_, Nat.le_succ _, fun c hc hn => ⟨by rw [Mp.put_ne (by omega)]; exact hn, (PM.get_set_ne (by show c ≠ S.next; omega)).trans (PM.get_set_ne fun e => by rw [e, hm] at hn; cases hn)⟩⟩⟩
  · intro c y e
    show c < S.next + 1
    by_cases hb : c = S.next
    · omega
    · have := h.dom c y (hback c y hb e); omega
  · intro g hgl
    obtain ⟨y, h1, h2⟩ := h.glob g hgl
    exact ⟨y, hle _ _ h1, h2⟩
  · intro c oc y hc hlc e
    rcases hget c oc hc hlc with ⟨rfl, rfl⟩ | ⟨hn, hnb, hc⟩
    · simp at e; subst e; rw [hx]; exact ho
    · have hy1 := hback c y hn e
      have hy2 := h.obj c oc y hc hlc hy1
      have hne := h.inj c b oc o y x hc hg hlc hl hnb (.inr hw) hy1 hm
      rw [hk _ hne]; exact hy2.mono hle
  · intro c c' oc oc' y y' hc hc' hlc hlc' hne hww e e'
    rcases hget c oc hc hlc with ⟨h5, h6⟩ | ⟨hn, hnb, hc0⟩
    · rcases hget c' oc' hc' hlc' with ⟨h5', h6'⟩ | ⟨hn', hnb', hc0'⟩
      · exact absurd (h5.trans h5'.symm) hne
      · rw [h5] at e; simp at e; subst e; rw [hx]
        exact fun e => h.inj c' b oc' o y' x hc0' hg hlc' hl hnb' (.inr hw) (hback _ _ hn' e') hm e.symm
    · rcases hget c' oc' hc' hlc' with ⟨h5', h6'⟩ | ⟨hn', hnb', hc0'⟩
      · rw [h5'] at e'; simp at e'; subst e'; rw [hx]
        exact h.inj c b oc o y x hc0 hg hlc hl hnb (.inr hw) (hback _ _ hn e) hm
      · exact h.inj c c' oc oc' y y' hc0 hc0' hlc hlc' hne hww (hback _ _ hn e) (hback _ _ hn' e')
  · intro c _ hn
    exact hk c fun e => hn ⟨b, o, x, hg, hw, hm, e.symm⟩
  · rintro c _ ⟨c', oc, y, hc, hwc, e, rfl⟩
    rcases hget c' oc hc (DObj.live_of_wr hwc) with ⟨rfl, rfl⟩ | ⟨hn, hnb, hc⟩
    · simp at e; subst e; exact ⟨b, o, x, hg, hw, hm, hx.symm⟩
    · exact ⟨c', oc, y, hc, hwc, hback _ _ hn e, rfl⟩
end

end Go.Proofs.Ytcdignblakejoaa.D

/-
  D, part 4: the program's tables as D sees them; loads and stores, run.
-/
namespace Go.Proofs.Ytcdignblakejoaa.D

theorem cond_some {α : Type} {c : Bool} {x : Option α} {y : α} (h : cond c x none = some y) : c = true ∧ x = some y := by
  cases c with
  | false => cases h
  | true => exact ⟨rfl, h⟩

/-! ### The tables -/
/-- A function that a call may enter. -/
def Enterable (P : Program) (f : Nat) : Prop := ∃ fn, P.funcs[f]? = some fn ∧ fn.body.isNone = false ∧ (fn.name == "runtime.NumGoroutine") = false

structure InfOk (P : Program) (t : TypeId) (d : DInfo) : Prop where
  ex : ∃ i, P.info? t = some i ∧ P.underlying t = some d.und ∧ i.size = d.size ∧ i.bytes = d.bytes ∧ (∀ z, d.zero = some z → i.zero = some z ∧ Plain z) ∧ i.comparable = d.comparable
  eqg : P.eqGuardType P.depth t = d.eqg
  blank : d.noBlank = true → P.stoodInHeld t = false ∧ ∀ fs, d.und = .struct fs → ∀ f ∈ fs.toList, f.name ≠ "_"

structure Env.Ok (E : Env) (P : Program) : Prop where
  inf : ∀ t d, E.inf t = some d → InfOk P t d
  fn : ∀ f fn, E.fn f = some fn → P.funcs[f]? = some fn ∧ (fn.name == "runtime.NumGoroutine") = false

section
variable {E : Env} {P : Program} (hE : E.Ok P) {t : TypeId} {d : DInfo} (h : E.inf t = some d) (w : World)
include hE h
theorem run_typeInfo : ∃ i, (typeInfo t).run P w = .ok i w ∧ i.size = d.size ∧ i.bytes = d.bytes ∧ (∀ z, d.zero = some z → i.zero = some z ∧ Plain z) ∧ i.comparable = d.comparable := by
  obtain ⟨⟨i, h1, h2, h3⟩, _⟩ := hE.inf t d h
  exact ⟨i, by simp [typeInfo, h1], h3⟩
theorem run_und : (underlying t).run P w = .ok d.und w := by
  obtain ⟨⟨i, h1, h2, _⟩, _⟩ := hE.inf t d h
  simp [underlying, h2]
theorem run_size : (sizeOf t).run P w = .ok d.size w := by
  obtain ⟨i, h1, h2, _⟩ := run_typeInfo hE h w
  simp [sizeOf, h1, h2]
theorem run_zero {z : Value} (hz : d.zero = some z) : (zeroValue t).run P w = .ok z w := by
  obtain ⟨i, h1, _, _, h2, _⟩ := run_typeInfo hE h w
  simp [zeroValue, h1, (h2 z hz).1]
theorem zero_plain {z : Value} (hz : d.zero = some z) : Plain z := by
  obtain ⟨⟨i, _, _, _, _, h2, _⟩, _⟩ := hE.inf t d h
  exact (h2 z hz).2
theorem run_isAgg : (isAgg t).run P w = .ok (aggD d.und) w := by
  simp only [isAgg, Sem.run_bind, run_und hE h w, Result.andThen_ok]
  cases d.und <;> rfl
end

/-! ### Rows of the model's heap -/
def splice (l : List Value) (o : Nat) (vs : List Value) : List Value := l.take o ++ (vs ++ l.drop (o + vs.length))
@[simp] theorem splice_nil (l : List Value) (o : Nat) : splice l o [] = l := by simp [splice]
theorem splice_length {l : List Value} {o : Nat} {vs : List Value} (h : o + vs.length ≤ l.length) : (splice l o vs).length = l.length := by
  simp [splice]; omega
theorem splice_cons {l : List Value} {o : Nat} {v : Value} {vs : List Value} (h : o < l.length) : splice (l.set o v) (o + 1) vs = splice l o (v :: vs) := by
  unfold splice
  have h1 : (l.set o v).take (o + 1) = l.take o ++ [v] := by
    rw [List.take_succ_eq_append_getElem (by simpa using h), List.take_set, List.getElem_set_self]
    congr 1
    rw [List.set_eq_of_length_le (by simp; omega)]
  have h2 : (l.set o v).drop (o + 1 + vs.length) = l.drop (o + (v :: vs).length) := by
    rw [List.drop_set_of_lt (by omega)]
    congr 1; simp; omega
  rw [h1, h2]; simp

theorem setCell_putObj {w : World} {b o : Nat} {ccs : Array Value} {e : TypeId} {fr : Nat × Nat} (h : w.heap[b]? = some (.cells ccs e fr)) (v : Value) :
    w.setCell ⟨b, o, none⟩ v = w.putObj b (.cells (ccs.setIfInBounds o v) e fr) := by
  unfold World.setCell World.putObj
  congr 1
  apply Array.ext_getElem?
  intro i
  rw [Array.getElem?_modify, Array.getElem?_setIfInBounds]
  by_cases hi : b = i
  · subst hi
    rw [if_pos rfl, if_pos rfl, h]
    have : b < w.heap.size := (Array.getElem?_eq_some_iff.1 h).1
    simp [this]
  · rw [if_neg hi, if_neg hi]
theorem putObj_putObj (w : World) (b : Nat) (o o' : Obj) : (w.putObj b o).putObj b o' = w.putObj b o' := by
  unfold World.putObj
  simp

section
variable {P : Program} {w : World} {b : Nat} {ccs : Array Value} {e : TypeId} {fr : Nat × Nat} (h : w.heap[b]? = some (.cells ccs e fr))
include h
theorem cell?_row (o : Nat) : w.cell? ⟨b, o, none⟩ = ccs[o]? := by simp [World.cell?, h]
theorem frozen?_row (o : Nat) : w.frozen? ⟨b, o, none⟩ = (decide (fr.1 ≤ o) && decide (o < fr.2)) := by simp [World.frozen?, h]
theorem run_loadCellsFrom (o : Nat) : ∀ (n i : Nat) (acc : Array Value), o + i + n ≤ ccs.size →
    (loadCellsFrom ⟨b, o, none⟩ i n acc).run P w = .ok (acc ++ ((ccs.toList.drop (o + i)).take n).toArray) w := by
  intro n
  induction n with
  | zero => intro i acc _; simp [loadCellsFrom]
  | succ n ih =>
    intro i acc hn
    have hlt : o + i < ccs.size := by omega
    have hadd : (Addr.add ⟨b, o, none⟩ i) = ⟨b, o + i, none⟩ := by
      unfold Addr.add; split
      · rename_i h0; subst h0; rfl
      · rfl
    have hc : w.cell? ⟨b, o + i, none⟩ = some ccs[o + i] := by rw [cell?_row h]; simp [hlt]
    simp only [loadCellsFrom, hadd, Sem.run_bind, run_load, hc, Result.andThen_ok]
    rw [ih (i + 1) _ (by omega)]
    congr 1
    apply Array.ext'
    have : (ccs.toList.drop (o + i)).take (n + 1) = ccs[o + i] :: (ccs.toList.drop (o + (i + 1))).take n := by
      rw [List.drop_eq_getElem_cons (by simpa using hlt), List.take_succ_cons]
      simp [Nat.add_assoc]
    rw [this]; simp
theorem run_loadCells {o n : Nat} (hn : o + n ≤ ccs.size) : (loadCells ⟨b, o, none⟩ n).run P w = .ok ((ccs.toList.drop o).take n).toArray w := by
  unfold loadCells
  rw [run_loadCellsFrom h o n 0 #[] (by omega)]
  simp
end

theorem one_oneCell {v : Value} (h : St.one v = true) : v.oneCell' = true := by cases v <;> simp_all [St.one, Value.oneCell']

theorem run_storeCells {P : Program} {b : Nat} {e : TypeId} {fr : Nat × Nat} : ∀ (vs : List Value) (w : World) (ccs : Array Value) (o i : Nat),
    w.heap[b]? = some (.cells ccs e fr) → o + i + vs.length ≤ ccs.size → (∀ v ∈ vs, v.oneCell' = true) →
    (∀ j, o + i ≤ j → j < o + i + vs.length → (decide (fr.1 ≤ j) && decide (j < fr.2)) = false) →
    (storeCells ⟨b, o, none⟩ vs i).run P w = .ok () (w.putObj b (.cells (splice ccs.toList (o + i) vs).toArray e fr)) := by
  intro vs
  induction vs with
  | nil =>
    intro w ccs o i h _ _ _
    simp only [storeCells, Sem.run_pure, splice_nil]
    have : w.putObj b (.cells ccs.toList.toArray e fr) = w := by
      unfold World.putObj
      have hlt : b < w.heap.size := (Array.getElem?_eq_some_iff.1 h).1
      have : w.heap.setIfInBounds b (.cells ccs.toList.toArray e fr) = w.heap := by
        apply Array.ext_getElem?
        intro j
        rw [Array.getElem?_setIfInBounds]
        by_cases hj : b = j
        · subst hj; rw [if_pos rfl, if_pos hlt, h]
        · rw [if_neg hj]
      rw [this]
    rw [this]
  | cons v vs ih =>
    intro w ccs o i h hn hv hf
    have hlt : o + i < ccs.size := by simp at hn; omega
    have hadd : (Addr.add ⟨b, o, none⟩ i) = ⟨b, o + i, none⟩ := by
      unfold Addr.add; split
      · rename_i h0; subst h0; rfl
      · rfl
    have hc : w.cell? ⟨b, o + i, none⟩ = some ccs[o + i] := by rw [cell?_row h]; simp [hlt]
    have hfz : w.frozen? ⟨b, o + i, none⟩ = false := by rw [frozen?_row h]; exact hf _ (Nat.le_refl _) (by simp)
    simp only [storeCells, hadd, Sem.run_bind, run_store P w _ _ _ (hv v (by simp)), hc, hfz]
    simp only [Bool.false_eq_true, if_false, Result.andThen_ok]
    rw [setCell_putObj h]
    have hb : b < w.heap.size := (Array.getElem?_eq_some_iff.1 h).1
    rw [ih _ (ccs.setIfInBounds (o + i) v) o (i + 1) (World.putObj_heap_same hb) (by simp at hn ⊢; omega) (fun u hu => hv u (by simp [hu]))
      (fun j h1 h2 => hf j (by omega) (by simp; omega)), putObj_putObj]
    congr 3
    have : (ccs.setIfInBounds (o + i) v).toList = ccs.toList.set (o + i) v := by simp
    rw [this, show o + (i + 1) = (o + i) + 1 from rfl, splice_cons (by simpa using hlt)]

/-! ### Loads and stores of D -/
theorem VRs.splice {m : Mp} {l l' vs vs' : List Value} (h : VRs m l l') (hv : VRs m vs vs') (o : Nat) : VRs m (splice l o vs) (Go.Proofs.Ytcdignblakejoaa.D.splice l' o vs') := by
  unfold Go.Proofs.Ytcdignblakejoaa.D.splice
  rw [hv.length]
  exact (h.take o).append (hv.append (h.drop _))

section
variable {E : Env} {P : Program} {m : Mp} {S : St} {w : World} (hH : HR E m S w)
include hH
theorem HR.cells {b : Nat} {cs : List Value} {more : Option Nat} {ro : Bool} {fz : Option (Nat × Nat)} (hm : ∃ x, m b = some x) (hg : S.heap.get b = some (.cells cs more ro fz)) :
    ∃ x ccs e fr, m b = some x ∧ w.heap[x.blk]? = some (.cells ccs e fr) ∧ ccs.size = x.tot ∧ x.base + cs.length ≤ x.tot ∧
      VRs m cs ((ccs.toList.drop x.base).take cs.length) ∧ FZ fz x fr ∧ ∀ s, more = some s → TY x cs.length e s := by
  obtain ⟨x, h1⟩ := hm
  obtain ⟨ccs, e, fr, h2⟩ := hH.obj b _ x hg rfl h1
  exact ⟨x, ccs, e, fr, h1, h2⟩
theorem loadN_run {b o n : Nat} {l : List Value} (hm : ∃ x, m b = some x) (h : S.loadN b o n = some l) :
    ∃ x l', m b = some x ∧ (loadCells ⟨x.blk, x.base + o, none⟩ n).run P w = .ok l' w ∧ VRs m l l'.toList := by
  unfold St.loadN at h
  split at h
  · rename_i cs more ro fz hg
    obtain ⟨x, ccs, e, fr, h1, h2, h3, h4, h5, _⟩ := hH.cells hm hg
    obtain ⟨hb, h⟩ := cond_some h
    cases h
    · have hlen : ((cs.drop o).take n).length = n := Nat.eq_of_beq_eq_true hb
      have hn : n = 0 ∨ o + n ≤ cs.length := by simp at hlen; omega
      rcases hn with rfl | hn
      · exact ⟨x, #[], h1, by simp [loadCells, loadCellsFrom], by simp; exact .nil⟩
      · refine ⟨x, _, h1, run_loadCells h2 (by omega), ?_⟩
        have := (h5.drop o).take n
        have e1 : List.take n (List.drop o (List.take cs.length (List.drop x.base ccs.toList))) = List.take n (List.drop (x.base + o) ccs.toList) := by
          rw [List.drop_take, List.take_take, List.drop_drop]
          congr 1
          omega
        rw [e1] at this
        exact this
  · cases h
theorem load1_run {b o : Nat} {v : Value} (hm : ∃ x, m b = some x) (h : S.load1 b o = some v) :
    ∃ x v', m b = some x ∧ (load ⟨x.blk, x.base + o, none⟩).run P w = .ok v' w ∧ VR m v v' := by
  unfold St.load1 at h
  split at h
  · rename_i cs more ro fz hg
    obtain ⟨x, ccs, e, fr, h1, h2, h3, h4, h5, _⟩ := hH.cells hm hg
    obtain ⟨v', hv', hr⟩ := h5.get h
    refine ⟨x, v', h1, ?_, hr⟩
    have hlt : o < cs.length := by
      rcases Nat.lt_or_ge o cs.length with hl | hl
      · exact hl
      · rw [List.getElem?_eq_none hl] at h; cases h
    have : ccs[x.base + o]? = some v' := by
      rw [List.getElem?_take_of_lt hlt, List.getElem?_drop] at hv'
      simpa using hv'
    simp [run_load, cell?_row h2, this]
  · cases h
end

/-- A store of cells: what D does, the model does. -/
theorem storeN_run {E : Env} {P : Program} {m : Mp} {S : St} {w : World} (hH : HR E m S w) {b o : Nat} {vs vs' : List Value} {S' : St} (hm : ∃ x, m b = some x) (h : S.storeN b o vs = some S') (hv : VRs m vs vs') :
    ∃ x w', m b = some x ∧ (storeCells ⟨x.blk, x.base + o, none⟩ vs').run P w = .ok () w' ∧ HR E m S' w' ∧ Fr m S w m S' w' := by
  unfold St.storeN at h
  split at h
  · rename_i cs more ro fz hg
    obtain ⟨x, ccs, e, fr, h1, h2, h3, h4, h5, h6, h7⟩ := hH.cells hm hg
    obtain ⟨hb, h⟩ := cond_some h
    cases h
    · simp only [Bool.and_eq_true, Bool.not_eq_true', Nat.ble_eq, List.all_eq_true] at hb
      obtain ⟨⟨⟨hro, hle⟩, hone⟩, hfz⟩ := hb
      subst hro
      have hlen := hv.length
      have hone' : ∀ v ∈ vs', v.oneCell' = true := by
        have key : ∀ {l l' : List Value}, VRs m l l' → (∀ v ∈ l, St.one v = true) → ∀ v ∈ l', v.oneCell' = true := by
          intro l l' hr
          induction hr with
          | nil => intro _ v hv; cases hv
          | cons h1 _ ih =>
            intro hall v hmem
            cases hmem with
            | head =>
              have := hall _ (List.mem_cons_self)
              cases h1 <;> simp_all [St.one, Value.oneCell']
            | tail _ hm => exact ih (fun u hu => hall u (List.mem_cons_of_mem _ hu)) v hm
        exact key hv hone
      have hnf : ∀ j, x.base + o + 0 ≤ j → j < x.base + o + 0 + vs'.length → (decide (fr.1 ≤ j) && decide (j < fr.2)) = false := by
        intro j hj1 hj2
        cases fz with
        | none => rw [show fr = (0, 0) from h6]; simp
        | some p =>
          obtain ⟨lo, hi⟩ := p
          rw [Bool.and_eq_false_iff]
          by_cases hin : fr.1 ≤ j ∧ j < fr.2
          · have := h6 j hin.1 hin.2 (by omega) (by omega)
            simp only [St.fzOk, Bool.or_eq_true, Nat.ble_eq] at hfz
            simp only at this
            omega
          · simp; omega
      have hrun := run_storeCells (P := P) vs' w ccs (x.base + o) 0 h2 (by omega) hone' hnf
      have hb : x.blk < w.heap.size := (Array.getElem?_eq_some_iff.1 h2).1
      refine ⟨x, _, h1, hrun, ?_⟩
      refine HR.upd hH hg rfl h1 ?_ (World.putObj_size) (fun c hc => World.putObj_heap_other hc) rfl rfl rfl
      rw [World.putObj_heap_same hb]
      have hsl : (cs.take o ++ (vs ++ cs.drop (o + vs.length))).length = cs.length := by
        have := splice_length (l := cs) (o := o) (vs := vs) (by omega)
        unfold splice at this
        exact this
      refine ⟨_, e, fr, rfl, ?_, ?_, ?_, h6, by rw [hsl]; exact h7⟩
      · simp only [List.size_toArray, Nat.add_zero]
        rw [splice_length (by simp; omega)]; simpa using h3
      · have := splice_length (l := cs) (o := o) (vs := vs) (by omega)
        unfold splice at this
        rw [this]; exact h4
      · have hs := h5.splice hv o
        have e1 : (cs.take o ++ (vs ++ cs.drop (o + vs.length))) = splice cs o vs := rfl
        rw [e1, splice_length (by omega)]
        have e2 : splice ((ccs.toList.drop x.base).take cs.length) o vs' = ((splice ccs.toList (x.base + o) vs').drop x.base).take cs.length := by
          apply List.ext_getElem?
          intro i
          have hc : ccs.toList.length = ccs.size := by simp
          unfold splice
          simp only [List.getElem?_append, List.getElem?_take, List.getElem?_drop, List.length_take, List.length_drop, hc]
          (repeat' split) <;> first | rfl | omega | (congr 1; omega) | (exfalso; omega) | skip
          all_goals first | (rw [List.getElem?_eq_none (by omega)]) | (symm; rw [List.getElem?_eq_none (by omega)]) | skip
        rw [e2] at hs
        simpa using hs
  · cases h

end Go.Proofs.Ytcdignblakejoaa.D

/-
  D, part 5: one operation of D, and the model's: memory, numbers, equality.
-/
namespace Go.Proofs.Ytcdignblakejoaa.D
set_option linter.unusedSectionVars false

/-- Activations. -/
structure AR (E : Env) (m : Mp) (A : Ac) (a : Act) (round : Option Nat) : Prop where
  tmps : TR m A.regs A.n a.tmps
  defs : a.defers.length = A.defers.length ∧ ∀ (i d : Nat), A.defers[i]? = some d → ∃ x, m d = some x ∧ a.defers[i]? = some (⟨.collected x.blk, #[]⟩ : Deferred)
  rd : match A.rd with | none => round = none | some l => ∃ x, m l = some x ∧ round = some x.blk
theorem AR.mono {E : Env} {m m' : Mp} (h : m.le m') {A : Ac} {a : Act} {r : Option Nat} (k : AR E m A a r) : AR E m' A a r := by
  refine ⟨k.tmps.mono h, ⟨k.defs.1, fun i d e => let ⟨x, h1, h2⟩ := k.defs.2 i d e; ⟨x, h _ _ h1, h2⟩⟩, ?_⟩
  have := k.rd
  cases hr : A.rd with
  | none => rw [hr] at this; exact this
  | some l => rw [hr] at this; obtain ⟨x, h1, h2⟩ := this; exact ⟨x, h _ _ h1, h2⟩

theorem VR.undef {m : Mp} : VR m undef undef := .tup _ _ rfl (by simp)

section
variable {E : Env} {P : Program} {m : Mp} {S : St} {w : World} {A : Ac} {a : Act} {r : Option Nat} (hH : HR E m S w) (hA : AR E m A a r)
include hH hA
theorem eval_vr {x : Operand} {v : Value} (h : A.eval E x = some v) : VR m v (a.eval x) := by
  cases x with
  | tmp t => cases h; exact hA.tmps.reg t
  | const u => obtain ⟨h1, h2⟩ := cond_some h; cases h2; exact (plainB_sound h1).vr
  | global g =>
    obtain ⟨h1, h2⟩ := cond_some h; cases h2
    obtain ⟨x, h3, h4, h5⟩ := hH.glob g (Nat.blt_eq.mp h1)
    have := VR.ptr (m := m) g 0 x h3
    rw [h4, h5] at this; exact this
  | func f => cases h; exact .fn _ _ _ _ _ (by simp) rfl (by simp) rfl (by simp)
theorem evals_vr : ∀ {xs : List Operand} {vs : List Value}, A.evals E xs = some vs → VRs m vs (xs.map a.eval) := by
  intro xs
  induction xs with
  | nil => intro vs h; cases h; exact .nil
  | cons x xs ih =>
    intro vs h
    simp only [Ac.evals, Option.bind_eq_some_iff, Option.map_eq_some_iff] at h
    obtain ⟨v, h1, us, h2, rfl⟩ := h
    exact .cons (eval_vr hH hA h1) (ih h2)
end

theorem put_ar {E : Env} {m : Mp} {A A' : Ac} {a : Act} {r : Option Nat} (hA : AR E m A a r) {dst : Option Tmp} {v v' : Value} (h : A.put dst v = some A') (hv : VR m v v') : AR E m A' (a.put dst v') r := by
  cases dst with
  | none => cases h; exact hA
  | some d =>
    obtain ⟨h1, h2⟩ := cond_some h; cases h2
    exact ⟨hA.tmps.set (Nat.blt_eq.mp h1) hv, hA.defs, hA.rd⟩

theorem cells_vr {m : Mp} {v v' : Value} (h : VR m v v') : VRs m (cellsOf v) v'.cells.toList := by
  cases h
  case agg a a' h1 h2 => exact VRs.of_array h1 h2
  case junk h1 h2 h3 =>
    have e : v'.cells.toList = [v'] := by cases v' <;> first | rfl | exact (h1 _ rfl).elim
    rw [e]
    exact .cons (.junk _ h1 h2 h3) .nil
  all_goals (refine .cons ?_ .nil)
  case bool b => exact .bool b
  case int k n => exact .int k n
  case string s => exact .string s
  case nilp => exact .nilp
  case ptr b o x e => exact .ptr b o x e
  case nils => exact .nils
  case sl b o len cap x e h1 h2 => exact .sl b o len cap x e h1 h2
  case slx b o len cap x e h1 h2 => exact .slx b o len cap x e h1 h2
  case sle b o a x e h1 => exact .sle b o a x e h1
  case slz b o a => exact .slz b o a
  case nilm => exact .nilm
  case mp b x e => exact .mp b x e
  case fn f fs fs' cs cs' h1 h2 h3 h4 h5 => exact .fn f fs fs' cs cs' h1 h2 h3 h4 h5
  case yield l x e => exact .yield l x e
  case nilf => exact .nilf
  case iface t v v' h => exact .iface t v v' h
  case nili => exact .nili
  case tup a a' h1 h2 => exact .tup a a' h1 h2

def Sim (E : Env) (P : Program) (m : Mp) (S : St) (w : World) (s : Sem Next) : DN → Prop
  | .val v S' => ∃ v' m' w', s.run P w = .ok (.value v') w' ∧ VR m' v v' ∧ HR E m' S' w' ∧ Fr m S w m' S' w'
  | .skip S' => ∃ m' w', s.run P w = .ok .skip w' ∧ HR E m' S' w' ∧ Fr m S w m' S' w'
  | .enter f args S' => S' = S ∧ ∃ args', s.run P w = (callFunc f args').run P w ∧ VRs m args args'.toList
  | .yield l args S' => S' = S ∧ ∃ x args', m l = some x ∧ s.run P w = (Instr.yield x.blk args').run P w ∧ VRs m args args'.toList

/-- An operation that hands back a value and leaves memory alone. -/
def SV (P : Program) (m : Mp) (w : World) (s : Sem Value) (v : Value) : Prop := ∃ v', s.run P w = .ok v' w ∧ VR m v v'
/-- An operation that hands back a value. -/
def SP (E : Env) (P : Program) (m : Mp) (S : St) (w : World) (s : Sem Value) (v : Value) (S' : St) : Prop :=
  ∃ v' m' w', s.run P w = .ok v' w' ∧ VR m' v v' ∧ HR E m' S' w' ∧ Fr m S w m' S' w'
def SU (E : Env) (P : Program) (m : Mp) (S : St) (w : World) (s : Sem Unit) (S' : St) : Prop :=
  ∃ m' w', s.run P w = .ok () w' ∧ HR E m' S' w' ∧ Fr m S w m' S' w'
theorem SV.sp {E : Env} {P : Program} {m : Mp} {S : St} {w : World} (hH : HR E m S w) {s : Sem Value} {v : Value} (h : SV P m w s v) : SP E P m S w s v S := by
  obtain ⟨v', h1, h2⟩ := h
  exact ⟨v', m, w, h1, h2, hH, .refl _ _ _⟩

theorem isReady_eq {s : LoopState} (h : isReady s = true) : s = .ready := by cases s <;> simp_all [isReady]

section
variable {E : Env} {P : Program} (hE : E.Ok P) {m : Mp} {S : St} {w : World} (hH : HR E m S w)
include hE hH

theorem loadVar_run {t : TypeId} {d : DInfo} (hd : E.inf t = some d) {b o : Nat} {u : Value} (hm : ∃ x, m b = some x)
    (h : cond (aggD d.und) ((S.loadN b o d.size).map fun l => .agg l.toArray) (S.load1 b o) = some u) :
    ∃ x u', m b = some x ∧ (loadVar t ⟨x.blk, x.base + o, none⟩).run P w = .ok u' w ∧ VR m u u' := by
  cases ha : aggD d.und with
  | true =>
    rw [ha] at h
    simp only [cond_true, Option.map_eq_some_iff] at h
    obtain ⟨l, h1, rfl⟩ := h
    obtain ⟨x, l', h2, h3, h4⟩ := loadN_run (P := P) hH hm h1
    refine ⟨x, .agg l', h2, ?_, ?_⟩
    · simp only [loadVar, Sem.run_bind, run_isAgg hE hd w, ha, Result.andThen_ok, if_true, run_size hE hd w, h3, Sem.run_pure]
    · obtain ⟨h5, h6⟩ := VRs.array (a := l.toArray) (a' := l') (by simpa using h4)
      exact .agg _ _ h5 h6
  | false =>
    rw [ha] at h
    obtain ⟨x, v', h2, h3, h4⟩ := load1_run (P := P) hH hm h
    refine ⟨x, v', h2, ?_, h4⟩
    simp only [loadVar, Sem.run_bind, run_isAgg hE hd w, ha, Result.andThen_ok, Bool.false_eq_true, if_false, h3]

theorem loadV_sim {t : TypeId} {p p' u : Value} (h : loadV E S t p = some u) (hp : VR m p p') : SV P m w (Instr.loadAt t p') u := by
  unfold loadV at h
  split at h
  · rename_i b o
    split at h
    · rename_i d hd
      obtain ⟨x, u', h1, h2, h3⟩ := loadVar_run hE hH hd hp.ptrAt h
      cases hp with
      | ptr _ _ y hy =>
        rw [h1] at hy; cases hy
        exact ⟨u', by simp only [Instr.loadAt, Instr.sureAddr, Sem.run_bind, Sem.run_pure, Result.andThen_ok, h2], h3⟩
    · cases h
  · cases h

theorem storeV_sim {t : TypeId} {p p' v v' : Value} {S' : St} (h : storeV E S t p v = some S') (hp : VR m p p') (hv : VR m v v') : SU E P m S w (Instr.storeAt t p' v') S' := by
  unfold storeV at h
  split at h
  · rename_i b o
    split at h
    · rename_i d hd
      obtain ⟨hl, h⟩ := cond_some h
      have hl := Nat.eq_of_beq_eq_true hl
      have hc := cells_vr hv
      obtain ⟨x, w', h1, h2, h3, h4⟩ := storeN_run (P := P) hH hp.ptrAt h hc
      cases hp with
      | ptr _ _ y hy =>
        rw [h1] at hy; cases hy
        have hs : v'.cells.size = d.size := by have := hc.length; simp at this; omega
        refine ⟨m, w', ?_, h3, h4⟩
        simp only [Instr.storeAt, Instr.sureAddr, storeVar, Sem.run_bind, Sem.run_pure, Result.andThen_ok, run_size hE hd w, hs, ne_eq, not_true, if_false, h2]
    · cases h
  · cases h

omit hE in
/-- A new row of cells, at its head. -/
theorem newCells_run {cs cs' : List Value} (hc : VRs m cs cs') (e : TypeId) :
    ∃ x, x.blk = w.heap.size ∧ x.base = 0 ∧ HR E (m.put S.next x) (S.alloc (.cells cs none false none)).2 (w.alloc (.cells cs'.toArray e)) ∧
      Fr m S w (m.put S.next x) (S.alloc (.cells cs none false none)).2 (w.alloc (.cells cs'.toArray e)) := by
  have hlen := hc.length
  let x : BM := ⟨w.heap.size, 0, cs'.length, 1⟩
  have hle : m.le (m.put S.next x) := Mp.le_put hH.fresh
  obtain ⟨h1, h2⟩ := HR.alloc hH (.cells cs none false none) (.cells cs'.toArray e) x rfl
    ⟨cs'.toArray, e, (0, 0), rfl, by simp [x], by simp [x, hlen], by
      have : List.take cs.length (List.drop x.base cs'.toArray.toList) = cs' := by simp [x, hlen]
      rw [this]; exact hc.mono hle, rfl, by simp⟩
  exact ⟨x, rfl, rfl, h1, h2⟩
omit hE in
/-- As 'newCells_run', for a row with spare cells behind it. -/
theorem newRow_run {cs cs' sp : List Value} (hc : VRs m cs cs') (e : TypeId) (sz : Nat) (hty : ∀ x : BM, x.base = 0 → x.sz = szT sz → x.tot = cs'.length + sp.length → TY x cs.length e sz) (fz : Option (Nat × Nat)) :
    ∃ x, x.blk = w.heap.size ∧ x.base = 0 ∧ x.tot = cs'.length + sp.length ∧ x.sz = szT sz ∧ HR E (m.put S.next x) (S.alloc (.cells cs (some sz) false fz)).2 (w.alloc (.cells (cs' ++ sp).toArray e)) ∧
      Fr m S w (m.put S.next x) (S.alloc (.cells cs (some sz) false fz)).2 (w.alloc (.cells (cs' ++ sp).toArray e)) := by
  have hlen := hc.length
  let x : BM := ⟨w.heap.size, 0, cs'.length + sp.length, szT sz⟩
  have hle : m.le (m.put S.next x) := Mp.le_put hH.fresh
  obtain ⟨h1, h2⟩ := HR.alloc hH (.cells cs (some sz) false fz) (.cells (cs' ++ sp).toArray e) x rfl
    ⟨(cs' ++ sp).toArray, e, (0, 0), rfl, by simp [x], by simp [x, hlen], by
      have : List.take cs.length (List.drop x.base (cs' ++ sp).toArray.toList) = cs' := by simp [x, hlen]
      rw [this]; exact hc.mono hle, by cases fz <;> simp [FZ], by
        intro s hs; cases hs
        exact hty _ rfl rfl rfl⟩
  exact ⟨x, rfl, rfl, rfl, rfl, h1, h2⟩

omit hE in
/-- As 'newCells_run', marked. -/
theorem newVar_run {cs cs' : List Value} (hc : VRs m cs cs') (e : TypeId) (more : Option Nat) (hm : more = none ∨ more = some (e + 2 * TB)) :
    ∃ x, x.blk = w.heap.size ∧ x.base = 0 ∧ HR E (m.put S.next x) (S.alloc (.cells cs more false none)).2 (w.alloc (.cells cs'.toArray e)) ∧
      Fr m S w (m.put S.next x) (S.alloc (.cells cs more false none)).2 (w.alloc (.cells cs'.toArray e)) := by
  have hlen := hc.length
  let x : BM := ⟨w.heap.size, 0, cs'.length, 1⟩
  have hle : m.le (m.put S.next x) := Mp.le_put hH.fresh
  obtain ⟨h1, h2⟩ := HR.alloc hH (.cells cs more false none) (.cells cs'.toArray e) x rfl
    ⟨cs'.toArray, e, (0, 0), rfl, by simp [x], by simp [x, hlen], by
      have : List.take cs.length (List.drop x.base cs'.toArray.toList) = cs' := by simp [x, hlen]
      rw [this]; exact hc.mono hle, rfl, by
      intro s hs
      rcases hm with rfl | rfl
      · cases hs
      · cases hs
        exact TY.var rfl rfl (by simp [x, hlen])⟩
  exact ⟨x, rfl, rfl, h1, h2⟩

omit hE hH in
theorem tagN_or (e : TypeId) (l : List Value) : tagN e l = none ∨ tagN e l = some (e + 2 * TB) := by
  unfold tagN
  split
  · exact .inr rfl
  · exact .inl rfl
theorem alloc_sim {t : TypeId} {z : Value} (h : E.zero t = some z) :
    SP E P m S w (Instr.alloc t true (.tuple #[])) (.pointer (some ⟨S.next, 0, none⟩)) (S.alloc (.cells (cellsOf z) (tagN t (cellsOf z)) false none)).2 := by
  unfold Env.zero at h
  rw [Option.bind_eq_some_iff] at h
  obtain ⟨d, hd, hz⟩ := h
  have hc := cells_vr (zero_plain hE hd hz).vr (m := m)
  obtain ⟨x, h1, h2, h3, h4⟩ := newVar_run hH hc t _ (tagN_or t _)
  refine ⟨.pointer (some ⟨w.heap.size, 0, none⟩), _, _, ?_, ?_, h3, h4⟩
  · simp [Instr.alloc, run_zero hE hd w hz, newVar, newRow, Result.andThen]
  · have := VR.ptr (m := m.put S.next x) S.next 0 x (by simp)
    rw [h1, h2] at this; exact this
theorem box_sim {t : TypeId} {v v' : Value} (hv : VR m v v') :
    SP E P m S w (Instr.box t v') (.pointer (some ⟨S.next, 0, none⟩)) (S.alloc (.cells (cellsOf v) none false none)).2 := by
  obtain ⟨x, h1, h2, h3, h4⟩ := newCells_run hH (cells_vr hv) t
  refine ⟨.pointer (some ⟨w.heap.size, 0, none⟩), _, _, ?_, ?_, h3, h4⟩
  · simp [Instr.box, newVar, newRow, Result.andThen]
  · have := VR.ptr (m := m.put S.next x) S.next 0 x (by simp)
    rw [h1, h2] at this; exact this
end

/-! ### Numbers, strings -/
theorem wrapD_eq (k : IntKind) (n : Int) : wrapD k n = k.wrap n := by
  unfold wrapD
  cases h : inRange k n with
  | false => rfl
  | true =>
    simp only [cond_true]
    cases k <;> simp only [inRange, Bool.and_eq_true, decide_eq_true_eq] at h <;> simp [IntKind.wrap, IntKind.bits, IntKind.signed] <;> omega
theorem kindEq_eq {k k' : IntKind} (h : kindEq k k' = true) : k = k' := by cases k <;> cases k' <;> simp_all [kindEq]

theorem beq_bytes (a b : ByteArray) : (a == b) = (a.data.toList == b.data.toList) := by
  cases a with | mk a => cases b with | mk b =>
  show (a == b) = (a.toList == b.toList)
  rw [Bool.eq_iff_iff]; simp
theorem toList_data (s : ByteArray) : s.toList = s.data.toList := ByteArray.toList_eq s


theorem intD_run {P : Program} {w : World} {t : TypeId} {op : BinOp} {k : IntKind} {a b : Int} {v : Value} (h : intD op k a b = some v) :
    (binOp op t (.int k a) (.int k b)).run P w = .ok v w ∧ Plain v := by
  cases op <;> simp only [intD, Option.some.injEq] at h
  case quo =>
    cases hb : decide (b = 0) with
    | true => rw [hb] at h; cases h
    | false =>
      rw [hb] at h; cases h
      simp only [decide_eq_false_iff_not] at hb
      exact ⟨by simp [binOp, Op.intDiv, hb, wrapD_eq], .int _ _⟩
  case rem =>
    cases hb : decide (b = 0) with
    | true => rw [hb] at h; cases h
    | false =>
      rw [hb] at h; cases h
      simp only [decide_eq_false_iff_not] at hb
      exact ⟨by simp [binOp, Op.intDiv, hb], .int _ _⟩
  case shl => cases h
  case shr => cases h
  all_goals subst h
  all_goals refine ⟨?_, by first | exact .int _ _ | exact .bool _⟩
  all_goals first
    | (simp [binOp, Op.intArith, wrapD_eq]; done)
    | (simp only [binOp, ne_eq, not_true, if_false, Op.intBits]; rfl)
    | (simp only [binOp, ne_eq, not_true, if_false, Op.intCmp]; rfl)
theorem shiftD_run {P : Program} {w : World} {t : TypeId} {l : Bool} {k k' : IntKind} {a b : Int} {v : Value} (h : shiftD l k a b = some v) :
    (binOp (if l then .shl else .shr) t (.int k a) (.int k' b)).run P w = .ok v w ∧ Plain v := by
  unfold shiftD at h
  cases hb : decide (b < 0) with
  | true => rw [hb] at h; cases h
  | false =>
    rw [hb] at h
    simp only [decide_eq_false_iff_not] at hb
    cases l with
    | true =>
      cases h
      exact ⟨by simp [binOp, Op.shift, hb, wrapD_eq], .int _ _⟩
    | false =>
      cases h
      exact ⟨by simp [binOp, Op.shift, hb], .int _ _⟩

theorem strD_run {P : Program} {w : World} {t : TypeId} {op : BinOp} {a b : ByteArray} {v : Value} (h : strD op a b = some v) :
    (binOp op t (.string a) (.string b)).run P w = .ok v w ∧ Plain v := by
  have ha := toList_data a
  have hb := toList_data b
  cases op <;> simp only [strD, Option.some.injEq] at h
  case add =>
    obtain ⟨h1, h2⟩ := cond_some h
    cases h2
    simp only [decide_eq_true_eq] at h1
    have h3 : ¬ (((a.size + b.size : Nat) : Int) > IntKind.i64.max) := by
      simp only [IntKind.max, IntKind.signed, IntKind.bits, ByteArray.size]
      simp at h1 ⊢; omega
    have h4 : (⟨(a.data.toList ++ b.data.toList).toArray⟩ : ByteArray) = a ++ b := by
      apply ByteArray.ext; apply Array.ext'; simp
    exact ⟨by rw [h4]; simp only [binOp, Op.stringOp, if_neg h3, Sem.run_pure], .string _⟩
  case sub => cases h
  case mul => cases h
  case quo => cases h
  case rem => cases h
  case and => cases h
  case or => cases h
  case xor => cases h
  case shl => cases h
  case shr => cases h
  case andNot => cases h
  all_goals (subst h; exact ⟨by simp [binOp, Op.stringOp, ha, hb, bytesLt], .bool _⟩)

theorem unD_run {P : Program} {w : World} {op : UnOp} {x v : Value} (h : unD op x = some v) : (Op.unary op x).run P w = .ok v w ∧ Plain v := by
  unfold unD at h
  split at h
  · cases op <;> simp only [Option.some.injEq] at h
    case neg => subst h; exact ⟨by simp [Op.unary, Op.intArith, wrapD_eq], .int _ _⟩
    case xor => subst h; exact ⟨by simp [Op.unary, Op.intBits], .int _ _⟩
    case not => cases h
    case plus => cases h
  · cases op <;> simp only [Option.some.injEq] at h
    case not => subst h; exact ⟨by simp [Op.unary], .bool _⟩
    all_goals cases h
  · cases h

/-! ### Equality -/
section
variable {E : Env} {P : Program} (hE : E.Ok P) {m : Mp} {S : St} {w : World} (hH : HR E m S w)
include hE

theorem partD_run {t : TypeId} {d : DInfo} (hd : E.inf t = some d) {cs : List Value} {cs' : Array Value} (hc : VRs m cs cs'.toList) {off : Nat} {v : Value} (h : partD d cs off = some v) :
    ∃ v', (part t cs' off).run P w = .ok v' w ∧ VR m v v' := by
  unfold partD at h
  cases ha : aggD d.und with
  | true =>
    rw [ha] at h
    obtain ⟨h1, h2⟩ := cond_some h
    have h1 := Nat.eq_of_beq_eq_true h1
    cases h2
    refine ⟨.agg (cs'.extract off (off + d.size)), ?_, ?_⟩
    · simp only [part, Sem.run_bind, run_isAgg hE hd w, ha, Result.andThen_ok, if_true, run_size hE hd w, Sem.run_pure]
    · have h3 := (hc.drop off).take d.size
      have h4 : VRs m ((cs.drop off).take d.size).toArray.toList (cs'.extract off (off + d.size)).toList := by
        simpa [Array.toList_extract, List.extract_eq_take_drop] using h3
      obtain ⟨h5, h6⟩ := h4.array
      exact .agg _ _ h5 h6
  | false =>
    rw [ha] at h
    obtain ⟨v', h1, h2⟩ := hc.get h
    refine ⟨v', ?_, h2⟩
    have : cs'[off]? = some v' := by simpa using h1
    simp only [part, Sem.run_bind, run_isAgg hE hd w, ha, Result.andThen_ok, Bool.false_eq_true, if_false, this, Sem.run_pure]

include hH
theorem clean_row {b : Nat} (hm : ∃ x, m b = some x) (h : clean S b = true) : ∃ x ccs e, m b = some x ∧ w.heap[x.blk]? = some (.cells ccs e (0, 0)) ∧ ∃ o, S.heap.get b = some o ∧ o.wr = true := by
  unfold clean at h
  split at h
  · rename_i cs more hg
    obtain ⟨x, ccs, e, fr, h1, h2, _, _, _, h3, _⟩ := hH.cells hm hg
    cases h3
    exact ⟨x, ccs, e, h1, h2, _, hg, rfl⟩
  · cases h

theorem sameAddr_run {b b' o o' : Nat} {x x' : BM} (hm : m b = some x) (hm' : m b' = some x') {r : Bool}
    (h : cond (Nat.beq b b') (some (Nat.beq o o')) (cond (clean S b && clean S b') (some false) none) = some r) :
    (sameAddr ⟨x.blk, x.base + o, none⟩ ⟨x'.blk, x'.base + o', none⟩).run P w = .ok r w := by
  cases hb : Nat.beq b b' with
  | true =>
    rw [hb] at h; cases h
    have e := Nat.eq_of_beq_eq_true hb
    subst e
    rw [hm] at hm'; cases hm'
    have e2 : ((⟨x.blk, x.base + o, none⟩ : Addr) == ⟨x.blk, x.base + o', none⟩) = Nat.beq o o' := by
      by_cases ho : o = o'
      · subst ho; simp
      · rw [PM.beq_f ho]; simpa using ho
    simp [sameAddr, e2]
  | false =>
    rw [hb] at h
    obtain ⟨h1, h2⟩ := cond_some h
    cases h2
    simp only [Bool.and_eq_true] at h1
    obtain ⟨y, ccs, e, h3, h4, oo, h5, h6⟩ := clean_row hE hH ⟨x, hm⟩ h1.1
    obtain ⟨y', ccs', e', h3', h4', oo', h5', h6'⟩ := clean_row hE hH ⟨x', hm'⟩ h1.2
    rw [hm] at h3; cases h3
    rw [hm'] at h3'; cases h3'
    have hne : b ≠ b' := fun e => by subst e; simp at hb
    have hblk := hH.inj b b' oo oo' x x' h5 h5' (DObj.live_of_wr h6) (DObj.live_of_wr h6') hne (.inl h6) hm hm'
    have hbe : (x.blk == x'.blk) = false := by simpa using hblk
    have f1 : w.frozen? ⟨x.blk, x.base + o, none⟩ = false := by rw [frozen?_row h4]; simp
    have f2 : w.frozen? ⟨x'.blk, x'.base + o', none⟩ = false := by rw [frozen?_row h4']; simp
    have f3 : ∀ n, w.frozen? ⟨x.blk, n, none⟩ = false := fun n => by rw [frozen?_row h4]; simp
    have f4 : ∀ n, w.frozen? ⟨x'.blk, n, none⟩ = false := fun n => by rw [frozen?_row h4']; simp
    have s1 : w.shape? x.blk = some (e, ccs.size) := by simp [World.shape?, h4]
    have s2 : w.shape? x'.blk = some (e', ccs'.size) := by simp [World.shape?, h4']
    simp [sameAddr, hbe, f1, noView, viewAt, s1, s2, mayBeOne, stringish, f2, f3, f4, Result.andThen]

omit hH in
theorem fieldsEq_run {n dp : Nat} {xs ys : List Value} {xs' ys' : Array Value} (hx : VRs m xs xs'.toList) (hy : VRs m ys ys'.toList)
    (ih : ∀ (t : TypeId) (x y x' y' : Value) (r : Bool), eqD E S n t x y = some r → VR m x x' → VR m y y' → (Op.equalIn dp t x' y').run P w = .ok r w) :
    ∀ (fs : List Field) (r : Bool), (∀ f ∈ fs, f.name ≠ "_") → fieldsEq E (eqD E S n) xs ys fs = some r →
    (forIn (m := Sem) fs ((none, ()) : Option Bool × Unit) fun f __s =>
            if f.name ≠ "_" then do
              let __do_lift ← part f.type xs' f.offset
              let __do_lift_1 ← part f.type ys' f.offset
              let __do_lift ← Op.equalIn dp f.type __do_lift __do_lift_1
              if (!__do_lift) = true then pure (ForInStep.done (some false, ())) else pure (ForInStep.yield (none, ()))
            else pure (ForInStep.yield (none, ()))).run P w = .ok (if r then none else some false, ()) w := by
  intro fs
  induction fs with
  | nil => intro r _ h; cases h; simp
  | cons f fs ihf =>
    intro r hn h
    simp only [fieldsEq, Option.bind_eq_some_iff] at h
    obtain ⟨i, hi, x, h1, y, h2, e, h3, h4⟩ := h
    obtain ⟨x', h5, h6⟩ := partD_run hE (P := P) (w := w) hi hx h1
    obtain ⟨y', h7, h8⟩ := partD_run hE (P := P) (w := w) hi hy h2
    have h9 := ih _ _ _ _ _ _ h3 h6 h8
    rw [List.forIn_cons]
    simp only [hn f (by simp), ne_eq, not_false_eq_true, if_true, Sem.run_bind, h5, h7, h9, Result.andThen_ok]
    cases e with
    | false => simp only [cond_false, Option.some.injEq] at h4; subst h4; simp
    | true =>
      have := ihf r (fun g hg => hn g (by simp [hg])) h4
      simp at this ⊢
      exact this

theorem eqD_run : ∀ (n : Nat) (t : TypeId) (x y x' y' : Value) (r : Bool) (dp : Nat), eqD E S n t x y = some r → VR m x x' → VR m y y' → n ≤ dp →
    (Op.equalIn dp t x' y').run P w = .ok r w := by
  intro n
  induction n with
  | zero => intro t x y x' y' r dp h; cases h
  | succ n ih =>
    intro t x y x' y' r dp h hx hy hdp
    obtain ⟨dp, rfl⟩ : ∃ k, dp = k + 1 := ⟨dp - 1, by omega⟩
    unfold eqD at h
    split at h
    · cases h
    · rename_i d hd
      simp only [Op.equalIn, Sem.run_bind, run_und hE hd w, Result.andThen_ok]
      split at h
      all_goals (try (rename_i hu; rw [hu]))
      · cases h; cases hx; cases hy; rfl
      · obtain ⟨h1, h2⟩ := cond_some h; cases h2; cases hx; cases hy
        rw [kindEq_eq h1]; simp; rfl
      · cases h; cases hx; cases hy
        rename_i a b
        simp only [Sem.run_pure]
        congr 1
        exact beq_bytes a b
      · cases h; cases hx; cases hy; rfl
      · cases h; cases hx; cases hy; rfl
      · cases h; cases hx; cases hy; rfl
      · split at h
        · rename_i k hk
          unfold Env.size at hk
          rw [Option.map_eq_some_iff] at hk
          obtain ⟨de, hde, hsz⟩ := hk
          cases hx with
          | ptr _ _ x1 hm1 =>
            cases hy with
            | ptr _ _ x2 hm2 =>
              simp only [Sem.run_bind, run_size hE hde w, Result.andThen_ok, hsz]
              simp [sameAddr_run hE hH hm1 hm2 h]
        · cases h
      · cases h; cases hx; cases hy; rfl
      · cases h; cases hx; cases hy; rfl
      · cases h; cases hx; cases hy; rfl
      · rename_i tx vx ty vy
        cases hx with
        | iface _ _ vx' hvx =>
          cases hy with
          | iface _ _ vy' hvy =>
            cases hb : Nat.beq tx ty with
            | false =>
              rw [hb] at h; cases h
              have : tx ≠ ty := fun e => by subst e; simp at hb
              simp [this]
            | true =>
              rw [hb] at h
              have e := Nat.eq_of_beq_eq_true hb
              subst e
              simp only [cond_true] at h
              split at h
              · rename_i j hj
                obtain ⟨h1, h2⟩ := cond_some h
                obtain ⟨i, h3, _, _, _, h4⟩ := run_typeInfo hE hj w
                simp [h3, h4, h1, ih _ _ _ _ _ _ dp h2 hvx hvy (by omega)]
              · cases h
      · obtain ⟨h1, h2⟩ := cond_some h
        obtain ⟨_, _, hblank⟩ := hE.inf t d hd
        obtain ⟨hb1, hb2⟩ := hblank h1
        cases hx with
        | agg _ xs' hx1 hx2 =>
          cases hy with
          | agg _ ys' hy1 hy2 =>
            simp only [Sem.run_bind, run_program, Result.andThen_ok, hb1, Bool.false_eq_true, if_false]
            rw [← Array.forIn_toList, fieldsEq_run hE (VRs.of_array hx1 hx2) (VRs.of_array hy1 hy2) (fun t x y x' y' r g1 g2 g3 => ih t x y x' y' r dp g1 g2 g3 (by omega)) _ r (hb2 _ hu) h2]
            cases r <;> simp
      all_goals (first | (cases h; done) | (cases h; cases hx <;> cases hy <;> rfl))
end

end Go.Proofs.Ytcdignblakejoaa.D

/-
  D, part 6: one operation of D, and the model's: structs, slices, conversions.
-/
namespace Go.Proofs.Ytcdignblakejoaa.D
set_option linter.unusedSectionVars false

theorem binOp_eql {t : TypeId} {a b : Value} (h1 : ∀ k p k' q, ¬ (a = .int k p ∧ b = .int k' q)) (h2 : ∀ p q, ¬ (a = .string p ∧ b = .string q))
    (h3 : ∀ k p, a ≠ .float k p) (h4 : ∀ k p q, a ≠ .complex k p q) :
    binOp .eql t a b = (do pure (.bool (← Op.equal t a b))) ∧ binOp .neq t a b = (do pure (.bool (!(← Op.equal t a b)))) := by
  constructor
  · unfold binOp; split <;> first
      | (exact absurd ⟨rfl, rfl⟩ (h1 _ _ _ _)) | (exact absurd ⟨rfl, rfl⟩ (h2 _ _)) | (exact absurd rfl (h3 _ _)) | (exact absurd rfl (h4 _ _ _)) | rfl | (simp_all; done)
  · unfold binOp; split <;> first
      | (exact absurd ⟨rfl, rfl⟩ (h1 _ _ _ _)) | (exact absurd ⟨rfl, rfl⟩ (h2 _ _)) | (exact absurd rfl (h3 _ _)) | (exact absurd rfl (h4 _ _ _)) | rfl | (simp_all; done)

/-- D knows both. -/
theorem eqD_known {E : Env} {S : St} {n : Nat} {t : TypeId} {a b : Value} {r : Bool} (h : eqD E S n t a b = some r) : a ≠ .complex .f32 0 0 ∧ b ≠ .complex .f32 0 0 := by
  cases n with
  | zero => cases h
  | succ n =>
    unfold eqD at h
    split at h
    · cases h
    · constructor
      · rintro rfl
        split at h <;> first | contradiction | (cases h; done)
      · rintro rfl
        split at h <;> first | contradiction | (cases h; done)

section
variable {E : Env} {P : Program} (hE : E.Ok P) {m : Mp} {S : St} {w : World} (hH : HR E m S w)
include hE hH

theorem guard_run {op : BinOp} {t : TypeId} {x y : Operand} {a b a' b' : Value} (ha : VR m a a') (hb : VR m b b') (ja : a ≠ .complex .f32 0 0) (jb : b ≠ .complex .f32 0 0) (h : guardD E t x y a b = true) :
    (eqGuard op t x y a' b').run P w = .ok () w := by
  have agg : ∀ c c' : Array Value, a' = .agg c → b' = .agg c' → P.eqGuardType P.depth t = false := by
    rintro c c' rfl rfl
    cases ha <;> first | exact (ja rfl).elim | skip
    cases hb <;> first | exact (jb rfl).elim | skip
    simp only [guardD] at h
    split at h
    · rename_i d hd
      obtain ⟨_, h1, _⟩ := hE.inf t d hd
      rw [h1]; simpa using h
    · cases h
  have nil : a' = .nilIface → b' = .nilIface → isConst x = true ∨ isConst y = true := by
    rintro rfl rfl
    cases ha <;> first | exact (ja rfl).elim | skip
    cases hb <;> first | exact (jb rfl).elim | skip
    simpa [guardD] using h
  clear ha hb h
  unfold eqGuard
  cases op <;> simp only [Bool.not_false, Bool.not_true, Bool.false_eq_true, if_true, if_false, Sem.run_pure]
  all_goals
    split
    · have := nil rfl rfl
      cases x <;> cases y <;> simp_all [isConst]
    · have := agg _ _ rfl rfl
      simp [this]
    · rfl

omit hE hH in
theorem VR.not_num {v v' : Value} (h : VR m v v') (j : v ≠ .complex .f32 0 0) : (∀ k p, v' = .int k p → v = .int k p) ∧ (∀ p, v' = .string p → v = .string p) ∧ (∀ k p, v' ≠ .float k p) ∧ (∀ k p q, v' ≠ .complex k p q) := by
  cases h <;> first | exact (j rfl).elim | simp

theorem binD_sim {op : BinOp} {t : TypeId} {x y : Operand} {a b a' b' v : Value} (h : binD E S op t x y a b = some v) (ha : VR m a a') (hb : VR m b b') :
    SV P m w (do eqGuard op t x y a' b'; binOp op t a' b') v := by
  unfold binD at h
  split at h
  · cases ha; cases hb
    have hg : ∀ (k k' : IntKind) (p q : Int), (eqGuard op t x y (.int k p) (.int k' q)).run P w = .ok () w := fun k k' p q => by unfold eqGuard; split <;> simp
    rename_i k p k' q
    cases op
    case shl =>
      obtain ⟨h1, h2⟩ := shiftD_run (P := P) (w := w) (t := t) (k' := k') h
      exact ⟨v, by rw [Sem.run_bind, hg]; exact h1, h2.vr⟩
    case shr =>
      obtain ⟨h1, h2⟩ := shiftD_run (P := P) (w := w) (t := t) (k' := k') h
      exact ⟨v, by rw [Sem.run_bind, hg]; exact h1, h2.vr⟩
    all_goals
      dsimp only at h
      obtain ⟨hk, h5⟩ := cond_some h
      clear h
      obtain rfl := kindEq_eq hk
      obtain ⟨h1, h2⟩ := intD_run (P := P) (w := w) (t := t) h5
      exact ⟨v, by rw [Sem.run_bind, hg]; exact h1, h2.vr⟩
  · cases ha; cases hb
    rename_i p q
    obtain ⟨h1, h2⟩ := strD_run (P := P) (w := w) (t := t) h
    exact ⟨v, by rw [Sem.run_bind]; have : (eqGuard op t x y (.string p) (.string q)).run P w = .ok () w := by unfold eqGuard; split <;> simp
                 rw [this]; exact h1, h2.vr⟩
  · rename_i n1 n2
    have hj : a ≠ .complex .f32 0 0 ∧ b ≠ .complex .f32 0 0 := by
      split at h
      · obtain ⟨_, h⟩ := cond_some h
        rw [Option.map_eq_some_iff] at h
        obtain ⟨r, h1, _⟩ := h
        exact eqD_known h1
      · obtain ⟨_, h⟩ := cond_some h
        rw [Option.map_eq_some_iff] at h
        obtain ⟨r, h1, _⟩ := h
        exact eqD_known h1
      · cases h
    obtain ⟨a1, a2, a3, a4⟩ := VR.not_num ha hj.1
    obtain ⟨b1, b2, _, _⟩ := VR.not_num hb hj.2
    obtain ⟨e1, e2⟩ := binOp_eql (t := t) (a := a') (b := b') (fun k p k' q ⟨g1, g2⟩ => n1 k p k' q (a1 k p g1) (b1 k' q g2)) (fun p q ⟨g1, g2⟩ => n2 p q (a2 p g1) (b2 q g2)) a3 a4
    split at h
    · obtain ⟨hg, h⟩ := cond_some h
      rw [Option.map_eq_some_iff] at h
      obtain ⟨r, h1, rfl⟩ := h
      have := eqD_run hE hH 6 t a b a' b' r 10000 h1 ha hb (by decide)
      exact ⟨.bool r, by rw [Sem.run_bind, guard_run hE hH ha hb hj.1 hj.2 hg, Result.andThen_ok, e1]; simp [Op.equal, Op.maxDepth, this], .bool _⟩
    · obtain ⟨hg, h⟩ := cond_some h
      rw [Option.map_eq_some_iff] at h
      obtain ⟨r, h1, rfl⟩ := h
      have := eqD_run hE hH 6 t a b a' b' r 10000 h1 ha hb (by decide)
      exact ⟨.bool (!r), by rw [Sem.run_bind, guard_run hE hH ha hb hj.1 hj.2 hg, Result.andThen_ok, e2]; simp [Op.equal, Op.maxDepth, this], .bool _⟩
    · cases h

/-! ### Building structs, arrays, slices -/
omit hE hH in
theorem foldl_splice : ∀ (vs : List Value) (cells : Array Value) (off j : Nat), off + j + vs.length ≤ cells.size →
    (vs.zipIdx j).foldl (fun cs (p : Value × Nat) => cs.setIfInBounds (off + p.2) p.1) cells = (splice cells.toList (off + j) vs).toArray := by
  intro vs
  induction vs with
  | nil => intro cells off j _; simp
  | cons v vs ih =>
    intro cells off j h
    rw [List.zipIdx_cons, List.foldl_cons]
    simp only [List.length_cons] at h
    rw [ih _ off (j + 1) (by simp; omega)]
    congr 1
    rw [show off + (j + 1) = (off + j) + 1 from rfl, ← splice_cons (by simp; omega)]
    simp

omit hE hH in
theorem fillD_run {place place' : Nat → Option (Nat × Nat)} (hp : ∀ i p, place i = some p → place' i = some p) : ∀ {parts parts' : List (Nat × Value)} {cells cells' out : List Value},
    fillD place cells parts = some out → VRs m cells cells' → parts.length = parts'.length → (∀ (i : Nat) p p', parts[i]? = some p → parts'[i]? = some p' → p.1 = p'.1 ∧ VR m p.2 p'.2) →
    ∃ out' : Array Value, Instr.fill place' cells'.toArray parts' = some out' ∧ VRs m out out'.toList := by
  intro parts
  induction parts with
  | nil =>
    intro parts' cells cells' out h hc hl _
    cases parts' with
    | nil => cases h; exact ⟨cells'.toArray, rfl, by simpa using hc⟩
    | cons _ _ => simp at hl
  | cons p parts ih =>
    intro parts' cells cells' out h hc hl hr
    cases parts' with
    | nil => simp at hl
    | cons p' parts' =>
      obtain ⟨i, v⟩ := p
      obtain ⟨i', v'⟩ := p'
      obtain ⟨h0, hv⟩ := hr 0 _ _ rfl rfl
      simp only at h0 hv
      subst h0
      simp only [fillD] at h
      split at h
      · cases h
      · rename_i off size hpl
        obtain ⟨hb, h⟩ := cond_some h
        simp only [Bool.and_eq_true, Nat.ble_eq] at hb
        obtain ⟨hs, hle⟩ := hb
        have hs := Nat.eq_of_beq_eq_true hs
        have hcv := cells_vr hv
        have hlen := hcv.length
        have hcl := hc.length
        have hsz : v'.cells.size = (cellsOf v).length := by simpa using hlen.symm
        obtain ⟨out', h1, h2⟩ := ih h (hc.splice hcv off) (by simpa using hl) (fun j q q' e e' => hr (j + 1) q q' (by simpa using e) (by simpa using e'))
        refine ⟨out', ?_, h2⟩
        simp only [Instr.fill, hp _ _ hpl]
        rw [if_neg (by simp [hsz, hs]; omega)]
        rw [← h1]
        congr 1
        have hf := foldl_splice v'.cells.toList cells'.toArray off 0 (by simp [hsz]; omega)
        simp only [Nat.add_zero] at hf
        rw [← hf]
        rw [← Array.foldl_toList]
        simp
end

end Go.Proofs.Ytcdignblakejoaa.D

/-
  D, part 7: one operation of D, and the model's: structs, slices, conversions, continued.
-/
namespace Go.Proofs.Ytcdignblakejoaa.D
set_option linter.unusedSectionVars false

theorem zeros_list (z : Array Value) (len : Nat) : ((Array.range (len * z.size)).map (fun i => z[i % z.size]!)).toList = (List.replicate len z.toList).flatten := by
  induction len with
  | zero => simp
  | succ len ih =>
    rw [List.replicate_succ', List.flatten_append]
    simp only [Array.toList_map, Array.toList_range] at ih ⊢
    rw [Nat.succ_mul, List.range_add, List.map_append, ih]
    congr 1
    simp only [List.flatten_cons, List.flatten_nil, List.append_nil, List.map_map]
    apply List.ext_getElem
    · simp
    · intro i h1 h2
      simp at h1 h2
      simp [Nat.add_mod, Nat.mul_mod_left, Nat.mod_eq_of_lt h1, h1]

theorem zerosD_vr {m : Mp} {z : Value} (hz : Plain z) (len : Nat) : VRs m (zerosD (cellsOf z) len) (List.replicate len z.cells.toList).flatten := by
  unfold zerosD
  have hc := cells_vr (hz.vr (m := m))
  induction len with
  | zero => exact .nil
  | succ len ih => rw [List.replicate_succ, List.replicate_succ, List.flatten_cons, List.flatten_cons]; exact hc.append ih

theorem mapM_run {α β : Type} {P : Program} {w : World} {f : α → Sem β} {g : α → β} : ∀ (l : List α), (∀ x ∈ l, (f x).run P w = .ok (g x) w) → (l.mapM f).run P w = .ok (l.map g) w := by
  intro l
  induction l with
  | nil => intro _; simp
  | cons x l ih =>
    intro h
    rw [List.mapM_cons]
    simp [h x (by simp), ih fun y hy => h y (by simp [hy])]

section
variable {E : Env} {P : Program} (hE : E.Ok P) {m : Mp} {S : St} {w : World} (hH : HR E m S w)
include hE hH

/-- Parts of a literal: D's, and the model's. -/
def PR (m : Mp) (parts parts' : List (Nat × Value)) : Prop :=
  parts.length = parts'.length ∧ ∀ (i : Nat) p p', parts[i]? = some p → parts'[i]? = some p' → p.1 = p'.1 ∧ VR m p.2 p'.2

theorem size_of {t : TypeId} {s : Nat} (h : E.size t = some s) : ∃ d, E.inf t = some d ∧ d.size = s := by
  unfold Env.size at h; simpa using h
theorem und_of {t : TypeId} {u : TypeDesc} (h : E.und t = some u) : ∃ d, E.inf t = some d ∧ d.und = u := by
  unfold Env.und at h; simpa using h

theorem buildD_sim {t : TypeId} {parts : List (Nat × Value)} {parts' : Array (Nat × Value)} {v : Value} (h : buildD E t parts = some v) (hp : PR m parts parts'.toList) :
    SV P m w (Instr.build t parts') v := by
  unfold buildD at h
  split at h
  · cases h
  · rename_i d hd
    rw [Option.bind_eq_some_iff] at h
    obtain ⟨z, hz, h⟩ := h
    have hc := cells_vr ((zero_plain hE hd hz).vr (m := m))
    split at h
    · rename_i fields hu
      obtain ⟨hall, h⟩ := cond_some h
      rw [Option.map_eq_some_iff] at h
      obtain ⟨l, hl, rfl⟩ := h
      rw [List.all_eq_true] at hall
      let g : Field → Nat × Nat := fun f => (f.offset, (E.size f.type).getD 0)
      have hm := mapM_run (P := P) (w := w) (f := fun f : Field => (do pure (f.offset, ← sizeOf f.type) : Sem (Nat × Nat))) (g := g) fields.toList (by
        intro f hf
        have := hall f hf
        obtain ⟨df, hdf⟩ := Option.isSome_iff_exists.1 this
        simp [run_size hE hdf w, g, Env.size, hdf])
      obtain ⟨out', h1, h2⟩ := fillD_run (m := m) (place' := ((fields.toList.map g).toArray[·]?)) (by
        intro i p hi
        rw [Option.bind_eq_some_iff] at hi
        obtain ⟨f, hf, hi⟩ := hi
        rw [Option.map_eq_some_iff] at hi
        obtain ⟨s, hs, rfl⟩ := hi
        simp [g, hf, hs]) hl hc hp.1 hp.2
      refine ⟨.agg out', ?_, ?_⟩
      · simp only [Instr.build, Sem.run_bind, run_zero hE hd w hz, Result.andThen_ok, run_und hE hd w, hu, Array.mapM_eq_mapM_toList, Sem.run_map, hm]
        simp only [Array.toArray_toList] at h1
        simp only [h1, Sem.run_pure]
      · obtain ⟨h3, h4⟩ := VRs.array (a := l.toArray) (a' := out') (by simpa using h2)
        exact .agg _ _ h3 h4
    · rename_i n e hu
      rw [Option.bind_eq_some_iff] at h
      obtain ⟨s, hs, h⟩ := h
      obtain ⟨de, hde, rfl⟩ := size_of hE hH hs
      rw [Option.map_eq_some_iff] at h
      obtain ⟨l, hl, rfl⟩ := h
      obtain ⟨out', h1, h2⟩ := fillD_run (m := m) (fun i p hi => hi) hl hc hp.1 hp.2
      refine ⟨.agg out', ?_, ?_⟩
      · simp only [Instr.build, Sem.run_bind, run_zero hE hd w hz, Result.andThen_ok, run_und hE hd w, hu, run_size hE hde w]
        simp only [Array.toArray_toList] at h1
        simp [h1]
      · obtain ⟨h3, h4⟩ := VRs.array (a := l.toArray) (a' := out') (by simpa using h2)
        exact .agg _ _ h3 h4
    · cases h

theorem fieldD_sim {t : TypeId} {x x' v : Value} {f : Nat} (h : fieldD E t x f = some v) (hx : VR m x x') : SV P m w (Instr.field t x' f) v := by
  unfold fieldD at h
  split at h
  · rename_i fields cs hu
    obtain ⟨d, hd, hu⟩ := und_of hE hH hu
    simp only [Option.bind_eq_some_iff] at h
    obtain ⟨fd, hf, i, hi, h⟩ := h
    cases hx with
    | agg _ cs' h1 h2 =>
      obtain ⟨v', h3, h4⟩ := partD_run hE (P := P) (w := w) hi (VRs.of_array h1 h2) h
      exact ⟨v', by simp [Instr.field, run_und hE hd w, hu, hf, asAgg, h3], h4⟩
  · cases h

theorem fieldAddrD_sim {t : TypeId} {x x' v : Value} {f : Nat} (h : fieldAddrD E t x f = some v) (hx : VR m x x') : SV P m w (Instr.fieldAt t x' f) v := by
  unfold fieldAddrD at h
  split at h
  · rename_i fields b o hu
    obtain ⟨d, hd, hu⟩ := und_of hE hH hu
    rw [Option.bind_eq_some_iff] at h
    obtain ⟨fd, hf, h⟩ := h
    split at h
    · rename_i k hk
      obtain ⟨df, hdf, hsz⟩ := size_of hE hH hk
      cases h
      cases hx with
      | ptr _ _ y hy =>
        refine ⟨.pointer (some ⟨y.blk, y.base + (o + fd.offset), none⟩), ?_, .ptr _ _ y hy⟩
        simp only [Instr.fieldAt, Sem.run_bind, run_und hE hd w, hu, Result.andThen_ok, hf, Instr.sureAddr, Sem.run_pure, fieldPlace, run_size hE hdf w, hsz]
        simp only [Nat.add_one_ne_zero, if_false, Sem.run_pure, Result.andThen_ok, Addr.add]
        split
        · rename_i h0; simp [h0]
        · simp [Nat.add_assoc]
    · cases h
  · cases h

theorem indexD_sim {t : TypeId} {x x' i i' v : Value} (h : indexD E t x i = some v) (hx : VR m x x') (hi : VR m i i') : SV P m w (Instr.index t x' i') v := by
  unfold indexD at h
  split at h
  · rename_i s k n hu
    obtain ⟨d, hd, hu⟩ := und_of hE hH hu
    cases hx; cases hi
    obtain ⟨h1, h2⟩ := cond_some h
    rw [Option.map_eq_some_iff] at h2
    obtain ⟨b, h3, rfl⟩ := h2
    simp only [decide_eq_true_eq] at h1
    refine ⟨_, ?_, .int _ _⟩
    have h4 : s[n.toNat]? = some b := by
      have h5 : s.data[n.toNat]? = some b := by simpa using h3
      rw [getElem?_def]
      have hlt : n.toNat < s.data.size := (Array.getElem?_eq_some_iff.1 h5).1
      have hlt' : n.toNat < s.size := hlt
      rw [dif_pos hlt']
      rw [Array.getElem?_eq_getElem hlt] at h5
      exact h5
    simp only [Instr.index, asIntOf, Sem.run_bind, Sem.run_pure, Result.andThen_ok, run_und hE hd w, hu, h1, if_true, h4]
  · rename_i len e cs k n hu
    obtain ⟨d, hd, hu⟩ := und_of hE hH hu
    rw [Option.bind_eq_some_iff] at h
    obtain ⟨de, hde, h⟩ := h
    obtain ⟨h1, h2⟩ := cond_some h
    simp only [Bool.and_eq_true, decide_eq_true_eq] at h1
    cases hi
    cases hx with
    | agg _ cs' g1 g2 =>
      obtain ⟨v', h3, h4⟩ := partD_run hE (P := P) (w := w) hde (VRs.of_array g1 g2) h2
      exact ⟨v', by simp [Instr.index, asIntOf, run_und hE hd w, hu, h1, run_size hE hde w, h3], h4⟩
  · cases h

theorem indexAddrD_sim {t : TypeId} {x x' i i' v : Value} (h : indexAddrD E t x i = some v) (hx : VR m x x') (hi : VR m i i') : SV P m w (Instr.indexAt t x' i') v := by
  unfold indexAddrD at h
  split at h
  · rename_i e b o len cap k n hu
    obtain ⟨d, hd, hu⟩ := und_of hE hH hu
    rw [Option.bind_eq_some_iff] at h
    obtain ⟨s, hs, h⟩ := h
    obtain ⟨de, hde, rfl⟩ := size_of hE hH hs
    obtain ⟨h1, h2⟩ := cond_some h
    simp only [Bool.and_eq_true, decide_eq_true_eq] at h1
    cases h2
    cases hi
    have key : ∀ y cap', m b = some y → SV P m w (Instr.indexAt t (.slice (some ⟨y.blk, y.base + o, none⟩) len cap') (.int k n)) (.pointer (some ⟨b, o + n.toNat * de.size, none⟩)) := by
      intro y cap' hy
      refine ⟨.pointer (some ⟨y.blk, y.base + (o + n.toNat * de.size), none⟩), ?_, .ptr _ _ y hy⟩
      simp only [Instr.indexAt, asIntOf, Sem.run_bind, Sem.run_pure, Result.andThen_ok, run_und hE hd w, hu, h1, and_self, if_true, run_size hE hde w, Addr.add]
      split
      · rename_i h0; simp [h0]
      · simp [Nat.add_assoc]
    cases hx with
    | sl _ _ _ _ y hy _ _ => exact key y _ hy
    | slx _ _ _ cap' y hy _ _ => exact key y _ hy
    | sle _ _ a y hy _ => omega
    | slz _ _ a => omega
  · rename_i len e b o k n hu
    obtain ⟨d, hd, hu⟩ := und_of hE hH hu
    rw [Option.bind_eq_some_iff] at h
    obtain ⟨s, hs, h⟩ := h
    obtain ⟨de, hde, rfl⟩ := size_of hE hH hs
    obtain ⟨h1, h2⟩ := cond_some h
    simp only [Bool.and_eq_true, decide_eq_true_eq] at h1
    cases h2
    cases hi
    cases hx with
    | ptr _ _ y hy =>
      refine ⟨.pointer (some ⟨y.blk, y.base + (o + n.toNat * de.size), none⟩), ?_, .ptr _ _ y hy⟩
      simp only [Instr.indexAt, asIntOf, Sem.run_bind, Sem.run_pure, Result.andThen_ok, run_und hE hd w, hu, h1, and_self, if_true, run_size hE hde w, Addr.add, Instr.sureAddr]
      split
      · rename_i h0; simp [h0]
      · simp [Nat.add_assoc]
  · cases h


theorem buildSliceD_sim {t : TypeId} {len : Nat} {parts : List (Nat × Value)} {parts' : Array (Nat × Value)} {v : Value} {S' : St} (h : buildSliceD E S t len parts = some (v, S')) (hp : PR m parts parts'.toList) :
    SP E P m S w (Instr.buildSlice t len parts') v S' := by
  unfold buildSliceD at h
  split at h
  · rename_i e hu
    obtain ⟨d, hd, hu⟩ := und_of hE hH hu
    split at h
    · rename_i i hi
      rw [Option.bind_eq_some_iff] at h
      obtain ⟨z, hz, h⟩ := h
      obtain ⟨hb, h⟩ := cond_some h
      simp only [Bool.and_eq_true, Nat.ble_eq] at hb
      obtain ⟨⟨hb1, hb2⟩, hb3⟩ := hb
      have hb3 := Nat.eq_of_beq_eq_true hb3
      rw [Option.map_eq_some_iff] at h
      obtain ⟨l, hl, h⟩ := h
      cases h
      have hpl := zero_plain hE hi hz
      have hzc := zerosD_vr (m := m) hpl len
      have hzs : z.cells.size = i.size := by have := (cells_vr (hpl.vr (m := m))).length; simp at this; omega
      obtain ⟨out', h1, h2⟩ := fillD_run (m := m) (fun i p hi => hi) hl hzc hp.1 hp.2
      obtain ⟨x, h3, h4, h5, h6⟩ := newCells_run hH h2 e
      refine ⟨.slice (some ⟨w.heap.size, 0, none⟩) len len, _, _, ?_, ?_, h5, h6⟩
      · have hns : ¬ (len * i.size > 2 ^ 24) := by omega
        by_cases h0 : len * i.size = 0
        · have hfl : (List.replicate len z.cells.toList).flatten = [] := by
            rw [← List.length_eq_zero_iff]; simp [hzs, h0]
          rw [hfl] at h1
          have h1' : Instr.fill (fun j => some (j * i.size, i.size)) #[] parts'.toList = some out' := h1
          have hr : Array.range 0 = #[] := rfl
          simp [Instr.buildSlice, run_und hE hd w, hu, run_size hE hi w, h0, hr, h1', newRow, Result.andThen]
        · have hcells : (Array.range (len * i.size)).map (fun j => z.cells[j % z.cells.size]!) = (List.replicate len z.cells.toList).flatten.toArray := by
            rw [← hzs]
            apply Array.ext'
            rw [zeros_list]
          simp only [Instr.buildSlice, Sem.run_bind, run_und hE hd w, hu, Result.andThen_ok, run_size hE hi w, hns, if_false, h0, run_zero hE hi w hz, Sem.run_pure, hcells, h1]
          simp [newRow, Result.andThen]
      · have hne : len ≠ inex := by unfold inex; omega
        have := VR.sl (m := m.put S.next x) S.next 0 len len x (by simp) hne (Nat.le_refl _)
        rw [h3, h4] at this; exact this
    · cases h
  · cases h

theorem makeSliceD_sim {t : TypeId} {l l' c c' v : Value} {S' : St} (h : makeSliceD E S t l c = some (v, S')) (hl : VR m l l') (hc : VR m c c') :
    SP E P m S w (Instr.makeSlice t l' c') v S' := by
  unfold makeSliceD at h
  split at h
  · rename_i e k ln k' cp hu
    obtain ⟨d, hd, hu⟩ := und_of hE hH hu
    cases hl; cases hc
    split at h
    · rename_i i hi
      rw [Option.bind_eq_some_iff] at h
      obtain ⟨z, hz, h⟩ := h
      obtain ⟨hb, h⟩ := cond_some h
      cases h
      simp only [Bool.and_eq_true, Nat.ble_eq, decide_eq_true_eq] at hb
      obtain ⟨⟨⟨⟨⟨hb1, hb2⟩, hb3⟩, hb4⟩, hb5⟩, hb6⟩ := hb
      have hb5 := Nat.eq_of_beq_eq_true hb5
      have hpl := zero_plain hE hi hz
      have hzc := zerosD_vr (m := m) hpl cp.toNat
      have hzs : z.cells.size = i.size := by have := (cells_vr (hpl.vr (m := m))).length; simp at this; omega
      obtain ⟨x, h3, h4, h5, h6⟩ := newCells_run hH hzc e
      obtain ⟨ti, g1, g2, g3, g4⟩ := run_typeInfo hE hi w
      refine ⟨.slice (some ⟨w.heap.size, 0, none⟩) ln.toNat cp.toNat, _, _, ?_, ?_, h5, h6⟩
      · have w1 : IntKind.i64.wrap ln = ln := by simp [IntKind.wrap, IntKind.bits, IntKind.signed]; omega
        have w2 : IntKind.i64.wrap cp = cp := by simp [IntKind.wrap, IntKind.bits, IntKind.signed]; omega
        have hbig : (decide (cp < 0) || decide ((ti.bytes : Int) * cp > 2 ^ 48)) = false := by
          rw [g3, Bool.or_eq_false_iff]; simp; omega
        have hn2 : ¬ (ln < 0) := by omega
        have hn3 : ¬ (ln > cp) := by omega
        by_cases h0 : cp.toNat * i.size = 0
        · have hfl : (List.replicate cp.toNat z.cells.toList).flatten = [] := by
            rw [← List.length_eq_zero_iff]; simp [hzs, h0]
          simp only [Instr.makeSlice, Sem.run_bind, run_und hE hd w, hu, Result.andThen_ok, asInt, asIntOf, Sem.run_pure, g1, w1, w2]
          simp only [hbig, hn2, hn3, decide_false, Bool.or_false, Bool.false_eq_true, if_false, Sem.run_bind, run_askRoom, Result.andThen_ok, run_size hE hi w, h0, if_true, Sem.run_pure]
          have hr : Array.range 0 = #[] := rfl
          simp [newRow, Result.andThen, hfl, hr]
        · have hcells : (Array.range (cp.toNat * i.size)).map (fun j => z.cells[j % z.cells.size]!) = (List.replicate cp.toNat z.cells.toList).flatten.toArray := by
            rw [← hzs]
            apply Array.ext'
            rw [zeros_list]
          simp only [Instr.makeSlice, Sem.run_bind, run_und hE hd w, hu, Result.andThen_ok, asInt, asIntOf, Sem.run_pure, g1, w1, w2]
          simp only [hbig, hn2, hn3, decide_false, Bool.or_false, Bool.false_eq_true, if_false, Sem.run_bind, run_askRoom, Result.andThen_ok, run_size hE hi w, h0, run_zero hE hi w hz, Sem.run_pure, hcells]
          simp [newRow, Result.andThen]
      · have hne : cp.toNat ≠ inex := by unfold inex; omega
        have := VR.sl (m := m.put S.next x) S.next 0 ln.toNat cp.toNat x (by simp) hne (by omega)
        rw [h3, h4] at this; exact this
    · cases h
  · cases h

omit hE hH in
theorem natOf_vr {v v' : Value} {n : Nat} (h : natOf v = some n) (hv : VR m v v') : ∃ k i, v' = .int k i ∧ 0 ≤ i ∧ i.toNat = n := by
  unfold natOf at h
  split at h
  · obtain ⟨h1, h2⟩ := cond_some h; cases h2; cases hv
    exact ⟨_, _, rfl, by simpa using h1, rfl⟩
  · cases h
omit hE hH in
theorem bound_run {v v' : Value} {n y : Nat} {code : BoundsCode} (h : natOf v = some n) (hv : VR m v v') (hy : n ≤ y) : (Instr.sliceBound v' y code).run P w = .ok n w := by
  obtain ⟨k, i, rfl, h1, h2⟩ := natOf_vr h hv
  have : 0 ≤ i ∧ i ≤ (y : Int) := by omega
  simp [Instr.sliceBound, asIntOf, this, h2]

/-- Optional values. -/
def VRo (m : Mp) : Option Value → Option Value → Prop
  | none, none => True
  | some v, some v' => VR m v v'
  | _, _ => False

omit hE hH in
theorem sliceBounds_run {isS : Bool} {len cap known : Nat} {lo lo' hi hi' mx mx' : Option Value} {l h M : Nat} (hlo : VRo m lo lo') (hhi : VRo m hi hi') (hmx : VRo m mx mx')
    (eM : optNat (some known) mx = some M) (eh : optNat (cond mx.isNone (some len) none) hi = some h) (el : optNat (some 0) lo = some l) (h1 : M ≤ known) (h2 : h ≤ M) (h3 : l ≤ h) (h4 : known ≤ cap) :
    (Instr.sliceBounds isS len cap lo' hi' mx').run P w = .ok (l, h, if mx.isSome then M else cap) w := by
  cases mx with
  | none =>
    cases mx' with
    | some _ => cases hmx
    | none =>
      simp only [optNat, Option.some.injEq] at eM
      subst eM
      cases hi with
      | none =>
        cases hi' with
        | some _ => cases hhi
        | none =>
          simp only [optNat, Option.isNone_none, cond_true, Option.some.injEq] at eh
          subst eh
          cases lo with
          | none =>
            cases lo' with
            | some _ => cases hlo
            | none => simp only [optNat, Option.some.injEq] at el; subst el; simp [Instr.sliceBounds]
          | some v =>
            cases lo' with
            | none => cases hlo
            | some v' => simp [Instr.sliceBounds, bound_run (P := P) (w := w) (code := .sliceB) el hlo h3]
      | some u =>
        cases hi' with
        | none => cases hhi
        | some u' =>
          have b1 : ∀ c, (Instr.sliceBound u' cap c).run P w = .ok h w := fun c => bound_run eh hhi (by omega)
          cases lo with
          | none =>
            cases lo' with
            | some _ => cases hlo
            | none => simp only [optNat, Option.some.injEq] at el; subst el; simp [Instr.sliceBounds, b1]
          | some v =>
            cases lo' with
            | none => cases hlo
            | some v' => simp [Instr.sliceBounds, b1, bound_run (P := P) (w := w) (code := .sliceB) el hlo h3]
  | some u0 =>
    cases mx' with
    | none => cases hmx
    | some u0' =>
      have b0 : ∀ c, (Instr.sliceBound u0' cap c).run P w = .ok M w := fun c => bound_run eM hmx (by omega)
      cases hi with
      | none => cases eh
      | some u =>
        cases hi' with
        | none => cases hhi
        | some u' =>
          have b1 : ∀ c, (Instr.sliceBound u' M c).run P w = .ok h w := fun c => bound_run eh hhi h2
          cases lo with
          | none =>
            cases lo' with
            | some _ => cases hlo
            | none => simp only [optNat, Option.some.injEq] at el; subst el; simp [Instr.sliceBounds, b0, b1]
          | some v =>
            cases lo' with
            | none => cases hlo
            | some v' => simp [Instr.sliceBounds, b0, b1, bound_run (P := P) (w := w) (code := .slice3C) el hlo h3]

end

end Go.Proofs.Ytcdignblakejoaa.D

/-
  D, part 8: one operation of D, and the model's: slice expressions, conversions, maps.
-/
namespace Go.Proofs.Ytcdignblakejoaa.D
set_option linter.unusedSectionVars false

section
variable {E : Env} {P : Program} (hE : E.Ok P) {m : Mp} {S : St} {w : World} (hH : HR E m S w)
include hE hH

theorem moreIs_sz {b s : Nat} {x : BM} (h : moreIs S b s = true) (hm : m b = some x) : x.sz = s := by
  unfold moreIs at h
  split at h
  · rename_i cs z ro fz hg
    obtain ⟨y, ccs, e, fr, h1, _, _, _, _, _, h2⟩ := hH.cells ⟨x, hm⟩ hg
    rw [hm] at h1; cases h1
    rw [(h2 z rfl).1]; exact Nat.eq_of_beq_eq_true h
  · cases h

theorem roomD_le {b o s c : Nat} {x : BM} (hm : m b = some x) (ht : x.base + o + c * x.sz = x.tot) : roomD S b o s ≤ c := by
  unfold roomD
  split
  · rename_i cs z ro fz hg
    obtain ⟨y, ccs, e, fr, h1, _, h3, h4, _, _, h2⟩ := hH.cells ⟨x, hm⟩ hg
    rw [hm] at h1; cases h1
    have hz := (h2 z rfl).1
    cases hc : (Nat.beq (szT z) s && Nat.blt 0 s) with
    | false => exact Nat.zero_le _
    | true =>
      simp only [Bool.and_eq_true] at hc
      have e1 := Nat.eq_of_beq_eq_true hc.1
      have e2 := Nat.blt_eq.mp hc.2
      show (cs.length - o) / s ≤ c
      rw [hz, e1] at ht
      have : cs.length - o ≤ c * s := by omega
      calc (cs.length - o) / s ≤ (c * s) / s := Nat.div_le_div_right this
        _ = c := Nat.mul_div_cancel _ e2
  · exact Nat.zero_le _
theorem kcapD_slx {b o s len c : Nat} {x : BM} (hm : m b = some x) (hl : len ≤ c) (ht : x.base + o + c * x.sz = x.tot) : kcapD S s (some ⟨b, o, none⟩) len inex ≤ c := by
  have hbe : Nat.beq inex inex = true := by simp
  unfold kcapD
  rw [hbe]
  exact Nat.max_le.2 ⟨hl, roomD_le hE hH hm ht⟩
theorem kcapD_sle {b o s : Nat} {x : BM} (hm : m b = some x) (ht : x.base + o = x.tot) : kcapD S s (some ⟨b, o, none⟩) 0 inex = 0 :=
  Nat.le_zero.1 (kcapD_slx hE hH hm (Nat.le_refl _) (by rw [← ht]; omega))
omit hE hH in
theorem kcapD_ne {s len c : Nat} {a : Option Addr} (h : c ≠ inex) : kcapD S s a len c = c := by
  unfold kcapD; rw [PM.beq_f h]; rfl

theorem sliceD_sim {t : TypeId} {x x' v : Value} {lo lo' hi hi' mx mx' : Option Value} (h : sliceD E S t x lo hi mx = some v) (hx : VR m x x') (hlo : VRo m lo lo') (hhi : VRo m hi hi') (hmx : VRo m mx mx') :
    SV P m w (Instr.sliceAt t x' lo' hi' mx') v := by
  unfold sliceD at h
  split at h
  · rename_i hu
    obtain ⟨d, hd, hu⟩ := und_of hE hH hu
    split at h
    · rename_i s
      cases hx
      cases mx' with
      | some _ => cases hmx
      | none =>
        simp only [Option.bind_eq_some_iff] at h
        obtain ⟨H, h1, L, h2, h3⟩ := h
        obtain ⟨h4, h5⟩ := cond_some h3
        simp only [Bool.and_eq_true, Nat.ble_eq] at h4
        cases h5
        have hlen : s.data.toList.length = s.size := Array.length_toList
        have hb := sliceBounds_run (P := P) (w := w) (isS := false) (len := s.size) (cap := s.size) (known := s.size) (mx := none) (mx' := none) (M := s.size) hlo hhi trivial rfl
          (by rw [← hlen]; exact h1) h2 (Nat.le_refl _) (by omega) h4.2 (Nat.le_refl _)
        refine ⟨.string (s.extract L H), ?_, ?_⟩
        · simp only [Instr.sliceAt, Sem.run_bind, run_und hE hd w, hu, Result.andThen_ok, Instr.slice, hb, Option.isSome_none, Bool.false_eq_true, if_false, Sem.run_pure]
        · have : (⟨((s.data.toList.drop L).take (H - L)).toArray⟩ : ByteArray) = s.extract L H := by
            apply ByteArray.ext; apply Array.ext'; simp [Array.toList_extract, List.extract_eq_take_drop]
          rw [this]; exact .string _
    · cases h
  · rename_i e hu
    obtain ⟨d, hd, hu⟩ := und_of hE hH hu
    rw [Option.bind_eq_some_iff] at h
    obtain ⟨s, hs, h⟩ := h
    obtain ⟨de, hde, rfl⟩ := size_of hE hH hs
    split at h
    · rename_i a len cap
      simp only [Option.bind_eq_some_iff] at h
      obtain ⟨M, h0, H, h1, L, h2, h3⟩ := h
      obtain ⟨h4, h5⟩ := cond_some h3
      clear h3
      simp only [Bool.and_eq_true, Nat.ble_eq, Nat.blt_eq] at h4
      obtain ⟨⟨⟨h4, h6⟩, h7⟩, h8⟩ := h4
      have run : ∀ (a' : Option Addr) (cap' : Nat), kcapD S de.size a len cap ≤ cap' →
          (Instr.sliceAt t (.slice a' len cap') lo' hi' mx').run P w =
            .ok (.slice (if (if mx.isSome then M else cap') = L then a' else a'.map (·.add (L * de.size))) (H - L) ((if mx.isSome then M else cap') - L)) w := by
        intro a' cap' hk
        have hb := sliceBounds_run (P := P) (w := w) (isS := true) (len := len) (cap := cap') hlo hhi hmx h0 h1 h2 h4 h6 h7 hk
        simp only [Instr.sliceAt, Sem.run_bind, run_und hE hd w, hu, Result.andThen_ok, Instr.slice, hb, run_size hE hde w, Sem.run_pure]
      have nat : ∀ (y : BM) (o : Nat), Addr.add ⟨y.blk, y.base + o, none⟩ (L * de.size) = ⟨y.blk, y.base + (o + L * de.size), none⟩ := by
        intro y o
        unfold Addr.add; split
        · rename_i h0; simp [h0]
        · simp [Nat.add_assoc]
      cases a with
      | none =>
        cases h5
        cases hx
        have ec : kcapD S de.size none 0 0 = 0 := kcapD_ne (by decide)
        have := run none 0 (by rw [ec]; exact Nat.le_refl _)
        refine ⟨_, this, ?_⟩
        have e0 : M = 0 ∧ H = 0 ∧ L = 0 := by
          rw [ec] at h4
          omega
        obtain ⟨rfl, rfl, rfl⟩ := e0
        simp
        exact .nils
      | some a =>
        obtain ⟨b, o, sp⟩ := a
        cases sp with
        | some _ => cases h5
        | none =>
          dsimp only at h5
          cases hc : (Nat.beq cap inex && mx.isNone) with
          | true =>
            rw [hc] at h5
            obtain ⟨h9, h10⟩ := cond_some h5
            cases h10
            simp only [Bool.and_eq_true] at hc
            have ec := Nat.eq_of_beq_eq_true hc.1
            subst ec
            have hmn : mx.isSome = false := by cases mx <;> simp_all
            simp only [hmn, Bool.false_eq_true, if_false] at run
            have hM : M = kcapD S de.size (some ⟨b, o, none⟩) len inex := by
              cases mx with
              | none => simp only [optNat, Option.some.injEq] at h0; exact h0.symm
              | some _ => simp at hmn
            cases hx with
            | sl _ _ _ _ y hy hne _ => exact absurd rfl hne
            | slx _ _ _ cap' y hy hle htot =>
              have hsz := moreIs_sz hE hH h9 hy
              have hcl := kcapD_slx (s := de.size) hE hH hy hle htot
              refine ⟨_, run _ cap' hcl, ?_⟩
              by_cases hcl : cap' = L
              · rw [if_pos hcl]
                have e1 : H - L = 0 := by omega
                have e2 : cap' - L = 0 := by omega
                rw [e1, e2]
                exact .sle b _ _ y hy (by rw [← htot, hsz, hcl]; omega)
              · rw [if_neg hcl]
                simp only [Option.map_some, nat]
                refine .slx b _ _ _ y hy (by omega) ?_
                rw [← htot, hsz, Nat.sub_mul]
                have : L * de.size ≤ cap' * de.size := Nat.mul_le_mul_right _ (by omega)
                omega
            | sle _ _ a' y hy htot =>
              have ec := kcapD_sle (s := de.size) hE hH hy htot
              rw [ec] at hM run
              have e0 : H = 0 ∧ L = 0 := by omega
              obtain ⟨rfl, rfl⟩ := e0
              refine ⟨_, run _ 0 (Nat.le_refl _), ?_⟩
              simp
              exact .sle b o a' y hy htot
          | false =>
            rw [hc] at h5
            simp only [cond_false, Option.some.injEq] at h5
            subst h5
            have key : ∀ (y : BM) (cap' : Nat), m b = some y → (if mx.isSome then M else cap') = M → kcapD S de.size (some ⟨b, o, none⟩) len cap ≤ cap' →
                SV P m w (Instr.sliceAt t (.slice (some ⟨y.blk, y.base + o, none⟩) len cap') lo' hi' mx') (.slice (some ⟨b, cond (Nat.beq M L) o (o + L * de.size), none⟩) (H - L) (M - L)) := by
              intro y cap' hy hMM hk
              refine ⟨_, run _ cap' hk, ?_⟩
              rw [hMM]
              by_cases hml : M = L
              · subst hml
                rw [if_pos rfl]
                have : Nat.beq M M = true := by simp
                rw [this]
                exact .sl b o _ _ y hy (by unfold inex; omega) (by omega)
              · rw [if_neg hml, PM.beq_f hml]
                simp only [Option.map_some, nat, cond_false]
                exact .sl b _ _ _ y hy (by omega) (by omega)
            cases hx with
            | sl _ _ _ _ y hy hne hle =>
              refine key y cap hy ?_ (by rw [kcapD_ne hne]; exact Nat.le_refl _)
              cases mx with
              | some _ => rfl
              | none =>
                rw [kcapD_ne hne] at h0
                simp only [optNat, Option.some.injEq] at h0
                simpa using h0
            | slx _ _ _ cap' y hy hle htot =>
              have hbe : Nat.beq inex inex = true := by simp
              refine key y cap' hy ?_ (kcapD_slx hE hH hy hle htot)
              cases mx with
              | some _ => rfl
              | none => rw [hbe] at hc; cases hc
            | slz _ _ a' =>
              have ec : kcapD S de.size (some ⟨b, o, none⟩) 0 0 = 0 := kcapD_ne (by decide)
              rw [ec] at h4
              have e0 : M = 0 ∧ H = 0 ∧ L = 0 := by omega
              obtain ⟨rfl, rfl, rfl⟩ := e0
              refine ⟨_, run _ 0 (by rw [ec]; exact Nat.le_refl _), ?_⟩
              simp
              exact .slz b o a'
            | sle _ _ a' y hy htot =>
              have hbe : Nat.beq inex inex = true := by simp
              have ec := kcapD_sle (s := de.size) hE hH hy htot
              rw [ec] at h4
              have e0 : M = 0 ∧ H = 0 ∧ L = 0 := by omega
              obtain ⟨rfl, rfl, rfl⟩ := e0
              cases mx with
              | none => rw [hbe] at hc; cases hc
              | some u =>
                refine ⟨_, run _ 0 (by rw [ec]; exact Nat.le_refl _), ?_⟩
                simp
                exact .slz b o a'
    · cases h
  · rename_i n e hu
    obtain ⟨d, hd, hu⟩ := und_of hE hH hu
    rw [Option.bind_eq_some_iff] at h
    obtain ⟨s, hs, h⟩ := h
    obtain ⟨de, hde, rfl⟩ := size_of hE hH hs
    split at h
    · rename_i b o
      simp only [Option.bind_eq_some_iff] at h
      obtain ⟨M, h0, H, h1, L, h2, h3⟩ := h
      obtain ⟨h4, h5⟩ := cond_some h3
      clear h3
      cases h5
      simp only [Bool.and_eq_true, Nat.ble_eq, Nat.blt_eq] at h4
      obtain ⟨⟨⟨h4, h6⟩, h7⟩, h8⟩ := h4
      cases hx with
      | ptr _ _ y hy =>
        have hb := sliceBounds_run (P := P) (w := w) (isS := false) (len := n) (cap := n) hlo hhi hmx h0 h1 h2 h4 h6 h7 (Nat.le_refl _)
        have hM : (if mx.isSome = true then M else n) = M := by
          cases mx with
          | none => simp only [optNat, Option.some.injEq] at h0; simp [h0]
          | some _ => rfl
        rw [hM] at hb
        refine ⟨.slice (some (if M = L then ⟨y.blk, y.base + o, none⟩ else Addr.add ⟨y.blk, y.base + o, none⟩ (L * de.size))) (H - L) (M - L), ?_, ?_⟩
        · simp only [Instr.sliceAt, Sem.run_bind, run_und hE hd w, hu, Result.andThen_ok, Instr.sureAddr, hb, run_size hE hde w, Sem.run_pure]
        · by_cases hml : M = L
          · subst hml
            rw [if_pos rfl]
            have : Nat.beq M M = true := by simp
            rw [this]
            exact .sl b o _ _ y hy (by unfold inex; omega) (by omega)
          · rw [if_neg hml, PM.beq_f hml]
            have nat : Addr.add ⟨y.blk, y.base + o, none⟩ (L * de.size) = ⟨y.blk, y.base + (o + L * de.size), none⟩ := by
              unfold Addr.add; split
              · rename_i h0; simp [h0]
              · simp [Nat.add_assoc]
            rw [nat]
            exact .sl b _ _ _ y hy (by omega) (by omega)
    · cases h
  · cases h
end

end Go.Proofs.Ytcdignblakejoaa.D

/-
  D, part 9: one operation of D, and the model's: conversions, maps.
-/
namespace Go.Proofs.Ytcdignblakejoaa.D
set_option linter.unusedSectionVars false

theorem bytesOfS_plain (s : ByteArray) : ∀ v ∈ bytesOfS s, Plain v := by
  intro v hv
  simp only [bytesOfS, List.mem_map] at hv
  obtain ⟨b, _, rfl⟩ := hv
  exact .int _ _

theorem freeze_alloc (W : World) (c : Array Value) (e : TypeId) (off : Nat) :
    (W.alloc (.cells c e)).freeze ⟨W.heap.size, off, none⟩ 1 = W.alloc (.cells c e (off, off + 1)) := by
  unfold World.freeze World.alloc
  simp only [Nat.one_ne_zero, if_false]
  congr 1
  apply Array.ext_getElem?
  intro i
  rw [Array.getElem?_modify, Array.getElem?_push, Array.getElem?_push]
  by_cases hi : W.heap.size = i
  · subst hi; simp
  · rw [if_neg hi, if_neg (fun h => hi h.symm), if_neg (fun h => hi h.symm)]

def cellsB (b : ByteArray) (c : Nat) : Array Value := (b.data.map fun c => .int .u8 c.toNat) ++ Array.replicate (c - b.size) (.int .u8 0)
theorem cellsB_size {b : ByteArray} {c : Nat} (h : b.size ≤ c) : (cellsB b c).size = c := by
  have : b.data.size = b.size := rfl
  simp only [cellsB, Array.size_append, Array.size_map, Array.size_replicate]; omega
theorem loadN_len {S : St} {b o n : Nat} {l : List Value} (h : S.loadN b o n = some l) : l.length = n := by
  unfold St.loadN at h
  split at h
  · obtain ⟨h1, h2⟩ := cond_some h
    cases h2; exact Nat.eq_of_beq_eq_true h1
  · cases h
theorem shape_alloc (W : World) (c : Array Value) (e : TypeId) : (W.alloc (.cells c e)).shape? W.heap.size = some (e, c.size) := by
  have := World.alloc_heap_new W (.cells c e)
  unfold World.shape?; rw [this]
theorem stringToBytes_run {P : Program} (w : World) (e : TypeId) (b : ByteArray) : ∃ c, b.size ≤ c ∧
    (Conv.stringToBytes e b).run P w = .ok (.slice (some ⟨w.heap.size, 0, none⟩) b.size c) (w.drew.alloc (.cells (cellsB b c) e (c, c + 1))) := by
  refine ⟨b.size + (w.tape w.drawn (.appendCap b.size 0 e)) % (2 ^ 63 - b.size), Nat.le_add_right _ _, ?_⟩
  have e1 : ∀ O, ({ heap := w.heap.push O, tape := w.tape, drawn := w.drawn + 1, os := w.os, output := w.output } : World) = w.drew.alloc O := fun _ => rfl
  simp only [Conv.stringToBytes, Sem.run_bind, run_choose, Question.forced, Bool.false_eq_true, if_false, Result.andThen_ok, Question.cut, newRow, run_newObj, Sem.run_pure, markStringish, run_shape]
  generalize w.tape w.drawn (.appendCap b.size 0 e) % (2 ^ 63 - b.size) = k
  have hs := shape_alloc w.drew (cellsB b (b.size + k)) e
  have hf := freeze_alloc w.drew (cellsB b (b.size + k)) e (b.size + k)
  have hsz := cellsB_size (b := b) (c := b.size + k) (Nat.le_add_right _ _)
  rw [hsz] at hs
  unfold cellsB at hs hf
  simp only [World.size_drew] at hs hf
  simp only [e1, hs, run_freeze, hf, Result.andThen_ok]
  rfl

section
variable {E : Env} {P : Program} (hE : E.Ok P) {m : Mp} {S : St} {w : World} (hH : HR E m S w)
include hE hH

omit hE hH in
theorem bytesFold_run : ∀ (l : List Value) (bs : List UInt8) (acc : ByteArray), l.mapM byteOfV = some bs →
    (forIn (m := Sem) l acc fun c s => (match c with
      | .int .u8 n => pure (ForInStep.yield (s.push (UInt8.ofNat n.toNat)))
      | _ => do
        stuck "bytesToString: byte expected"
        pure (ForInStep.yield s))).run P w = .ok ⟨(acc.data.toList ++ bs).toArray⟩ w := by
  intro l
  induction l with
  | nil => intro bs acc h; simp at h; subst h; simp
  | cons v l ih =>
    intro bs acc h
    rw [List.mapM_cons] at h
    simp only [Option.bind_eq_bind, Option.bind_eq_some_iff, Option.pure_def, Option.some.injEq] at h
    obtain ⟨b, hb, r, hr, rfl⟩ := h
    unfold byteOfV at hb
    split at hb
    · cases hb
      rw [List.forIn_cons]
      simp only [Sem.run_bind, Sem.run_pure, Result.andThen_ok]
      rw [ih r _ hr]
      simp [ByteArray.push]
    · cases hb

theorem convertD_sim {s t : TypeId} {x x' v : Value} {S' : St} (h : convertD E S s t x = some (v, S')) (hx : VR m x x') : SP E P m S w (convert s t x') v S' := by
  unfold convertD at h
  split at h
  · rename_i u k k' n hu hu'
    obtain ⟨d, hd, rfl⟩ := und_of hE hH hu
    obtain ⟨d', hd', hu'⟩ := und_of hE hH hu'
    cases h; cases hx
    refine SV.sp hH ⟨_, ?_, .int _ _⟩
    simp only [convert, Sem.run_bind, run_und hE hd w, run_und hE hd' w, hu', Result.andThen_ok]
    simp [Conv.intToInt, wrapD_eq]
  · rename_i b hu hu'
    obtain ⟨d, hd, hu⟩ := und_of hE hH hu
    obtain ⟨d', hd', hu'⟩ := und_of hE hH hu'
    cases h; cases hx
    refine SV.sp hH ⟨_, ?_, .string _⟩
    simp only [convert, Sem.run_bind, run_und hE hd w, run_und hE hd' w, hu, hu', Result.andThen_ok]
    simp
  · rename_i u e b hu hu'
    obtain ⟨d, hd, rfl⟩ := und_of hE hH hu
    obtain ⟨d', hd', hu'⟩ := und_of hE hH hu'
    split at h
    · rename_i he
      obtain ⟨de, hde, he⟩ := und_of hE hH he
      obtain ⟨h1, h2⟩ := cond_some h
      cases h2; cases hx
      have h1 := Nat.blt_eq.mp h1
      have hlen : b.data.toList.length = b.size := Array.length_toList
      obtain ⟨cap, hcap, hrun⟩ := stringToBytes_run (P := P) w e b
      let x : BM := ⟨w.heap.size, 0, cap, 1⟩
      have hcs := cellsB_size hcap
      have hH' : HR E m S w.drew := hH.drew
      have hbl : (bytesOfS b).length = b.size := by unfold bytesOfS; rw [List.length_map]; exact hlen
      obtain ⟨h5, h6⟩ := HR.alloc hH' (.cells (bytesOfS b) (some 1) false (some (0, 0))) (.cells (cellsB b cap) e (cap, cap + 1)) x rfl (by
        refine ⟨cellsB b cap, e, _, rfl, hcs, by rw [hbl]; show 0 + b.size ≤ cap; omega, ?_, ?_, by intro z hz; cases hz; exact TY.low rfl (by decide) fun h => absurd h (by decide)⟩
        · have : List.take (bytesOfS b).length (List.drop x.base (cellsB b cap).toList) = bytesOfS b := by
            show List.take (bytesOfS b).length (List.drop 0 (cellsB b cap).toList) = bytesOfS b
            simp only [List.drop_zero, cellsB, Array.toList_append, Array.toList_map]
            rw [List.take_append_of_le_length (by simp [bytesOfS])]
            exact List.take_of_length_le (by simp [bytesOfS])
          rw [this]
          exact VRs.map_same fun v hv => (bytesOfS_plain b v hv).vr
        · intro i g1 g2 g3 g4
          have g1 : cap ≤ i := g1
          have g4 : i < cap := g4
          omega)
      refine ⟨.slice (some ⟨w.heap.size, 0, none⟩) b.size cap, _, _, ?_, ?_, h5, Fr.trans Fr.drew h6⟩
      · simp only [convert, Sem.run_bind, run_und hE hd w, run_und hE hd' w, hu', Result.andThen_ok, run_und hE hde w, he, hrun]
      · have := VR.slx (m := m.put S.next x) S.next 0 b.size cap x (by simp) hcap (by show 0 + 0 + cap * 1 = cap; omega)
        rw [hlen]
        exact this
    · cases h
  · rename_i e a len cap hu hu'
    obtain ⟨d, hd, hu⟩ := und_of hE hH hu
    obtain ⟨d', hd', hu'⟩ := und_of hE hH hu'
    split at h
    · rename_i he
      obtain ⟨de, hde, he⟩ := und_of hE hH he
      split at h
      · cases h; cases hx
        refine SV.sp hH ⟨_, ?_, .string _⟩
        simp only [convert, Sem.run_bind, run_und hE hd w, run_und hE hd' w, hu, hu', Result.andThen_ok, run_und hE hde w, he, Conv.bytesToString]
        rfl
      · rename_i b o
        rw [Bool.cond_eq_ite] at h
        split at h
        · rename_i hz
          obtain rfl := Nat.eq_of_beq_eq_true hz
          cases h
          have key : ∀ (a : Addr) (cap' : Nat), SV P m w (convert s t (.slice (some a) 0 cap')) (.string ⟨#[]⟩) := by
            intro a cap'
            refine ⟨_, ?_, .string _⟩
            have hl : (loadCells a 0).run P w = .ok #[] w := by simp [loadCells, loadCellsFrom]
            simp only [convert, Sem.run_bind, run_und hE hd w, run_und hE hd' w, hu, hu', Result.andThen_ok, run_und hE hde w, he, Conv.bytesToString, hl]
            have := bytesFold_run (P := P) (w := w) (#[] : Array Value).toList [] .empty rfl
            rw [← Array.forIn_toList]
            have e0 : ByteArray.empty.data.toList ++ ([] : List UInt8) = [] := by simp
            rw [e0] at this
            refine (congrArg (fun r => Result.andThen r fun a w' => Sem.run P (pure (Value.string a)) w') this).trans ?_
            rfl
          refine SV.sp hH ?_
          cases hx <;> exact key _ _
        rename_i hz
        have hmb : ∃ x, m b = some x := by
          cases hx with
          | sl _ _ _ _ y hy _ _ => exact ⟨y, hy⟩
          | slx _ _ _ _ y hy _ _ => exact ⟨y, hy⟩
          | sle _ _ a y hy _ => exact ⟨y, hy⟩
          | slz _ _ a => exact absurd rfl hz
        simp only [Option.bind_eq_some_iff, Option.map_eq_some_iff] at h
        obtain ⟨l, h1, bs, h2, h3⟩ := h
        cases h3
        obtain ⟨x, l', h4, h5, h6⟩ := loadN_run (P := P) hH hmb h1
        have hbs : l'.toList.mapM byteOfV = some bs := by
          have : ∀ {l l' : List Value} {bs : List UInt8}, VRs m l l' → l.mapM byteOfV = some bs → l'.mapM byteOfV = some bs := by
            intro l l' bs hr
            induction hr generalizing bs with
            | nil => intro h; exact h
            | cons h1 _ ih =>
              intro h
              rw [List.mapM_cons] at h ⊢
              simp only [Option.bind_eq_bind, Option.bind_eq_some_iff, Option.pure_def, Option.some.injEq] at h ⊢
              obtain ⟨b, hb, r, hr, rfl⟩ := h
              refine ⟨b, ?_, r, ih hr, rfl⟩
              unfold byteOfV at hb
              split at hb
              · cases h1; exact hb
              · cases hb
          exact this h6 h2
        have key : ∀ (a : Addr) (cap' : Nat), (loadCells a len).run P w = .ok l' w → SV P m w (convert s t (.slice (some a) len cap')) (.string ⟨bs.toArray⟩) := by
          intro a cap' hl
          refine ⟨_, ?_, .string _⟩
          simp only [convert, Sem.run_bind, run_und hE hd w, run_und hE hd' w, hu, hu', Result.andThen_ok, run_und hE hde w, he, Conv.bytesToString, hl]
          have := bytesFold_run (P := P) (w := w) l'.toList bs .empty hbs
          rw [← Array.forIn_toList]
          have e0 : ByteArray.empty.data.toList ++ bs = bs := by simp
          rw [e0] at this
          refine (congrArg (fun r => Result.andThen r fun a w' => Sem.run P (pure (Value.string a)) w') this).trans ?_
          rfl
        refine SV.sp hH ?_
        cases hx with
        | sl _ _ _ _ y hy _ _ => rw [h4] at hy; cases hy; exact key _ _ h5
        | slx _ _ _ _ y hy _ _ => rw [h4] at hy; cases hy; exact key _ _ h5
        | sle _ _ a y hy _ =>
          have e0 : l' = #[] := by
            have e1 := loadN_len h1
            have e2 := h6.length
            rw [e1] at e2
            exact Array.eq_empty_of_size_eq_zero (by simpa using e2.symm)
          exact key a 0 (by rw [e0]; simp [loadCells, loadCellsFrom])
        | slz _ _ a =>
          have e0 : l' = #[] := by
            have e1 := loadN_len h1
            have e2 := h6.length
            rw [e1] at e2
            exact Array.eq_empty_of_size_eq_zero (by simpa using e2.symm)
          exact key a 0 (by rw [e0]; simp [loadCells, loadCellsFrom])
      · cases h
    · cases h
  · rename_i e0 e b o len cap hu hu'
    obtain ⟨d, hd, hu⟩ := und_of hE hH hu
    obtain ⟨d', hd', hu'⟩ := und_of hE hH hu'
    obtain ⟨hc, hk⟩ := cond_some h
    clear h
    simp only [Bool.and_eq_true, Bool.not_eq_true'] at hc
    obtain ⟨⟨hst, hc0⟩, hci⟩ := hc
    have hst : s = t := Nat.eq_of_beq_eq_true hst
    subst hst
    rw [hd] at hd'; cases hd'
    rw [hu] at hu'; cases hu'
    split at hk
    · rename_i cs more he hg
      obtain ⟨de, hde, he⟩ := und_of hE hH he
      cases hk
      have hx' : ∃ y, m b = some y ∧ len ≤ cap ∧ cap ≠ inex ∧ x' = .slice (some ⟨y.blk, y.base + o, none⟩) len cap := by
        cases hx with
        | sl _ _ _ _ y hy h1 h2 => exact ⟨y, hy, h2, h1, rfl⟩
        | slx => exact absurd hci (by decide)
        | sle => exact absurd hci (by decide)
        | slz => exact absurd hc0 (by decide)
      obtain ⟨y, hy, hle, hne, rfl⟩ := hx'
      obtain ⟨ccs, el, fr, h1, h2, h3, h4, h5, h6⟩ := hH.obj b _ y hg rfl hy
      have h5 : fr = (0, 0) := h5
      subst h5
      have hblk : y.blk < w.heap.size := (Array.getElem?_eq_some_iff.1 h1).1
      have hheap : (w.freeze ⟨y.blk, ccs.size, none⟩ 1).heap[y.blk]? = some (.cells ccs el (ccs.size, ccs.size + 1)) := by
        simp only [World.freeze, Nat.one_ne_zero, if_false, Array.getElem?_modify, if_true, h1, Option.map_some]
        simp
      obtain ⟨k1, k2⟩ := HR.upd hH (w' := w.freeze ⟨y.blk, ccs.size, none⟩ 1) (o' := .cells cs more false (some (0, 0))) hg rfl hy
        ⟨ccs, el, _, hheap, h2, h3, h4, by
          intro i g1 g2 g3 g4
          have g1 : ccs.size ≤ i := g1
          omega, h6⟩ (by simp [World.freeze]) (fun c hcb => by simp only [World.freeze, Nat.one_ne_zero, if_false, Array.getElem?_modify]; rw [if_neg (Ne.symm hcb)]) (by simp [World.freeze]) (by simp [World.freeze]) (by simp [World.freeze])
      refine ⟨_, m, w.freeze ⟨y.blk, ccs.size, none⟩ 1, ?_, .sl b o len cap y hy hne hle, k1, k2⟩
      have hsh : w.shape? y.blk = some (el, ccs.size) := by simp [World.shape?, h1]
      simp only [convert, Sem.run_bind, run_und hE hd w, hu, Result.andThen_ok, run_und hE hde w, he, beq_self_eq_true, markStringish, run_shape, hsh, run_freeze]
      rfl
    · cases hk
  · cases h

/-! ### Maps -/
omit hH in
theorem checkKey_run {kt : TypeId} {k k' : Value} (h : keyType E kt k = true) (hk : VR m k k') (emp : Bool) (n : Nat) : (Instr.checkKey emp (n + 2) kt k').run P w = .ok () w := by
  unfold keyType at h
  simp only [Bool.and_eq_true] at h
  obtain ⟨h0, h⟩ := h
  split at h
  · rename_i d hd
    split at h
    · rename_i hu; cases hk; simp [Instr.checkKey, run_und hE hd w, hu]
    · rename_i hu; cases hk; simp [Instr.checkKey, run_und hE hd w, hu]
    · rename_i hu; cases hk; simp [Instr.checkKey, run_und hE hd w, hu]
    · rename_i fs cs hu
      simp only [Bool.and_eq_true, List.all_eq_true] at h
      obtain ⟨h1, h2⟩ := h
      cases hk with
      | agg _ cs' g1 g2 =>
        rw [Instr.checkKey]
        simp only [Sem.run_bind, run_und hE hd w, hu, Result.andThen_ok]
        rw [← Array.forIn_toList]
        have key : ∀ (l : List Field), (∀ f ∈ l, f ∈ fs.toList) → (forIn (m := Sem) l PUnit.unit fun f (_ : PUnit) => (if f.name ≠ "_" then do
            Instr.checkKey emp (n + 1) f.type (← part f.type cs' f.offset)
            pure (ForInStep.yield PUnit.unit) else pure (ForInStep.yield PUnit.unit))).run P w = .ok PUnit.unit w := by
          intro l
          induction l with
          | nil => intro _; simp
          | cons f l ih =>
            intro hl
            rw [List.forIn_cons]
            have hf := h2 f (hl f (by simp))
            have ih := ih fun g hg => hl g (by simp [hg])
            have one : (if f.name ≠ "_" then do
                Instr.checkKey emp (n + 1) f.type (← part f.type cs' f.offset)
                pure (ForInStep.yield PUnit.unit) else pure (ForInStep.yield PUnit.unit) : Sem (ForInStep PUnit)).run P w = .ok (ForInStep.yield PUnit.unit) w := by
              split
              · split at hf
                · rename_i j hj
                  simp only [Bool.and_eq_true, Nat.blt_eq] at hf
                  obtain ⟨hsc, hlt⟩ := hf
                  have hag : aggD j.und = false := by
                    revert hsc; cases j.und <;> simp [aggD]
                  have hlt' : f.offset < cs'.size := by omega
                  have hpart : (part f.type cs' f.offset).run P w = .ok cs'[f.offset] w := by
                    simp [part, run_isAgg hE hj w, hag, hlt']
                  have hck : ∀ v, (Instr.checkKey emp (n + 1) f.type v).run P w = .ok () w := by
                    intro v
                    simp only [Instr.checkKey, Sem.run_bind, run_und hE hj w, Result.andThen_ok]
                    revert hsc
                    cases j.und <;> simp
                  simp [hpart, hck]
                · cases hf
              · simp
            simp only [Sem.run_bind, one, Result.andThen_ok]
            exact ih
        refine (congrArg (fun r => Result.andThen r fun _ w' => Sem.run P (pure ()) w') (key fs.toList fun f hf => hf)).trans ?_
        rfl
    · cases h
  · cases h

theorem keyEq_vr {kt : TypeId} {a b a' b' : Value} {r : Bool} (h : keyEq E S kt a b = some r) (ha : VR m a a') (hb : VR m b b') :
    ((∃ cs, a = .agg cs) → (Op.equal kt a' b').run P w = .ok r w) ∧
    ((¬ ∃ cs, a = .agg cs) → ∀ d, (d = .string ∨ d = .bool ∨ ∃ kk, d = TypeDesc.int kk) → (∀ kk x, a = .int kk x → ∃ kk, d = .int kk) → (∀ x, a = .string x → d = .string) → (∀ x, a = .bool x → d = .bool) → Instr.sameNow d a' b' = some r) := by
  unfold keyEq at h
  split at h
  · exact ⟨fun _ => eqD_run hE hH 3 kt _ _ a' b' r 10000 h ha hb (by decide), fun hn => absurd ⟨_, rfl⟩ hn⟩
  · refine ⟨(fun ⟨_, e⟩ => by cases e), fun _ => ?_⟩
    obtain ⟨h1, h2⟩ := cond_some h
    cases h2; cases ha; cases hb
    obtain rfl := kindEq_eq h1
    intro d _ hd _ _
    obtain ⟨kk, rfl⟩ := hd _ _ rfl
    simp [Instr.sameNow]; rfl
  · refine ⟨(fun ⟨_, e⟩ => by cases e), fun _ => ?_⟩
    cases h; cases ha; cases hb
    intro d _ _ hd _
    rw [hd _ rfl]
    simp only [Instr.sameNow]
    rw [beq_bytes]
  · refine ⟨(fun ⟨_, e⟩ => by cases e), fun _ => ?_⟩
    cases h; cases ha; cases hb
    intro d _ _ _ hd
    rw [hd _ rfl]
    simp [Instr.sameNow]
  · cases h

/-- What D's look in a map finds, the model's finds. -/
theorem find_run {kt : TypeId} {k k' : Value} (ht : keyType E kt k = true) (hk : VR m k k') {es es' : List MapEntry} {found : Option (Nat × MapEntry)} (h : findD E S kt k es 0 = some found) (he : ERs m es es') :
    match found with
    | none => (Instr.findKey kt k' es').run P w = .ok none w
    | some (i, e) => ∃ e', es[i]? = some e ∧ es'[i]? = some e' ∧ ER m e e' ∧ (Instr.findKey kt k' es').run P w = .ok (some (i, e'.val)) w := by
  unfold keyType at ht
  simp only [Bool.and_eq_true] at ht
  obtain ⟨hok, ht⟩ := ht
  split at ht
  · rename_i d hd
    by_cases hag : ∃ cs, k = .agg cs
    · -- a struct: the model asks
      obtain ⟨cs, rfl⟩ := hag
      have hst : ∃ fs, d.und = .struct fs := by
        split at ht <;> first | (rename_i h1 h2; cases h2; done) | (rename_i h2; cases h2; done) | (exact ⟨_, by assumption⟩) | (cases ht; done)
      obtain ⟨fs, hfs⟩ := hst
      cases hk with
      | agg _ cs' g1 g2 =>
        have ask : ∀ {es es' : List MapEntry} (i : Nat) {found : Option (Nat × MapEntry)}, ERs m es es' → findD E S kt (.agg cs) es i = some found →
            match found with
            | none => (Instr.findAsking kt (.agg cs') es' i).run P w = .ok none w
            | some (j, e) => ∃ e' q, j = i + q ∧ es[q]? = some e ∧ es'[q]? = some e' ∧ ER m e e' ∧ (Instr.findAsking kt (.agg cs') es' i).run P w = .ok (some (j, e'.val)) w := by
          intro es es' i found hr
          induction hr generalizing i found with
          | nil => intro h; cases h; simp [Instr.findAsking]
          | cons h1 h2 ih =>
            intro h
            simp only [findD, Option.bind_eq_some_iff] at h
            obtain ⟨b, hb, h⟩ := h
            have heq := (keyEq_vr (P := P) hE hH hb (VR.agg _ _ g1 g2) h1.key).1 ⟨_, rfl⟩
            cases b with
            | true =>
              cases h
              exact ⟨_, 0, rfl, rfl, rfl, h1, by simp [Instr.findAsking, heq]⟩
            | false =>
              have := ih (i + 1) h
              cases found with
              | none => simp only at this ⊢; simp [Instr.findAsking, heq, this]
              | some p =>
                obtain ⟨j, e⟩ := p
                obtain ⟨e', q, hj, q1, q2, q3, q4⟩ := this
                exact ⟨e', q + 1, by omega, by simpa using q1, by simpa using q2, q3, by simp [Instr.findAsking, heq, q4]⟩
        have hnow : ∀ l : List MapEntry, Instr.findNow d.und (.agg cs') l 0 = (match l with | [] => some none | _ => none) := by
          intro l
          cases l with
          | nil => rfl
          | cons e l => rw [hfs]; simp [Instr.findNow, Instr.sameNow]
        have hrun : ∀ r, (Instr.findAsking kt (.agg cs') es').run P w = .ok r w → (Instr.findKey kt (.agg cs') es').run P w = .ok r w := by
          intro r hr
          simp only [Instr.findKey, Sem.run_bind, run_und hE hd w, Result.andThen_ok, hnow]
          cases es' with
          | nil => simpa [Instr.findAsking] using hr
          | cons e l => exact hr
        have := ask 0 he h
        cases found with
        | none => exact hrun _ this
        | some p =>
          obtain ⟨j, e⟩ := p
          obtain ⟨e', q, hj, q1, q2, q3, q4⟩ := this
          obtain rfl : j = q := by omega
          exact ⟨e', q1, q2, q3, hrun _ q4⟩
    · have hd3 : (d.und = .string ∨ d.und = .bool ∨ ∃ kk, d.und = TypeDesc.int kk) ∧ (∀ kk x, k = .int kk x → ∃ kk, d.und = .int kk) ∧ (∀ x, k = .string x → d.und = .string) ∧ (∀ x, k = .bool x → d.und = .bool) := by
        split at ht
        · rename_i hu; exact ⟨.inr (.inr ⟨_, hu⟩), (fun _ _ _ => ⟨_, hu⟩), (fun _ e => by cases e), (fun _ e => by cases e)⟩
        · rename_i hu; exact ⟨.inl hu, (fun _ _ e => by cases e), (fun _ _ => hu), (fun _ e => by cases e)⟩
        · rename_i hu; exact ⟨.inr (.inl hu), (fun _ _ e => by cases e), (fun _ e => by cases e), (fun _ _ => hu)⟩
        · exact absurd ⟨_, rfl⟩ hag
        · cases ht
      have now : ∀ {es es' : List MapEntry} (i : Nat) {found : Option (Nat × MapEntry)}, ERs m es es' → findD E S kt k es i = some found →
          match found with
          | none => Instr.findNow d.und k' es' i = some none
          | some (j, e) => ∃ e' q, j = i + q ∧ es[q]? = some e ∧ es'[q]? = some e' ∧ ER m e e' ∧ Instr.findNow d.und k' es' i = some (some (j, e'.val)) := by
        intro es es' i found hr
        induction hr generalizing i found with
        | nil => intro h; cases h; rfl
        | cons h1 h2 ih =>
          intro h
          simp only [findD, Option.bind_eq_some_iff] at h
          obtain ⟨b, hb, h⟩ := h
          have heq := (keyEq_vr (P := P) hE hH hb hk h1.key).2 hag d.und hd3.1 hd3.2.1 hd3.2.2.1 hd3.2.2.2
          cases b with
          | true =>
            cases h
            exact ⟨_, 0, rfl, rfl, rfl, h1, by simp [Instr.findNow, heq]⟩
          | false =>
            have := ih (i + 1) h
            cases found with
            | none => simp only at this ⊢; simp [Instr.findNow, heq, this]
            | some p =>
              obtain ⟨j, e⟩ := p
              obtain ⟨e', q, hj, q1, q2, q3, q4⟩ := this
              exact ⟨e', q + 1, by omega, by simpa using q1, by simpa using q2, q3, by simp [Instr.findNow, heq, q4]⟩
      have hrun : ∀ r, Instr.findNow d.und k' es' 0 = some r → (Instr.findKey kt k' es').run P w = .ok r w := by
        intro r hr
        simp [Instr.findKey, run_und hE hd w, hr]
      have := now 0 he h
      cases found with
      | none => exact hrun _ this
      | some p =>
        obtain ⟨j, e⟩ := p
        obtain ⟨e', q, hj, q1, q2, q3, q4⟩ := this
        obtain rfl : j = q := by omega
        exact ⟨e', q1, q2, q3, hrun _ q4⟩
  · cases ht

end

end Go.Proofs.Ytcdignblakejoaa.D
