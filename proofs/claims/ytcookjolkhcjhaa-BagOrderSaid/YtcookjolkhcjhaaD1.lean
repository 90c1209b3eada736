/-
  D, part 1: maps from numbers; the abstract heap's objects; the relation between an abstract value and the model's.
-/
import Derived.RangeFuncRecord
import Derived.Below
namespace Go.Proofs.Ytcookjolkhcjhaa.D

/-! ### Maps from numbers -/
inductive PM (α : Type) where
  | leaf
  | ov (k : Nat) (v : α) (t : PM α)
  | node (l : PM α) (v : Option α) (r : PM α)

namespace PM
variable {α : Type}
/- By recursors, not by matches: the kernel runs this. What a compiler could run (for tools alone):
NATIVE
def get : PM α → Nat → Option α
  | .leaf, _ => none
  | .ov k v t, n => cond (Nat.beq n k) (some v) (get t n)
  | .node l v r, n => cond (Nat.beq n 0) v (cond (Nat.beq ((n - 1) % 2) 1) (get l ((n - 1) / 2)) (get r ((n - 1) / 2)))
def setF : Nat → PM α → Nat → α → PM α
  | 0, t, n, v => .ov n v t
  | f + 1, .leaf, n, v =>
    cond (Nat.beq n 0) (.node .leaf (some v) .leaf)
      (cond (Nat.beq ((n - 1) % 2) 1) (.node (setF f .leaf ((n - 1) / 2) v) none .leaf) (.node .leaf none (setF f .leaf ((n - 1) / 2) v)))
  | f + 1, .node l x r, n, v =>
    cond (Nat.beq n 0) (.node l (some v) r)
      (cond (Nat.beq ((n - 1) % 2) 1) (.node (setF f l ((n - 1) / 2) v) x r) (.node l x (setF f r ((n - 1) / 2) v)))
  | _ + 1, .ov k w t, n, v => .ov n v (.ov k w t)
def set (t : PM α) (n : Nat) (v : α) : PM α := setF 40 t n v
END -/
-- KERNEL
def getOv (k : Nat) (v : α) (t : Nat → Option α) (n : Nat) : Option α := cond (Nat.beq n k) (some v) (t n)
def getNode (l : Nat → Option α) (v : Option α) (r : Nat → Option α) (n : Nat) : Option α :=
  @Nat.rec (fun _ => Option α) v (fun m _ => cond (Nat.beq (m % 2) 1) (l (m / 2)) (r (m / 2))) n
noncomputable def get (t : PM α) : Nat → Option α :=
  @PM.rec α (fun _ => Nat → Option α) (fun _ => none) (fun k v _ ih => getOv k v ih) (fun _ v _ l r => getNode l v r) t
def mkP (v : α) (f : Nat) : Nat → PM α :=
  @Nat.rec (fun _ => Nat → PM α) (fun n => .ov n v .leaf)
    (fun _ ih n => @Nat.rec (fun _ => PM α) (.node .leaf (some v) .leaf) (fun m _ => cond (Nat.beq (m % 2) 1) (.node (ih (m / 2)) none .leaf) (.node .leaf none (ih (m / 2)))) n) f
def setNode (v : α) (l : PM α) (x : Option α) (r : PM α) (l' r' : Nat → PM α) (n : Nat) : PM α :=
  @Nat.rec (fun _ => PM α) (.node l (some v) r) (fun m _ => cond (Nat.beq (m % 2) 1) (.node (l' (m / 2)) x r) (.node l x (r' (m / 2)))) n
noncomputable def setR (v : α) (t : PM α) : Nat → PM α :=
  @PM.rec α (fun _ => Nat → PM α) (mkP v 40) (fun k w t _ n => .ov n v (.ov k w t)) (fun l x r l' r' => setNode v l x r l' r') t
noncomputable def set (t : PM α) (n : Nat) (v : α) : PM α := setR v t n

theorem beq_f {a b : Nat} (h : ¬ a = b) : Nat.beq a b = false := Bool.eq_false_iff.2 fun e => h (Nat.eq_of_beq_eq_true e)
@[simp] theorem get_leaf (n : Nat) : (PM.leaf : PM α).get n = none := rfl
theorem get_ov (k : Nat) (v : α) (t : PM α) (n : Nat) : (PM.ov k v t).get n = if n = k then some v else t.get n := by
  show getOv k v t.get n = _
  unfold getOv
  by_cases h : n = k
  · subst h; simp
  · rw [beq_f h, if_neg h]; rfl
theorem get_node0 (l r : PM α) (v : Option α) : (PM.node l v r).get 0 = v := rfl
theorem get_node (l r : PM α) (v : Option α) (n : Nat) : (PM.node l v r).get (n + 1) = if n % 2 = 1 then l.get (n / 2) else r.get (n / 2) := by
  show cond (Nat.beq (n % 2) 1) (l.get (n / 2)) (r.get (n / 2)) = _
  by_cases h : n % 2 = 1
  · rw [if_pos h, h]; rfl
  · rw [if_neg h, beq_f h]; rfl
theorem get_mkP (v : α) : ∀ (f n m : Nat), (mkP v f n).get m = if m = n then some v else none := by
  intro f
  induction f with
  | zero => intro n m; show (PM.ov n v .leaf).get m = _; rw [get_ov]; rfl
  | succ f ih =>
    intro n m
    cases n with
    | zero =>
      show (PM.node .leaf (some v) .leaf).get m = _
      cases m with
      | zero => rfl
      | succ m => rw [get_node]; simp
    | succ n =>
      show (cond (Nat.beq (n % 2) 1) (PM.node (mkP v f (n / 2)) none .leaf) (.node .leaf none (mkP v f (n / 2)))).get m = _
      by_cases h : n % 2 = 1
      · have e : Nat.beq (n % 2) 1 = true := by rw [h]; rfl
        rw [e]
        cases m with
        | zero => rw [if_neg (by omega)]; rfl
        | succ m =>
          simp only [cond_true, get_node, ih, get_leaf]
          by_cases hm : m % 2 = 1
          · rw [if_pos hm]
            have : (m / 2 = n / 2) ↔ m + 1 = n + 1 := by omega
            simp only [this]
          · rw [if_neg hm, if_neg (by omega)]
      · rw [beq_f h]
        cases m with
        | zero => rw [if_neg (by omega)]; rfl
        | succ m =>
          simp only [cond_false, get_node, ih, get_leaf]
          by_cases hm : m % 2 = 1
          · rw [if_pos hm, if_neg (by omega)]
          · rw [if_neg hm]
            have : (m / 2 = n / 2) ↔ m + 1 = n + 1 := by omega
            simp only [this]
theorem get_set (t : PM α) (n : Nat) (v : α) (m : Nat) : (t.set n v).get m = if m = n then some v else t.get m := by
  induction t generalizing n m with
  | leaf => exact get_mkP v 40 n m
  | ov k w t _ => show (PM.ov n v (.ov k w t)).get m = _; rw [get_ov]
  | node l x r ihl ihr =>
    cases n with
    | zero =>
      show (PM.node l (some v) r).get m = _
      cases m with
      | zero => rfl
      | succ m => rw [if_neg (show ¬ m + 1 = 0 by omega), get_node, get_node]
    | succ n =>
      show (cond (Nat.beq (n % 2) 1) (PM.node (l.set (n / 2) v) x r) (.node l x (r.set (n / 2) v))).get m = _
      by_cases h : n % 2 = 1
      · have e : Nat.beq (n % 2) 1 = true := by rw [h]; rfl
        rw [e]
        cases m with
        | zero => rw [if_neg (by omega)]; rfl
        | succ m =>
          simp only [cond_true, get_node, ihl]
          by_cases hm : m % 2 = 1
          · have : (m / 2 = n / 2) ↔ m + 1 = n + 1 := by omega
            simp only [hm, if_true, this]
          · rw [if_neg hm, if_neg hm, if_neg (by omega)]
      · rw [beq_f h]
        cases m with
        | zero => rw [if_neg (by omega)]; rfl
        | succ m =>
          simp only [cond_false, get_node, ihr]
          by_cases hm : m % 2 = 1
          · rw [if_pos hm, if_pos hm, if_neg (by omega)]
          · have : (m / 2 = n / 2) ↔ m + 1 = n + 1 := by omega
            simp only [hm, if_false, this]
@[simp] theorem get_set_same (t : PM α) (n : Nat) (v : α) : (t.set n v).get n = some v := by rw [get_set, if_pos rfl]
theorem get_set_ne {t : PM α} {n m : Nat} {v : α} (h : m ≠ n) : (t.set n v).get m = t.get m := by rw [get_set, if_neg h]
-- KERNEL END
/-- A list laid at the places 'i', 'i + 1', ... -/
noncomputable def ofList : List α → Nat → PM α → PM α
  | [], _, t => t
  | v :: r, i, t => ofList r (i + 1) (t.set i v)

theorem get_ofList : ∀ (l : List α) (i : Nat) (t : PM α) (m : Nat), (ofList l i t).get m = if i ≤ m ∧ m < i + l.length then l[m - i]? else t.get m := by
  intro l
  induction l with
  | nil => intro i t m; simp [ofList]; omega
  | cons v r ih =>
    intro i t m
    simp only [ofList, ih, get_set, List.length_cons]
    by_cases h1 : i + 1 ≤ m ∧ m < i + 1 + r.length
    · rw [if_pos h1, if_pos (by omega)]
      have : m - i = (m - (i + 1)) + 1 := by omega
      rw [this, List.getElem?_cons_succ]
    · rw [if_neg h1]
      by_cases h2 : m = i
      · subst h2; rw [if_pos rfl, if_pos (by omega)]; simp
      · rw [if_neg h2, if_neg (by omega)]
end PM

/-! ### The abstract heap -/

/-- A slice whose capacity the run has drawn: it reaches to the end of its block, however long that is. -/
def inex : Nat := 18446744073709551616

/-- The record of a loop over a function. -/
structure DLoop where
  state : LoopState
  pending : Option Code
  regs : PM Value
  n : Nat
  params : Array Tmp
  assign : Code
  body : Code
  dfr : Nat

inductive DObj where
  /-- A row of cells. more: there may be spare cells behind them, for elements of so many cells · ro: it is never written · fz: bytes that strings share. -/
  | cells (cs : List Value) (more : Option Nat) (ro : Bool) (fz : Option (Nat × Nat))
  | map (es : List MapEntry) (clock : Nat)
  | loop (l : DLoop)
  | deferred
  | dead

def DObj.live : DObj → Bool
  | .dead => false
  | _ => true
/-- May it be written? -/
def DObj.wr : DObj → Bool
  | .cells _ _ ro _ => !ro
  | .dead => false
  | _ => true

structure St where
  heap : PM DObj
  next : Nat
  /-- the least block that was written since the last mark -/
  low : Nat

/-- Where a block lies in the model's heap: at 'base' of block 'blk', which has 'tot' cells; elements of 'sz' cells. -/
structure BM where
  blk : Nat
  base : Nat
  tot : Nat
  sz : Nat

abbrev Mp := Nat → Option BM

def Mp.le (m m' : Mp) : Prop := ∀ b x, m b = some x → m' b = some x
theorem Mp.le_refl (m : Mp) : m.le m := fun _ _ h => h
theorem Mp.le_trans {a b c : Mp} (h : a.le b) (k : b.le c) : a.le c := fun _ _ e => k _ _ (h _ _ e)
def Mp.put (m : Mp) (b : Nat) (x : BM) : Mp := fun c => if c = b then some x else m c
theorem Mp.le_put {m : Mp} {b : Nat} {x : BM} (h : m b = none) : m.le (m.put b x) := fun c y e => by
  unfold Mp.put; split
  · rename_i hc; subst hc; rw [h] at e; cases e
  · exact e
@[simp] theorem Mp.put_same (m : Mp) (b : Nat) (x : BM) : m.put b x b = some x := by simp [Mp.put]
theorem Mp.put_ne {m : Mp} {b c : Nat} {x : BM} (h : c ≠ b) : m.put b x c = m c := by simp [Mp.put, h]

/-- An abstract value (left) and the model's (right). -/
inductive VR (m : Mp) : Value → Value → Prop
  | bool (b : Bool) : VR m (.bool b) (.bool b)
  | int (k : IntKind) (n : Int) : VR m (.int k n) (.int k n)
  | string (s : ByteArray) : VR m (.string s) (.string s)
  | nilp : VR m (.pointer none) (.pointer none)
  | ptr (b o : Nat) (x : BM) : m b = some x → VR m (.pointer (some ⟨b, o, none⟩)) (.pointer (some ⟨x.blk, x.base + o, none⟩))
  | nils : VR m (.slice none 0 0) (.slice none 0 0)
  | sl (b o len cap : Nat) (x : BM) : m b = some x → cap ≠ inex → len ≤ cap → VR m (.slice (some ⟨b, o, none⟩) len cap) (.slice (some ⟨x.blk, x.base + o, none⟩) len cap)
  | slx (b o len cap : Nat) (x : BM) : m b = some x → len ≤ cap → x.base + o + cap * x.sz = x.tot →
      VR m (.slice (some ⟨b, o, none⟩) len inex) (.slice (some ⟨x.blk, x.base + o, none⟩) len cap)
  | sle (b o : Nat) (a : Addr) (x : BM) : m b = some x → x.base + o = x.tot → VR m (.slice (some ⟨b, o, none⟩) 0 inex) (.slice (some a) 0 0)
  | slz (b o : Nat) (a : Addr) : VR m (.slice (some ⟨b, o, none⟩) 0 0) (.slice (some a) 0 0)
  | nilm : VR m (.map none) (.map none)
  | mp (b : Nat) (x : BM) : m b = some x → VR m (.map (some b)) (.map (some x.blk))
  | fn (f : Fn) (fs fs' cs cs' : Array Value) : (∀ l, f ≠ .yield l) →
      fs.size = fs'.size → (∀ (i : Nat) (v v' : Value), fs[i]? = some v → fs'[i]? = some v' → VR m v v') →
      cs.size = cs'.size → (∀ (i : Nat) (v v' : Value), cs[i]? = some v → cs'[i]? = some v' → VR m v v') →
      VR m (.func f fs cs) (.func f fs' cs')
  | yield (l : Nat) (x : BM) : m l = some x → VR m (.func (.yield l) #[] #[]) (.func (.yield x.blk) #[] #[])
  | nilf : VR m .nilFunc .nilFunc
  | iface (t : TypeId) (v v' : Value) : VR m v v' → VR m (.iface t v) (.iface t v')
  | nili : VR m .nilIface .nilIface
  /-- what D does not speak of -/
  | junk (v : Value) : (∀ a, v ≠ .agg a) → (∀ a, v ≠ .tuple a) → (∀ b, v ≠ .bool b) → VR m (.complex .f32 0 0) v
  | agg (a a' : Array Value) : a.size = a'.size → (∀ (i : Nat) (v v' : Value), a[i]? = some v → a'[i]? = some v' → VR m v v') → VR m (.agg a) (.agg a')
  | tup (a a' : Array Value) : a.size = a'.size → (∀ (i : Nat) (v v' : Value), a[i]? = some v → a'[i]? = some v' → VR m v v') → VR m (.tuple a) (.tuple a')

theorem VR.mono {m m' : Mp} (h : m.le m') {v v' : Value} (hv : VR m v v') : VR m' v v' := by
  induction hv with
  | bool b => exact .bool b
  | int k n => exact .int k n
  | string s => exact .string s
  | nilp => exact .nilp
  | ptr b o x e => exact .ptr b o x (h _ _ e)
  | nils => exact .nils
  | sl b o len cap x e h1 h2 => exact .sl b o len cap x (h _ _ e) h1 h2
  | slx b o len cap x e h1 h2 => exact .slx b o len cap x (h _ _ e) h1 h2
  | sle b o a x e h1 => exact .sle b o a x (h _ _ e) h1
  | slz b o a => exact .slz b o a
  | nilm => exact .nilm
  | mp b x e => exact .mp b x (h _ _ e)
  | fn f fs fs' cs cs' hf h1 _ h3 _ ih1 ih2 => exact .fn f fs fs' cs cs' hf h1 ih1 h3 ih2
  | yield l x e => exact .yield l x (h _ _ e)
  | nilf => exact .nilf
  | iface t v v' _ ih => exact .iface t v v' ih
  | nili => exact .nili
  | junk v h1 h2 h3 => exact .junk v h1 h2 h3
  | agg a a' h1 _ ih => exact .agg a a' h1 ih
  | tup a a' h1 _ ih => exact .tup a a' h1 ih

/-- Lists of values, one by one. -/
inductive VRs (m : Mp) : List Value → List Value → Prop
  | nil : VRs m [] []
  | cons {v v' : Value} {l l' : List Value} : VR m v v' → VRs m l l' → VRs m (v :: l) (v' :: l')

namespace VRs
variable {m m' : Mp}
theorem mono (h : m.le m') {l l' : List Value} (hv : VRs m l l') : VRs m' l l' := by
  induction hv with
  | nil => exact .nil
  | cons h1 _ ih => exact .cons (h1.mono h) ih
theorem length {l l' : List Value} (h : VRs m l l') : l.length = l'.length := by
  induction h with
  | nil => rfl
  | cons _ _ ih => simp [ih]
theorem get {l l' : List Value} (h : VRs m l l') : ∀ {i : Nat} {v : Value}, l[i]? = some v → ∃ v', l'[i]? = some v' ∧ VR m v v' := by
  induction h with
  | nil => intro i v e; simp at e
  | cons h1 _ ih =>
    intro i v e
    cases i with
    | zero => simp at e; subst e; exact ⟨_, by simp, h1⟩
    | succ i => simp at e; obtain ⟨v', e', hv⟩ := ih e; exact ⟨v', by simpa using e', hv⟩
theorem get' {l l' : List Value} (h : VRs m l l') {i : Nat} {v v' : Value} (e : l[i]? = some v) (e' : l'[i]? = some v') : VR m v v' := by
  obtain ⟨u, e'', hv⟩ := h.get e; rw [e'] at e''; cases e''; exact hv
theorem of_get : ∀ {l l' : List Value}, l.length = l'.length → (∀ (i : Nat) (v v' : Value), l[i]? = some v → l'[i]? = some v' → VR m v v') → VRs m l l'
  | [], [], _, _ => .nil
  | v :: l, v' :: l', hl, h => .cons (h 0 v v' (by simp) (by simp)) (of_get (by simpa using hl) fun i u u' e e' => h (i + 1) u u' (by simpa using e) (by simpa using e'))
  | [], _ :: _, hl, _ => by simp at hl
  | _ :: _, [], hl, _ => by simp at hl
theorem append {l l' k k' : List Value} (h : VRs m l l') (hk : VRs m k k') : VRs m (l ++ k) (l' ++ k') := by
  induction h with
  | nil => exact hk
  | cons h1 _ ih => exact .cons h1 ih
theorem take {l l' : List Value} (h : VRs m l l') : ∀ n, VRs m (l.take n) (l'.take n) := by
  induction h with
  | nil => intro n; simp; exact .nil
  | cons h1 _ ih =>
    intro n; cases n with
    | zero => simp; exact .nil
    | succ n => simp; exact .cons h1 (ih n)
theorem drop {l l' : List Value} (h : VRs m l l') : ∀ n, VRs m (l.drop n) (l'.drop n) := by
  induction h with
  | nil => intro n; simp; exact .nil
  | cons h1 h2 ih =>
    intro n; cases n with
    | zero => simp; exact .cons h1 h2
    | succ n => simp; exact ih n
theorem set {l l' : List Value} (h : VRs m l l') {v v' : Value} (hv : VR m v v') : ∀ i, VRs m (l.set i v) (l'.set i v') := by
  induction h with
  | nil => intro i; simp; exact .nil
  | cons h1 h2 ih =>
    intro i; cases i with
    | zero => simp; exact .cons hv h2
    | succ i => simp; exact .cons h1 (ih i)
theorem replicate {v v' : Value} (hv : VR m v v') : ∀ n, VRs m (List.replicate n v) (List.replicate n v')
  | 0 => .nil
  | n + 1 => by rw [List.replicate_succ, List.replicate_succ]; exact .cons hv (replicate hv n)
theorem map_same {l : List Value} (h : ∀ v ∈ l, VR m v v) : VRs m l l := by
  induction l with
  | nil => exact .nil
  | cons v l ih => exact .cons (h v (by simp)) (ih fun u hu => h u (by simp [hu]))
end VRs

theorem VRs.array {m : Mp} {a a' : Array Value} (h : VRs m a.toList a'.toList) : a.size = a'.size ∧ ∀ (i : Nat) (v v' : Value), a[i]? = some v → a'[i]? = some v' → VR m v v' :=
  ⟨by simpa using h.length, fun i v v' e e' => h.get' (i := i) (by simpa using e) (by simpa using e')⟩
theorem VRs.of_array {m : Mp} {a a' : Array Value} (h1 : a.size = a'.size) (h2 : ∀ (i : Nat) (v v' : Value), a[i]? = some v → a'[i]? = some v' → VR m v v') : VRs m a.toList a'.toList :=
  .of_get (by simpa using h1) fun i v v' e e' => h2 i v v' (by simpa using e) (by simpa using e')

/-- A value without memory: a constant. -/
inductive Plain : Value → Prop
  | bool (b : Bool) : Plain (.bool b)
  | int (k : IntKind) (n : Int) : Plain (.int k n)
  | string (s : ByteArray) : Plain (.string s)
  | nilp : Plain (.pointer none)
  | nils : Plain (.slice none 0 0)
  | nilm : Plain (.map none)
  | nilf : Plain .nilFunc
  | nili : Plain .nilIface
  | fn (f : Nat) : Plain (.func (.func f) #[] #[])
  | iface (t : TypeId) (v : Value) : Plain v → Plain (.iface t v)
  | agg (a : Array Value) : (∀ v ∈ a.toList, Plain v) → Plain (.agg a)
  | tup (a : Array Value) : (∀ v ∈ a.toList, Plain v) → Plain (.tuple a)

theorem Plain.vr {m : Mp} {v : Value} (h : Plain v) : VR m v v := by
  induction h with
  | bool b => exact .bool b
  | int k n => exact .int k n
  | string s => exact .string s
  | nilp => exact .nilp
  | nils => exact .nils
  | nilm => exact .nilm
  | nilf => exact .nilf
  | nili => exact .nili
  | fn f => exact .fn _ _ _ _ _ (by simp) rfl (by simp) rfl (by simp)
  | iface t v _ ih => exact .iface t v v ih
  | agg a _ ih => exact .agg a a rfl fun i v v' e e' => by rw [e] at e'; cases e'; exact ih v (by simpa using Array.mem_of_getElem? e)
  | tup a _ ih => exact .tup a a rfl fun i v v' e e' => by rw [e] at e'; cases e'; exact ih v (by simpa using Array.mem_of_getElem? e)

/-- One cell's value that is plain. -/
def plain1 : Value → Bool
  | .bool _ | .int _ _ | .string _ | .pointer none | .slice none 0 0 | .map none | .nilFunc | .nilIface => true
  | .func (.func _) fs cs => fs.toList.isEmpty && cs.toList.isEmpty
  | _ => false
/-- A constant, as code and types hold them. -/
def plainB : Value → Bool
  | .agg a | .tuple a => a.toList.all plain1
  | v => plain1 v

theorem plain1_sound {v : Value} (h : plain1 v = true) : Plain v := by
  unfold plain1 at h
  split at h <;> first
    | exact .bool _
    | exact .int _ _
    | exact .string _
    | exact .nilp
    | exact .nils
    | exact .nilm
    | exact .nilf
    | exact .nili
    | (simp at h; obtain ⟨h1, h2⟩ := h; subst h1; subst h2; exact .fn _)
    | cases h
theorem plainB_sound {v : Value} (h : plainB v = true) : Plain v := by
  unfold plainB at h
  split at h
  · exact .agg _ fun v hv => plain1_sound (List.all_eq_true.1 h v hv)
  · exact .tup _ fun v hv => plain1_sound (List.all_eq_true.1 h v hv)
  · exact plain1_sound h

end Go.Proofs.Ytcookjolkhcjhaa.D
