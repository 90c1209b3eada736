/-
  D, part 25: what must hold for a run of code to come to 'K', out of the code ('denC'); numbers, slices, texts .. as Lean's own.
-/
import Derived.Test.YtcookjolkhcjhaaD24
namespace Go.Proofs.Ytcookjolkhcjhaa.D
noncomputable section
set_option linter.unusedVariables false

/-! ### Kinds of values -/
inductive Sc where
  | int (k : IntKind) | bool | str | ptr | sl | mp | any
structure Sl where
  a : Option Addr
  len : Nat
  cap : Nat
abbrev Sc.T : Sc → Type
  | .int _ => Int | .bool => Bool | .str => List UInt8 | .ptr => Option Addr | .sl => Sl | .mp => Option Nat | .any => Value
def Sc.enc : (s : Sc) → s.T → Value
  | .int k, n => .int k n
  | .bool, b => .bool b
  | .str, l => .string ⟨l.toArray⟩
  | .ptr, p => .pointer p
  | .sl, s => .slice s.a s.len s.cap
  | .mp, r => .map r
  | .any, v => v
def Sc.dec : (s : Sc) → Value → Option s.T
  | .int k, .int k' n => cond (kindEq k k') (some n) none
  | .bool, .bool b => some b
  | .str, .string s => some s.data.toList
  | .ptr, .pointer p => some p
  | .sl, .slice a l c => some ⟨a, l, c⟩
  | .mp, .map r => some r
  | .any, v => some v
  | _, _ => none
theorem Sc.dec_some {s : Sc} {v : Value} {x : s.T} (h : s.dec v = some x) : v = s.enc x := by
  cases s <;> cases v <;> first
    | (cases h; rfl)
    | (simp only [Sc.dec] at h; obtain ⟨h1, h2⟩ := cond_some h; cases h2; rw [kindEq_eq h1]; rfl)
    | (simp only [Sc.dec] at h; cases h; rfl)
    | (simp [Sc.dec] at h; done)
    | (simp only [Sc.dec, Option.some.injEq] at h; subst h; rfl)

/-- Rows of data. -/
abbrev Tup1 {ι : Type} (T : ι → Type) (s : ι) : List ι → Type
  | [] => T s
  | t :: r => T s × Tup1 T t r
abbrev Tup {ι : Type} (T : ι → Type) : List ι → Type
  | [] => Unit
  | s :: r => Tup1 T s r
def encs1 {ι : Type} {T : ι → Type} (enc : ∀ i, T i → Value) (s : ι) : (l : List ι) → Tup1 T s l → List Value
  | [], x => [enc s x]
  | t :: r, x => enc s x.1 :: encs1 enc t r x.2
def encs {ι : Type} {T : ι → Type} (enc : ∀ i, T i → Value) : (l : List ι) → Tup T l → List Value
  | [], _ => []
  | s :: r, x => encs1 enc s r x
def decs1 {ι : Type} {T : ι → Type} (dec : ∀ i, Value → Option (T i)) (s : ι) : (l : List ι) → List Value → Option (Tup1 T s l)
  | [], [v] => dec s v
  | t :: r, v :: vs => (dec s v).bind fun x => (decs1 dec t r vs).map fun y => (x, y)
  | _, _ => none
def decs {ι : Type} {T : ι → Type} (dec : ∀ i, Value → Option (T i)) : (l : List ι) → List Value → Option (Tup T l)
  | [], [] => some ()
  | s :: r, vs => decs1 dec s r vs
  | _, _ => none
theorem decs1_some {ι : Type} {T : ι → Type} {enc : ∀ i, T i → Value} {dec : ∀ i, Value → Option (T i)} (h : ∀ i v x, dec i v = some x → v = enc i x) :
    ∀ (l : List ι) (s : ι) (vs : List Value) (x : Tup1 T s l), decs1 dec s l vs = some x → vs = encs1 enc s l x := by
  intro l
  induction l with
  | nil =>
    intro s vs x hx
    match vs, hx with
    | [v], hx => exact congrArg (fun u => [u]) (h _ _ _ hx)
  | cons t r ih =>
    intro s vs x hx
    match vs, hx with
    | v :: vs, hx =>
      simp only [decs1, Option.bind_eq_some_iff, Option.map_eq_some_iff] at hx
      obtain ⟨a, h1, b, h2, h3⟩ := hx
      subst h3
      simp only [encs1]
      rw [h _ _ _ h1, ih _ _ _ h2]
theorem decs_some {ι : Type} {T : ι → Type} {enc : ∀ i, T i → Value} {dec : ∀ i, Value → Option (T i)} (h : ∀ i v x, dec i v = some x → v = enc i x)
    {l : List ι} {vs : List Value} {x : Tup T l} (hx : decs dec l vs = some x) : vs = encs enc l x := by
  cases l with
  | nil =>
    cases vs with
    | nil => rfl
    | cons v vs => cases hx
  | cons s r => exact decs1_some h _ _ _ _ hx

inductive Ty where
  | sc (s : Sc)
  | agg (l : List Sc)
abbrev Ty.T : Ty → Type
  | .sc s => s.T
  | .agg l => Tup Sc.T l
def Ty.enc : (t : Ty) → t.T → Value
  | .sc s, x => s.enc x
  | .agg l, x => .agg (encs Sc.enc l x).toArray
def Ty.dec : (t : Ty) → Value → Option t.T
  | .sc s, v => s.dec v
  | .agg l, .agg a => decs Sc.dec l a.toList
  | .agg _, _ => none
theorem Ty.dec_some {t : Ty} {v : Value} {x : t.T} (h : t.dec v = some x) : v = t.enc x := by
  cases t with
  | sc s => exact Sc.dec_some h
  | agg l =>
    match v, h with
    | .agg a, h =>
      have := decs_some (enc := Sc.enc) (fun _ _ _ h => Sc.dec_some h) h
      simp only [Ty.enc, ← this]
/-- A struct's value. -/
def sv (l : List Sc) (x : Tup Sc.T l) : Value := .agg (encs Sc.enc l x).toArray
/-- What a call or an operation answers. -/
inductive TT where
  | one (t : Ty)
  | tup (l : List Ty)
abbrev TT.T : TT → Type
  | .one t => t.T
  | .tup l => Tup Ty.T l
def TT.enc : (t : TT) → t.T → Value
  | .one t, x => t.enc x
  | .tup l, x => .tuple (encs Ty.enc l x).toArray
abbrev tI : TT := .one (.sc (.int .i64))
abbrev tU : TT := .one (.sc (.int .u64))
abbrev tU8 : TT := .one (.sc (.int .u8))
abbrev tU32 : TT := .one (.sc (.int .u32))
abbrev tB : TT := .one (.sc .bool)
abbrev tS : TT := .one (.sc .sl)
abbrev tP : TT := .one (.sc .ptr)
abbrev tT : TT := .one (.sc .str)
abbrev tM : TT := .one (.sc .mp)
abbrev tA : TT := .one (.sc .any)
/-- By the operation's type. -/
def scOf : TypeDesc → Option Sc
  | .bool => some .bool
  | .int k => some (.int k)
  | .string => some .str
  | .pointer _ => some .ptr
  | .slice _ => some .sl
  | .map _ _ => some .mp
  | .func _ _ _ => some .any
  | .interface _ => some .any
  | _ => none
def mapO {α β : Type} (f : α → Option β) : List α → Option (List β)
  | [] => some []
  | x :: r => (f x).bind fun y => (mapO f r).map (y :: ·)
def flatE (E : Env) : Nat → TypeId → Option (List Sc)
  | 0, _ => none
  | n + 1, t =>
    match E.inf t with
    | none => none
    | some i =>
      match i.und with
      | .struct fs => (mapO (fun f : Field => flatE E n f.type) fs.toList).map List.flatten
      | .array k e => (flatE E n e).map fun l => (List.replicate k l).flatten
      | d => (scOf d).map fun s => [s]
def tyE (E : Env) (t : TypeId) : Option Ty :=
  match E.inf t with
  | none => none
  | some i =>
    match i.und with
    | .struct _ | .array _ _ => (flatE E 8 t).map .agg
    | d => (scOf d).map .sc
def ttE (E : Env) (t : TypeId) : Option TT :=
  match E.inf t with
  | none => none
  | some i =>
    match i.und with
    | .tuple es => (mapO (tyE E) es.toList).map .tup
    | _ => (tyE E t).map .one
/-- .. or anything. -/
def ttC (E : Env) (t : TypeId) : TT := (ttE E t).getD (.one (.sc .any))

/-! ### What a call comes to -/
/-- A call of a function value. -/
def callV (E : Env) (run : Runner) (f : Value) (args : List Value) (S : St) : Option (Value × St) := (calleeD S args f).bind (coreC E run)
def WC (E : Env) (f : Nat) (args : List Value) (S : St) (Q : Value → St → Prop) : Prop := ∃ n v S', callF E (exec E drawD n) f args S = some (v, S') ∧ Q v S'
def WV (E : Env) (f : Value) (args : List Value) (S : St) (Q : Value → St → Prop) : Prop := ∃ n v S', callV E (exec E drawD n) f args S = some (v, S') ∧ Q v S'
theorem WC.mono {E : Env} {f : Nat} {args : List Value} {S : St} {Q Q' : Value → St → Prop} (h : WC E f args S Q) (k : ∀ v S', Q v S' → Q' v S') : WC E f args S Q' := by
  obtain ⟨n, v, S', h1, h2⟩ := h; exact ⟨n, v, S', h1, k _ _ h2⟩
theorem WV.mono {E : Env} {f : Value} {args : List Value} {S : St} {Q Q' : Value → St → Prop} (h : WV E f args S Q) (k : ∀ v S', Q v S' → Q' v S') : WV E f args S Q' := by
  obtain ⟨n, v, S', h1, h2⟩ := h; exact ⟨n, v, S', h1, k _ _ h2⟩
theorem WV.of_WC {E : Env} {g : Nat} {first cap : Array Value} {args : List Value} {S : St} {Q : Value → St → Prop} (h : WC E g (first.toList ++ args ++ cap.toList) S Q) : WV E (.func (.func g) first cap) args S Q := by
  obtain ⟨n, v, S', h1, h2⟩ := h; exact ⟨n, v, S', h1, h2⟩

/-! ### The words -/
def hiA (α : Type) : Type := α
def hiB (α : Type) : Type := hiA α
def wO {α : Type} (o : Option α) (k : α → Prop) : Prop := @Option.rec α (fun _ => hiB Prop) False k o
def orO {α : Type} (o : Option α) (X : Prop) (k : α → Prop) : Prop := @Option.rec α (fun _ => hiB Prop) X k o
def selW (b : Bool) (X Y : Prop) : Prop := @Bool.rec (fun _ => hiB Prop) Y X b
@[simp] theorem selW_true {X Y : Prop} : selW true X Y = X := rfl
@[simp] theorem selW_false {X Y : Prop} : selW false X Y = Y := rfl
theorem wO_iff {α : Type} {o : Option α} {k : α → Prop} : wO o k ↔ ∃ x, o = some x ∧ k x := by
  cases o with
  | none => exact ⟨fun h => h.elim, fun ⟨_, h, _⟩ => nomatch h⟩
  | some x => exact ⟨fun h => ⟨x, rfl, h⟩, fun ⟨y, h, hk⟩ => by cases h; exact hk⟩
def evV (ty : TT) (c : Option Value) (k : ty.T → Prop) : Prop := ∃ x, c = some (ty.enc x) ∧ k x
def evP (ty : TT) (c : Option (Value × St)) (k : ty.T → St → Prop) : Prop := ∃ x S', c = some (ty.enc x, S') ∧ k x S'
def evS (c : Option St) (k : St → Prop) : Prop := ∃ S', c = some S' ∧ k S'
def newW (S : St) (o : DObj) (k : Nat → St → Prop) : Prop := ∀ b S', b = S.next → S' = (S.alloc o).2 → k b S'
def evC (E : Env) (ty : TT) (g : Nat) (args : List Value) (S : St) (k : ty.T → St → Prop) : Prop := WC E g args S fun v S' => ∃ x, v = ty.enc x ∧ k x S'
def evY (E : Env) (ty : TT) (f : Value) (args : List Value) (S : St) (k : ty.T → St → Prop) : Prop := WV E f args S fun v S' => ∃ x, v = ty.enc x ∧ k x S'
def ptrW (p : Option Addr) (k : Nat → Nat → Prop) : Prop := ∃ b o, p = some ⟨b, o, none⟩ ∧ k b o
def idxW (a : Option Addr) (len : Nat) (i : Int) (k : Nat → Nat → Prop) : Prop := ∃ b o, a = some ⟨b, o, none⟩ ∧ 0 ≤ i ∧ i < (len : Int) ∧ k b o
def needB (b : Bool) (K : Prop) : Prop := @Bool.rec (fun _ => hiB Prop) False K b
theorem needB_iff {b : Bool} {K : Prop} : needB b K ↔ b = true ∧ K := by cases b <;> simp [needB]
structure needW (b : Bool) (K : Prop) : Prop where
  ok : b = true
  go : K
theorem needW_iff {b : Bool} {K : Prop} : needW b K ↔ b = true ∧ K := ⟨fun h => ⟨h.1, h.2⟩, fun h => ⟨h.1, h.2⟩⟩
/- The kernel unfolds the greater definition first: ifW is least, so that no condition is worked out. -/
def ifW (b : Bool) (X Y : Prop) : Prop := @Bool.rec (fun _ => Prop) Y X b
theorem ifW_iff {b : Bool} {X Y : Prop} : ifW b X Y ↔ selW b X Y := by cases b <;> exact Iff.rfl
def splitW (b : Bool) (k : Bool → Prop) : Prop := ifW b (k true) (k false)
def eqW (E : Env) (S : St) (t : TypeId) (a b : Value) (k : Bool → Prop) : Prop := ∃ e, eqD E S 6 t a b = some e ∧ k e
def setLowW (S : St) (l : Nat) (k : St → Prop) : Prop := ∀ S', S' = { S with low := l } → k S'
def updW (S : St) (b : Nat) (o : DObj) (k : St → Prop) : Prop := ∀ S', S' = S.upd b o → k S'
def hasW (S : St) (b : Nat) (o : DObj) (K : Prop) : Prop := S.heap.get b = some o ∧ K
def loopW {σ : Type} (body : (σ → St → Prop) → σ → St → Prop) (x : σ) (S : St) : Prop := ∀ P : σ → St → Prop, (∀ x S, body P x S → P x S) → P x S
def joinW {σ : Type} (K : σ → St → Prop) (F : (σ → St → Prop) → Prop) : Prop := ∀ k : σ → St → Prop, (∀ x S, K x S → k x S) → F k
theorem splitW_iff {b : Bool} {k : Bool → Prop} : splitW b k ↔ k b := by unfold splitW; rw [ifW_iff]; cases b <;> exact Iff.rfl

/-! ### Operands -/
structure Sub (R A : Ac) : Prop where
  n : R.n = A.n
  rd : R.rd = A.rd
  dfr : R.defers = A.defers
  get : ∀ t v, R.regs.get t = some v → A.regs.get t = some v
def ev (E : Env) (R : Ac) : Operand → Option Value
  | .tmp t => R.regs.get t
  | .const v => cond (plainB v) (some v) none
  | .global g => cond (Nat.blt g E.globs) (some (.pointer (some ⟨g, 0, none⟩))) none
  | .func f => some (.func (.func f) #[] #[])
def evs (E : Env) (R : Ac) : List Operand → Option (List Value)
  | [] => some []
  | x :: r => (ev E R x).bind fun v => (evs E R r).map (v :: ·)
def evps (E : Env) (R : Ac) : List (Nat × Operand) → Option (List (Nat × Value))
  | [] => some []
  | (i, x) :: r => (ev E R x).bind fun v => (evps E R r).map ((i, v) :: ·)
def evo (E : Env) (R : Ac) : Option Operand → Option (Option Value)
  | none => some none
  | some x => (ev E R x).map some
def boolO (v : Value) : Option Bool :=
  match v with
  | .bool b => some b
  | _ => none
def boolW (v : Value) (k : Bool → Prop) : Prop := wO (boolO v) k
theorem boolO_some {v : Value} {b : Bool} (h : boolO v = some b) : v = .bool b := by
  unfold boolO at h
  split at h
  · cases h; rfl
  · cases h
theorem boolW_iff {v : Value} {k : Bool → Prop} : boolW v k ↔ ∃ b, v = .bool b ∧ k b := by
  unfold boolW
  rw [wO_iff]
  exact ⟨fun ⟨b, h, hk⟩ => ⟨b, boolO_some h, hk⟩, fun ⟨b, h, hk⟩ => ⟨b, by rw [h]; rfl, hk⟩⟩
section
variable {E : Env} {R A : Ac} (h : Sub R A)
include h
theorem ev_sub {x : Operand} {v : Value} (hx : ev E R x = some v) : A.eval E x = some v := by
  cases x with
  | tmp t => simp only [Ac.eval, Ac.get]; rw [h.get _ _ hx]; rfl
  | const v => exact hx
  | global g => exact hx
  | func f => exact hx
theorem evs_sub : ∀ {l : List Operand} {vs : List Value}, evs E R l = some vs → A.evals E l = some vs := by
  intro l
  induction l with
  | nil => intro vs hx; exact hx
  | cons x l ih =>
    intro vs hx
    simp only [evs, Option.bind_eq_some_iff, Option.map_eq_some_iff] at hx
    obtain ⟨v, h1, ws, h2, h3⟩ := hx
    subst h3
    simp only [Ac.evals, ev_sub h h1, ih h2, Option.bind_some, Option.map_some]
theorem evps_sub : ∀ {l : List (Nat × Operand)} {vs : List (Nat × Value)}, evps E R l = some vs → partsD E A l = some vs := by
  intro l
  induction l with
  | nil => intro vs hx; exact hx
  | cons x l ih =>
    obtain ⟨i, x⟩ := x
    intro vs hx
    simp only [evps, Option.bind_eq_some_iff, Option.map_eq_some_iff] at hx
    obtain ⟨v, h1, ws, h2, h3⟩ := hx
    subst h3
    simp only [partsD, ev_sub h h1, ih h2, Option.bind_some, Option.map_some]
theorem evo_sub {x : Option Operand} {v : Option Value} (hx : evo E R x = some v) : optD E A x = some v := by
  cases x with
  | none => exact hx
  | some x =>
    simp only [evo, Option.map_eq_some_iff] at hx
    obtain ⟨w, h1, h2⟩ := hx
    subst h2
    simp only [optD, ev_sub h h1, Option.map_some]
theorem Sub.set {t : Tmp} {v : Value} : Sub { R with regs := R.regs.set t v } { A with regs := A.regs.set t v } := by
  refine ⟨h.n, h.rd, h.dfr, fun u w hu => ?_⟩
  simp only [PM.get_set] at hu ⊢
  split at hu
  · rename_i e; rw [if_pos e]; exact hu
  · rename_i hne; rw [if_neg hne]; exact h.get _ _ hu
/-- What is known of a temporary is said once more. -/
theorem Sub.say {t : Tmp} {v : Value} (hv : A.regs.get t = some v) : Sub { R with regs := R.regs.set t v } A := by
  refine ⟨h.n, h.rd, h.dfr, fun u w hu => ?_⟩
  simp only [PM.get_set] at hu
  split at hu
  · rename_i e; subst e; rw [hv]; exact hu
  · exact h.get _ _ hu
end

/-! ### Operations -/
/- The kernel must not work a number out that it does not know (by 2^63 steps): wrapI is wrapD, and does not unfold. -/
theorem wrapI_ex : ∃ f : IntKind → Int → Int, ∀ k n, f k n = wrapD k n := ⟨wrapD, fun _ _ => rfl⟩
def wrapI : IntKind → Int → Int := Classical.choose wrapI_ex
theorem wrapI_eq (k : IntKind) (n : Int) : wrapI k n = wrapD k n := Classical.choose_spec wrapI_ex k n
theorem ltI_ex : ∃ f : Int → Int → Bool, ∀ a b, f a b = decide (a < b) := ⟨fun a b => decide (a < b), fun _ _ => rfl⟩
/-- a < b, not to be worked out by the kernel. -/
def ltI : Int → Int → Bool := Classical.choose ltI_ex
theorem ltI_eq (a b : Int) : ltI a b = decide (a < b) := Classical.choose_spec ltI_ex a b
theorem leI_ex : ∃ f : Int → Int → Bool, ∀ a b, f a b = decide (a ≤ b) := ⟨fun a b => decide (a ≤ b), fun _ _ => rfl⟩
def leI : Int → Int → Bool := Classical.choose leI_ex
theorem leI_eq (a b : Int) : leI a b = decide (a ≤ b) := Classical.choose_spec leI_ex a b
theorem eqI_ex : ∃ f : Int → Int → Bool, ∀ a b, f a b = decide (a = b) := ⟨fun a b => decide (a = b), fun _ _ => rfl⟩
def eqI : Int → Int → Bool := Classical.choose eqI_ex
theorem eqI_eq (a b : Int) : eqI a b = decide (a = b) := Classical.choose_spec eqI_ex a b
def shiftV (left : Bool) (k : IntKind) (a b : Int) : Value :=
  cond left (.int k (wrapI k (a * ((2 ^ min b.toNat k.bits : Nat) : Int)))) (.int k (a.fdiv ((2 ^ min b.toNat k.bits : Nat) : Int)))
def andI (k : IntKind) (a b : Int) : Int := k.wrap (BitVec.ofInt k.bits a &&& BitVec.ofInt k.bits b).toNat
def orI (k : IntKind) (a b : Int) : Int := k.wrap (BitVec.ofInt k.bits a ||| BitVec.ofInt k.bits b).toNat
def xorI (k : IntKind) (a b : Int) : Int := k.wrap (BitVec.ofInt k.bits a ^^^ BitVec.ofInt k.bits b).toNat
def andNotI (k : IntKind) (a b : Int) : Int := k.wrap (BitVec.ofInt k.bits a &&& ~~~(BitVec.ofInt k.bits b)).toNat
def denInt (op : BinOp) (k : IntKind) (p q : Int) (K : Value → Prop) : Prop :=
  match op with
  | .eql => K (.bool (eqI p q))
  | .neq => K (.bool (!eqI p q))
  | .lss => K (.bool (ltI p q))
  | .leq => K (.bool (leI p q))
  | .gtr => K (.bool (ltI q p))
  | .geq => K (.bool (leI q p))
  | .add => K (.int k (wrapI k (p + q)))
  | .sub => K (.int k (wrapI k (p - q)))
  | .mul => K (.int k (wrapI k (p * q)))
  | .quo => needW (!decide (q = 0)) (K (.int k (wrapI k (p.tdiv q))))
  | .rem => needW (!decide (q = 0)) (K (.int k (p.tmod q)))
  | .and => K (.int k (andI k p q))
  | .or => K (.int k (orI k p q))
  | .xor => K (.int k (xorI k p q))
  | .andNot => K (.int k (andNotI k p q))
  | op => wO (intD op k p q) K
def denEq (E : Env) (S : St) (op : BinOp) (t : TypeId) (x y : Operand) (a b : Value) (K : Value → Prop) : Prop :=
  match op with
  | .eql => needB (guardD E t x y a b) (eqW E S t a b fun e => K (.bool e))
  | .neq => needB (guardD E t x y a b) (eqW E S t a b fun e => K (.bool (!e)))
  | _ => False
/-- Two texts, one behind the other. -/
def catD (p q : ByteArray) : Option Value := strD .add p q
def denUn (op : UnOp) (v : Value) (K : Value → Prop) : Prop :=
  match op, v with
  | .neg, .int k n => K (.int k (wrapI k (0 - n)))
  | op, v => wO (unD op v) K
def denStr (op : BinOp) (p q : ByteArray) (K : Value → Prop) : Prop :=
  match op with
  | .add => evV (.one (.sc .str)) (catD p q) fun x => K (.string ⟨x.toArray⟩)
  | op => wO (strD op p q) K
def denBin (E : Env) (S : St) (op : BinOp) (t : TypeId) (x y : Operand) (a b : Value) (K : Value → Prop) : Prop :=
  match a, b with
  | .int k p, .int k' q =>
    match op with
    | .shl => needW (!decide (q < 0)) (K (shiftV true k p q))
    | .shr => needW (!decide (q < 0)) (K (shiftV false k p q))
    | op => selW (kindEq k k') (denInt op k p q K) False
  | .string p, .string q => denStr op p q K
  | a, b => denEq E S op t x y a b K
def nilW (v : Value) (K : Value → Prop) : Prop :=
  match v with
  | .pointer p => ptrW p fun b o => K (.pointer (some ⟨b, o, none⟩))
  | v => wO (nilD v) K
def convW (E : Env) (S : St) (s d : TypeId) (v : Value) (K : Value → St → Prop) : Prop :=
  match E.und s, E.und d, v with
  | some _, some (.int k), .int _ n => K (.int k (wrapI k n)) S
  | _, _, v => wO (ttE E d) fun ty => evP ty (convertD E S s d v) fun x S' => K (ty.enc x) S'
def fieldW (E : Env) (t : TypeId) (v : Value) (f : Nat) (K : Value → Prop) : Prop :=
  match v with
  | .pointer p => ptrW p fun b o => wO (fieldAddrD E t (.pointer (some ⟨b, o, none⟩)) f) K
  | _ => False
def indexW (E : Env) (t : TypeId) (v i : Value) (K : Value → Prop) : Prop :=
  match v, i with
  | .slice a len cap, .int _ i =>
    match E.und t with
    | some (.slice e) => wO (E.size e) fun s => idxW a len i fun b o => K (.pointer (some ⟨b, o + i.toNat * s, none⟩))
    | _ => False
  | .pointer p, .int _ i =>
    match E.und t with
    | some (.array len e) => wO (E.size e) fun s => idxW p len i fun b o => K (.pointer (some ⟨b, o + i.toNat * s, none⟩))
    | _ => False
  | _, _ => False
/-- The cells of a slice that is built. -/
def cellsD (E : Env) (t : TypeId) (len : Nat) (parts : List (Nat × Value)) : Option (List Value) :=
  match E.und t with
  | some (.slice e) =>
    match E.inf e with
    | some i =>
      i.zero.bind fun z =>
      cond (Nat.ble (len * i.size) 16777216 && Nat.ble len 16777216 && Nat.beq (cellsOf z).length i.size)
        (fillD (fun j => some (j * i.size, i.size)) (zerosD (cellsOf z) len) parts) none
    | none => none
  | _ => none
/-- How many entries a map has. -/
def lenM (E : Env) (S : St) (t : TypeId) (r : Option Nat) : Option Value := lenD E S t (.map r)
def lenW (E : Env) (S : St) (t : TypeId) (v : Value) (K : Value → Prop) : Prop :=
  match v with
  | .map r => evV (.one (.sc (.int .i64))) (lenM E S t r) fun x => K (.int .i64 x)
  | v => wO (lenD E S t v) K
def denBuiltin (E : Env) (S : St) (b : Builtin) (ts : Array TypeId) (ty : TypeId) (args : List Value) (K : Value → St → Prop) : Prop :=
  match b, args with
  | .len, [x] => wO (ts[0]?) fun t => lenW E S t x fun v => K v S
  | .max, x :: r => wO (minmaxD true x r) fun v => K v S
  | .min, x :: r => wO (minmaxD false x r) fun v => K v S
  | .append, [s, x] => wO (ts[0]?) fun t => wO (ts[1]?) fun u => evP (.one (.sc .sl)) (appendD E S t u s x) fun y S' => K (.slice y.a y.len y.cap) S'
  | .delete, [m, k] => wO (ts[0]?) fun t => evS (deleteD E S t m k) fun S' => K (.tuple #[]) S'
  | .clear, [x] => wO (ts[0]?) fun t => evS (clearD E S t x) fun S' => K (.tuple #[]) S'
  | b, args => evP (ttC E ty) (builtinD E S b ts args) fun x S' => K ((ttC E ty).enc x) S'
def denCall (E : Env) (R : Ac) (S : St) (c : Call) (ty : TypeId) (K : Value → St → Prop) : Prop :=
  wO (evs E R c.args.toList) fun args =>
  match c.callee with
  | .builtin b => denBuiltin E S b c.argTypes ty args K
  | .value (.func g) => evC E (ttC E ty) g args S fun x S' => K ((ttC E ty).enc x) S'
  | .value f => wO (ev E R f) fun g => evY E (ttC E ty) g args S fun x S' => K ((ttC E ty).enc x) S'
  | .invoke _ _ => False
def denOp (E : Env) (R : Ac) (S : St) (o : Op) (ty : TypeId) (K : Value → St → Prop) : Prop :=
  match o with
  | .move x | .assign x => wO (ev E R x) fun v => K v S
  | .pick c a b => wO (ev E R c) fun v => boolW v fun t => splitW t fun t => wO (ev E R (cond t a b)) fun v => K v S
  | .alloc e => wO (E.zero e) fun z => newW S (.cells (cellsOf z) none false none) fun b S' => K (.pointer (some ⟨b, 0, none⟩)) S'
  | .box _ x => wO (ev E R x) fun v => newW S (.cells (cellsOf v) none false none) fun b S' => K (.pointer (some ⟨b, 0, none⟩)) S'
  | .build t ps => wO (evps E R ps.toList) fun parts => wO (buildD E t parts) fun v => K v S
  | .buildSlice t n ps => wO (evps E R ps.toList) fun parts => wO (cellsD E t n parts) fun l => newW S (.cells l none false none) fun b S' => K (.slice (some ⟨b, 0, none⟩) n n) S'
  | .load t a => wO (ev E R a) fun p => wO (ttE E t) fun ty => evV ty (loadV E S t p) fun x => K (ty.enc x) S
  | .store t a x => wO (ev E R a) fun p => wO (ev E R x) fun v => evS (storeV E S t p v) fun S' => K undef S'
  | .nilCheck x => wO (ev E R x) fun v => nilW v fun v => K v S
  | .binOp op t x y _ => wO (ev E R x) fun a => wO (ev E R y) fun b => denBin E S op t x y a b fun v => K v S
  | .unOp op _ x => wO (ev E R x) fun v => denUn op v fun v => K v S
  | .convert s d x => wO (ev E R x) fun v => convW E S s d v K
  | .makeInterface t x => wO (ev E R x) fun v => wO (ifaceD E t v) fun v => K v S
  | .makeFunc fn first captured => wO (evs E R first.toList) fun fs => wO (evs E R captured.toList) fun cs => needB (notYield fn) (K (.func fn fs.toArray cs.toArray) S)
  | .makeMap t r => wO (evo E R r) fun h => needB (hintOk E t h) (newW S (.map [] 0) fun b S' => K (.map (some b)) S')
  | .makeSlice t l c => wO (ev E R l) fun ln => wO (ev E R c) fun cp => evP (.one (.sc .sl)) (makeSliceD E S t ln cp) fun y S' => K (.slice y.a y.len y.cap) S'
  | .slice t x lo hi mx => wO (ev E R x) fun v => wO (evo E R lo) fun l => wO (evo E R hi) fun h => wO (evo E R mx) fun m => wO (ttE E ty) fun tt => evV tt (sliceD E S t v l h m) fun x => K (tt.enc x) S
  | .fieldAddr t x f => wO (ev E R x) fun v => fieldW E t v f fun v => K v S
  | .field t x f => wO (ev E R x) fun v => wO (fieldD E t v f) fun v => K v S
  | .indexAddr t x i => wO (ev E R x) fun v => wO (ev E R i) fun j => indexW E t v j fun v => K v S
  | .index t x i => wO (ev E R x) fun v => wO (ev E R i) fun j => wO (ttE E ty) fun tt => evV tt (indexD E t v j) fun x => K (tt.enc x) S
  | .lookup t x k ok => wO (ev E R x) fun v => wO (ev E R k) fun j => wO (ttE E ty) fun tt => evV tt (lookupD E S t v j ok) fun x => K (tt.enc x) S
  | .mapUpdate t m k x | .insert t m k x => wO (ev E R m) fun v => wO (ev E R k) fun j => wO (ev E R x) fun u => evS (mapUpdateD E S t v j u) fun S' => K undef S'
  | .mapEntry t m k => wO (ev E R m) fun v => wO (ev E R k) fun j => evP (ttC E ty) (mapEntryD E S t v j) fun x S' => K ((ttC E ty).enc x) S'
  | .entryStore _ m s x => wO (ev E R m) fun v => wO (ev E R s) fun j => wO (ev E R x) fun u => evS (entryStoreD S v j u) fun S' => K undef S'
  | .extract t i => wO (ev E R t) fun v => wO (extractD i v) fun v => K v S
  | .call c => denCall E R S c ty K
  | _ => False

/-! ### Operations in a row -/
def putR (R : Ac) (dst : Option Tmp) (v : Value) (K : Ac → Prop) : Prop :=
  match dst with
  | none => K R
  | some d => selW (Nat.blt d R.n) (K { R with regs := R.regs.set d v }) False
def guardW (ops : Array Oper) (R : Ac) (o : Oper) (K : Bool → Ac → Prop) : Prop :=
  match o.guard with
  | none => K true R
  | some (j, want) =>
    wO ((ops[j]?).bind (·.dst)) fun t => selW (Nat.blt t R.n) (wO (R.regs.get t) fun v => orO (boolO v) (K false R) fun b => splitW b fun b => K (b == want) { R with regs := R.regs.set t (.bool b) }) False
def denOps (E : Env) (ops : Array Oper) : List Oper → Ac → St → (Ac → St → Prop) → Prop
  | [], R, S, K => K R S
  | o :: r, R, S, K =>
    guardW ops R o fun w R => selW w (denOp E R S o.op o.type fun v S' => putR R o.dst v fun R' => denOps E ops r R' S' K) (putR R o.dst undef fun R' => denOps E ops r R' S K)
def lowVW (lim : Nat) (v : Value) (K : Prop) : Prop := needB (vlow lim v) K
def scalarB : Value → Bool
  | .int _ _ | .bool _ | .string _ => true
  | _ => false
/-- Operands that lead to no new block. -/
def lowsW (E : Env) (R : Ac) (lim : Nat) (K : Prop) : List Operand → Prop
  | [] => K
  | x :: r => wO (ev E R x) fun v => lowVW lim v (lowsW E R lim K r)
def denM (E : Env) (lim : Nat) (md : Md) (R : Ac) (S : St) (o : Op) (ty : TypeId) (K : Value → St → Prop) : Prop :=
  match md with
  | .free => denOp E R S o ty K
  | .low => lowsW E R lim (denOp E R S o ty K) o.operands.toList
  | .quiet => setLowW S lim fun S1 => denOp E R S1 o ty fun v S2 => needW (Nat.ble lim S2.low) (setLowW S2 (Nat.min S.low lim) fun S3 => K v S3)
def denGo (E : Env) (ops : Array Oper) (lim : Nat) : List (Oper × Md) → Ac → St → (Ac → St → Prop) → Prop
  | [], R, S, K => K R S
  | o :: r, R, S, K =>
    guardW ops R o.1 fun w R => selW w (denM E lim o.2 R S o.1.op o.1.type fun v S' => putR R o.1.dst v fun R' => denGo E ops lim r R' S' K) (putR R o.1.dst undef fun R' => denGo E ops lim r R' S K)

def memN (t : Nat) : List Nat → Bool
  | [] => false
  | u :: r => cond (Nat.beq t u) true (memN t r)

/-! ### Code -/
/-- Where ways meet: temporaries that stay, and those that differ; the marks of loops over functions, if they do. -/
structure Jn where
  con : List Tmp
  var : List (Tmp × Ty)
  dfr : Bool
inductive Hn where
  | no
  | n (a b : Hn) (j : Option Jn)
def Hn.a : Hn → Hn
  | .no => .no
  | .n a _ _ => a
def Hn.b : Hn → Hn
  | .no => .no
  | .n _ b _ => b
def Hn.j : Hn → Option Jn
  | .no => none
  | .n _ _ j => j
def Jn.tys (j : Jn) : List Ty := j.var.map (·.2)
abbrev JT (d : Bool) (l : List Ty) : Type :=
  match d with
  | true => List Nat × Tup Ty.T l
  | false => Tup Ty.T l
def getL (R : Ac) : List (Tmp × Ty) → Option (List Value)
  | [] => some []
  | p :: r => (R.regs.get p.1).bind fun v => (getL R r).map (v :: ·)
def leafT (d : Bool) (R : Ac) {l : List Ty} (x : Tup Ty.T l) (K : JT d l → Prop) : Prop :=
  match d, K with
  | true, K => K (R.defers, x)
  | false, K => K x
def leafJ (j : Jn) (R : Ac) (K : JT j.dfr j.tys → Prop) : Prop := wO (getL R j.var) fun vs => wO (decs Ty.dec j.tys vs) fun x => leafT j.dfr R x K
def conL (R : Ac) : List Tmp → List (Tmp × Value)
  | [] => []
  | t :: r => match R.regs.get t with | some v => (t, v) :: conL R r | none => conL R r
def zipL : List (Tmp × Ty) → List Value → List (Tmp × Value)
  | p :: r, v :: vs => (p.1, v) :: zipL r vs
  | _, _ => []
def layL : List (Tmp × Value) → PM Value → PM Value
  | [], t => t
  | p :: r, t => (layL r t).set p.1 p.2
def jdat (d : Bool) {l : List Ty} (x : JT d l) : Tup Ty.T l :=
  match d, x with
  | true, x => x.2
  | false, x => x
def jdfr (d : Bool) {l : List Ty} (x : JT d l) (ds : List Nat) : List Nat :=
  match d, x with
  | true, x => x.1
  | false, _ => ds
def mkJ (j : Jn) (R : Ac) (x : JT j.dfr j.tys) : Ac :=
  { regs := layL (zipL j.var (encs Ty.enc j.tys (jdat j.dfr x))) (layL (conL R j.con) .leaf), n := R.n, defers := jdfr j.dfr x R.defers, rd := R.rd }
def layF : List (Tmp × Value) → PM Value → PM Value
  | [], t => t
  | p :: r, t => layF r (t.set p.1 p.2)
def okJ (j : Jn) (c : Code) : Bool := let l := asg c; (j.con.all fun t => !memN t l) && (j.dfr || !hasRF c)
def seqK (e : Exit) (X Y : Prop) : Prop := @Exit.rec (fun _ => hiB Prop) Y (fun _ => X) (fun _ => X) X (fun _ => X) X e
def blockE (id : Nat) (e : Exit) : Exit :=
  match e with
  | .exit i => cond (Nat.beq i id) .normal (.exit i)
  | e => e
def scopeK (e : Exit) (X : Prop) : Prop := @Exit.rec (fun _ => hiB Prop) X (fun _ => X) (fun _ => False) X (fun _ => X) X e
def retK (e : Exit) (X : Prop) : Prop := @Exit.rec (fun _ => hiB Prop) X (fun _ => False) (fun _ => False) X (fun _ => False) False e
/-- The temporaries of a round: the loop's, and what it is told. -/
def parR (l : Nat) (R : Ac) (ps : List Tmp) (vs : List Value) : Ac := { regs := layF (zipL (ps.map fun p => (p, .sc .any)) vs) R.regs, n := R.n, defers := [], rd := some l }
def endRoundW (l : Nat) (L : LoopState → Option Code → DObj) (e : Exit) (S : St) (k : Bool → St → Prop) : Prop :=
  hasW S l (L .busy none)
  (match e with
   | .normal => updW S l (L .ready none) fun S => k true S
   | .ret => updW S l (L .done (some .ret)) fun S => k false S
   | .exit id => updW S l (L .done (some (.exit id))) fun S => k false S
   | _ => False)
def endX (l : Nat) (L : LoopState → Option Code → DObj) (S : St) (K : Exit → St → Prop) : List Nat → Prop
  | [] => False
  | id :: r => hasW S l (L .done (some (.exit id))) (updW S l (L .exhausted (some (.exit id))) fun S' => K (.exit id) S') ∨ endX l L S K r
/-- How a loop over a function ends: done, by a way back (if r), by one of these ways out. -/
def endLoopW (l : Nat) (L : LoopState → Option Code → DObj) (S : St) (r : Bool) (ids : List Nat) (K : Exit → St → Prop) : Prop :=
  hasW S l (L .ready none) (updW S l (L .exhausted none) fun S' => K .normal S') ∨
    selW r (hasW S l (L .done (some .ret)) (updW S l (L .exhausted (some .ret)) fun S' => K .ret S') ∨ endX l L S K ids) (endX l L S K ids)
def unionN : List Nat → List Nat → List Nat
  | [], l => l
  | x :: r, l => cond (memN x l) (unionN r l) (x :: unionN r l)
/-- The ways out that code may take. -/
def exitsC : Code → List Nat
  | .exit id => [id]
  | .seq a b => unionN (exitsC a) (exitsC b)
  | .cond _ a b => unionN (exitsC a) (exitsC b)
  | .block _ b => exitsC b
  | .loop b => exitsC b
  | .rangeFunc _ _ _ b => exitsC b
  | .scope b => exitsC b
  | _ => []
def retC : Code → Bool
  | .ret => true
  | .seq a b => retC a || retC b
  | .cond _ a b => retC a || retC b
  | .block _ b => retC b
  | .loop b => retC b
  | .rangeFunc _ _ _ b => retC b
  | .scope b => retC b
  | _ => false
/-- It makes a loop's record. -/
def LoopL (L : LoopState → Option Code → DObj) : Prop := ∀ st pd, ∃ r, L st pd = DObj.loop r
/-- What a round of the loop l must bring. -/
def RoundH (E : Env) (l : Nat) (tys : List Ty) (B : Tup Ty.T tys → St → (Bool → St → Prop) → Prop) : Prop :=
  ∀ (x : Tup Ty.T tys) S k, B x S k → WV E (.func (.yield l) #[] #[]) (encs Ty.enc tys x) S fun v S' => ∃ b, v = .bool b ∧ k b S'
/-- The function value g, called with the rounds of l. -/
def WG (E : Env) (g : Value) (l : Nat) (S : St) (Q : St → Prop) : Prop :=
  ∃ f first cap, g = .func (.func f) first cap ∧ E.prim f = none ∧ WC E f (first.toList ++ [.func (.yield l) #[] #[]] ++ cap.toList) S fun _ S' => Q S'
/-- A loop over a function: l is its record; B: what a round must bring. -/
def rangeW (E : Env) (g : Value) (S : St) (tys : List Ty) (B : Nat → (LoopState → Option Code → DObj) → Tup Ty.T tys → St → (Bool → St → Prop) → Prop) (r : Bool) (ids : List Nat) (K : Nat → Exit → St → Prop) : Prop :=
  ∀ l S' L, l = S.next → S' = (S.alloc (L .ready none)).2 → LoopL L → RoundH E l tys (fun x S k => B l L x S k) →
    WG E g l S' fun S3 => endLoopW l L S3 r ids (K l)
def isLoopW (S : St) (l : Nat) (K : Prop) : Prop := (∃ r, S.heap.get l = some (.loop r)) ∧ K
def rangeK (E : Env) (g : Value) (R : Ac) (S : St) (tys : List Ty) (B : Nat → (LoopState → Option Code → DObj) → Tup Ty.T tys → St → (Bool → St → Prop) → Prop) (r : Bool) (ids : List Nat) (K : Exit → Ac → St → Prop) : Prop :=
  match R.rd with
  | none => newW S .deferred fun d S1 => rangeW E g S1 tys B r ids fun _ e S' => K e { R with defers := d :: R.defers } S'
  | some l => isLoopW S l (rangeW E g S tys B r ids fun _ e S' => K e R S')
def denC (E : Env) : Code → Hn → Ac → St → (Exit → Ac → St → Prop) → Prop
  | .skip, _, R, S, K => K .normal R S
  | .label _, _, R, S, K => K .normal R S
  | .region _ ops d, _, R, S, K => selW d (wO (planD E ops) fun l => denGo E ops S.next l R S fun R' S' => K .normal R' S') (denOps E ops ops.toList R S fun R' S' => K .normal R' S')
  | .seq a b, h, R, S, K =>
    match h.j with
    | none => denC E a h.a R S fun e R' S' => seqK e (K e R' S') (denC E b h.b R' S' K)
    | some j => needB (okJ j a) (joinW (fun (x : JT j.dfr j.tys) S' => denC E b h.b (mkJ j R x) S' K) fun k => denC E a h.a R S fun e R' S' => seqK e (K e R' S') (leafJ j R' fun x => k x S'))
  | .cond c a b, h, R, S, K =>
    match c with
    | .tmp t => wO (R.regs.get t) fun v => boolW v fun v => splitW v fun v => selW v (denC E a h.a { R with regs := R.regs.set t (.bool true) } S K) (denC E b h.b { R with regs := R.regs.set t (.bool false) } S K)
    | c => wO (ev E R c) fun v => boolW v fun v => splitW v fun v => selW v (denC E a h.a R S K) (denC E b h.b R S K)
  | .block id body, h, R, S, K => denC E body h.a R S fun e R' S' => K (blockE id e) R' S'
  | .loop body, h, R, S, K =>
    match h.j with
    | none => False
    | some j => needB (okJ j body) (leafJ j R fun x => loopW (fun (next : JT j.dfr j.tys → St → Prop) (x : JT j.dfr j.tys) S => denC E body h.a (mkJ j R x) S fun e R' S' => seqK e (K e R' S') (leafJ j R' fun x => next x S')) x S)
  | .rangeFunc f ps a b, h, R, S, K =>
    match h.j with
    | none => False
    | some j => wO (ev E R f) fun g => rangeK E g R S j.tys (fun l L x S k => hasW S l (L .ready none) (needB (Nat.beq j.var.length ps.size && ps.toList.all fun p => Nat.blt p R.n)
        (denC E a h.a (parR l R ps.toList (encs Ty.enc j.tys x)) S fun e R1 S1 => seqK e False (hasW S1 l (L .ready none) (updW S1 l (L .busy none) fun S2 =>
          denC E b h.b R1 S2 fun e _ S3 => endRoundW l L e S3 k))))) (retC b) (exitsC b) K
  | .exit id, _, R, S, K => K (.exit id) R S
  | .scope body, h, R, S, K => denC E body h.a R S fun e R' S' => scopeK e (K e R' S')
  | .ret, _, R, S, K => K .ret R S
  | .goto _, _, _, _, _ => False
  | .refuse _, _, _, _, _ => False

/-! ### Functions -/
/-- A function's code. -/
abbrev bodyOf (f : Func) : Code := f.body.getD .skip
def shutW : List Nat → St → (St → Prop) → Prop
  | [], S, K => K S
  | d :: r, S, K => hasW S d .deferred (updW S d .dead fun S' => shutW r S' K)
def resW (E : Env) (R : Ac) (S : St) : List ResultVar → (List Value → Prop) → Prop
  | [], K => K []
  | .tmp t :: r, K => wO (R.regs.get t) fun v => resW E R S r fun vs => K (v :: vs)
  | .cell a t :: r, K => wO (R.regs.get a) fun p => wO (ttE E t) fun ty => evV ty (loadV E S t p) fun x => resW E R S r fun vs => K (ty.enc x :: vs)
def denF (E : Env) (h : Hn) (fn : Func) (c : Code) (args : List Value) (S : St) (K : Value → St → Prop) : Prop :=
  denC E c h { regs := PM.ofList args 0 .leaf, n := args.length + (fn.ntmps - args.length), defers := [], rd := none } S fun e R S' =>
    retK e (shutW R.defers S' fun S2 => resW E R S2 fn.results.toList fun vs => K (tupleD vs) S2)

end
end Go.Proofs.Ytcookjolkhcjhaa.D
