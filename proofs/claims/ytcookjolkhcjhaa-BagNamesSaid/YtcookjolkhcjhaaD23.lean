/-
  D, part 23: D once more, in a form that the kernel runs fast: recursors with small arms, in continuation style. It answers as D does ('callK_eq').
-/
import Derived.Test.YtcookjolkhcjhaaD22
namespace Go.Proofs.Ytcookjolkhcjhaa.D
noncomputable section
set_option linter.unusedSectionVars false
set_option linter.unusedSimpArgs false
set_option linter.unusedVariables false

/-- What is said of an answer. -/
def onV {α : Type} (r : Option α) (k : α → Bool) : Bool := @Option.rec α (fun _ => Bool) false k r
@[simp] theorem onV_none {α : Type} (k : α → Bool) : onV none k = false := rfl
@[simp] theorem onV_some {α : Type} (x : α) (k : α → Bool) : onV (some x) k = k x := rfl
theorem onV_bind {α β : Type} (r : Option α) (f : α → Option β) (k : β → Bool) : onV (r.bind f) k = onV r fun x => onV (f x) k := by cases r <;> rfl
theorem onV_map {α β : Type} (r : Option α) (f : α → β) (k : β → Bool) : onV (r.map f) k = onV r fun x => k (f x) := by cases r <;> rfl
theorem onV_cond {α : Type} (c : Bool) (x : Option α) (k : α → Bool) : onV (cond c x none) k = cond c (onV x k) false := by cases c <;> rfl
def ifB (c : Bool) (x y : Bool) : Bool := @Bool.rec (fun _ => Bool) y x c
theorem ifB_eq (c x y : Bool) : ifB c x y = cond c x y := by cases c <;> rfl

/-! ### Numbers are worked out where they are laid -/
def forceN (n : Nat) (k : Nat → Bool) : Bool := @Nat.rec (fun _ => Bool) (k 0) (fun m _ => k (m + 1)) n
theorem forceN_eq (n : Nat) (k : Nat → Bool) : forceN n k = k n := by cases n <;> rfl
def forceI (n : Int) (k : Int → Bool) : Bool := @Int.rec (fun _ => Bool) (fun n => forceN n fun n => k (.ofNat n)) (fun n => forceN n fun n => k (.negSucc n)) n
theorem forceI_eq (n : Int) (k : Int → Bool) : forceI n k = k n := by
  cases n with
  | ofNat n => exact forceN_eq n fun n => k (.ofNat n)
  | negSucc n => exact forceN_eq n fun n => k (.negSucc n)
def forceV (v : Value) (k : Value → Bool) : Bool :=
  match v with
  | .int kd n => forceI n fun n => k (.int kd n)
  | v => k v
theorem forceV_eq (v : Value) (k : Value → Bool) : forceV v k = k v := by
  unfold forceV
  split
  · exact forceI_eq _ _
  · rfl
def forceS (S : St) (k : St → Bool) : Bool := @St.rec (fun _ => Bool) (fun h n l => forceN n fun n => forceN l fun l => k ⟨h, n, l⟩) S
theorem forceS_eq (S : St) (k : St → Bool) : forceS S k = k S := by
  cases S with
  | mk h n l => exact (forceN_eq n fun n => forceN l fun l => k ⟨h, n, l⟩).trans (forceN_eq l fun l => k ⟨h, n, l⟩)

/-! ### Operands -/
def evTmp (t : Tmp) (_ : Env) (A : Ac) (k : Value → Bool) : Bool := k (A.get t)
def evConst (v : Value) (_ : Env) (_ : Ac) (k : Value → Bool) : Bool := ifB (plainB v) (k v) false
def evGlobal (g : Nat) (E : Env) (_ : Ac) (k : Value → Bool) : Bool := ifB (Nat.blt g E.globs) (k (.pointer (some ⟨g, 0, none⟩))) false
def evFunc (f : Nat) (_ : Env) (_ : Ac) (k : Value → Bool) : Bool := k (.func (.func f) #[] #[])
def evK (x : Operand) : Env → Ac → (Value → Bool) → Bool :=
  @Operand.rec (fun _ => Env → Ac → (Value → Bool) → Bool) evTmp evConst evGlobal evFunc x
theorem evK_eq (x : Operand) (E : Env) (A : Ac) (k : Value → Bool) : evK x E A k = onV (A.eval E x) k := by
  cases x with
  | tmp t => rfl
  | const v =>
    show ifB _ _ _ = _
    simp only [ifB_eq, Ac.eval]
    cases plainB v <;> rfl
  | global g =>
    show ifB _ _ _ = _
    simp only [ifB_eq, Ac.eval]
    cases Nat.blt g E.globs <;> rfl
  | func f => rfl
def putK (dst : Option Tmp) (v : Value) (A : Ac) (k : Ac → Bool) : Bool :=
  @Option.rec Tmp (fun _ => Bool) (k A) (fun d => @Ac.rec (fun _ => Bool) (fun r n ds rd => ifB (Nat.blt d n) (k ⟨r.set d v, n, ds, rd⟩) false) A) dst
theorem putK_eq (dst : Option Tmp) (v : Value) (A : Ac) (k : Ac → Bool) : putK dst v A k = onV (A.put dst v) k := by
  cases dst with
  | none => rfl
  | some d =>
    cases A with
    | mk r n ds rd =>
      show ifB _ _ _ = _
      simp only [ifB_eq, Ac.put]
      cases Nat.blt d n <;> rfl

/-! ### Lists by recursors -/
def lenR {α : Type} (l : List α) : Nat → Nat := @List.rec α (fun _ => Nat → Nat) (fun a => a) (fun _ _ ih a => force (a + 1) ih) l
theorem lenR_eq' {α : Type} : ∀ (l : List α) (a : Nat), lenR l a = a + l.length := by
  intro l
  induction l with
  | nil => intro a; rfl
  | cons x l ih =>
    intro a
    show force (a + 1) (lenR l) = _
    rw [force_eq, ih]; simp; omega
@[simp] theorem lenR_eq {α : Type} (l : List α) : lenR l 0 = l.length := by rw [lenR_eq']; omega
def appR {α : Type} (l r : List α) : List α := @List.rec α (fun _ => List α) r (fun x _ ih => x :: ih) l
@[simp] theorem appR_eq {α : Type} (l r : List α) : appR l r = l ++ r := by
  induction l with
  | nil => rfl
  | cons x l ih => show x :: appR l r = _; rw [ih]; rfl
def takeR {α : Type} (l : List α) : Nat → List α := @List.rec α (fun _ => Nat → List α) (fun _ => []) (fun x _ ih n => @Nat.rec (fun _ => List α) [] (fun m _ => x :: ih m) n) l
@[simp] theorem takeR_eq {α : Type} : ∀ (l : List α) (n : Nat), takeR l n = l.take n := by
  intro l
  induction l with
  | nil => intro n; simp; rfl
  | cons x l ih =>
    intro n
    cases n with
    | zero => rfl
    | succ n => show x :: takeR l n = _; rw [ih]; rfl
def dropR {α : Type} (l : List α) : Nat → List α := @List.rec α (fun _ => Nat → List α) (fun _ => []) (fun x r ih n => @Nat.rec (fun _ => List α) (x :: r) (fun m _ => ih m) n) l
@[simp] theorem dropR_eq {α : Type} : ∀ (l : List α) (n : Nat), dropR l n = l.drop n := by
  intro l
  induction l with
  | nil => intro n; simp; rfl
  | cons x l ih =>
    intro n
    cases n with
    | zero => rfl
    | succ n => show dropR l n = _; rw [ih]; rfl
def atR {α : Type} (l : List α) : Nat → Option α := @List.rec α (fun _ => Nat → Option α) (fun _ => none) (fun x _ ih n => @Nat.rec (fun _ => Option α) (some x) (fun m _ => ih m) n) l
@[simp] theorem atR_eq {α : Type} : ∀ (l : List α) (n : Nat), atR l n = l[n]? := by
  intro l
  induction l with
  | nil => intro n; simp; rfl
  | cons x l ih =>
    intro n
    cases n with
    | zero => rfl
    | succ n => show atR l n = _; rw [ih]; rfl
/-- k cells from o on, and new ones behind them. -/
def copyR (cs : List Value) (o k : Nat) (new : List Value) : List Value := cond (Nat.beq o 0 && Nat.beq k (lenR cs 0)) (appR cs new) (appR (takeR (dropR cs o) k) new)
@[simp] theorem copyR_eq (cs : List Value) (o k : Nat) (new : List Value) : copyR cs o k new = (cs.drop o).take k ++ new := by
  unfold copyR
  cases h : (Nat.beq o 0 && Nat.beq k (lenR cs 0)) with
  | false => simp
  | true =>
    simp only [Bool.and_eq_true] at h
    have h1 := Nat.eq_of_beq_eq_true h.1
    have h2 := Nat.eq_of_beq_eq_true h.2
    subst h1 h2
    simp
def loadX (S : St) (b o n : Nat) : Option (List Value) :=
  match S.heap.get b with
  | some (.cells cs _ _ _) => let l := takeR (dropR cs o) n; cond (Nat.beq (lenR l 0) n) (some l) none
  | _ => none
@[simp] theorem loadX_eq (S : St) (b o n : Nat) : loadX S b o n = S.loadN b o n := by
  unfold loadX St.loadN; simp only [takeR_eq, dropR_eq, lenR_eq]; rfl
def storeX (S : St) (b o : Nat) (vs : List Value) : Option St :=
  match S.heap.get b with
  | some (.cells cs more ro fz) =>
    cond (!ro && Nat.ble (o + lenR vs 0) (lenR cs 0) && vs.all St.one && St.fzOk fz o (lenR vs 0))
      (some (S.upd b (.cells (appR (takeR cs o) (appR vs (dropR cs (o + lenR vs 0)))) more ro fz))) none
  | _ => none
@[simp] theorem storeX_eq (S : St) (b o : Nat) (vs : List Value) : storeX S b o vs = S.storeN b o vs := by
  unfold storeX St.storeN; simp only [takeR_eq, dropR_eq, lenR_eq, appR_eq]; rfl
def loadVX (E : Env) (S : St) (t : TypeId) (v : Value) : Option Value :=
  match v with
  | .pointer (some ⟨b, o, none⟩) =>
    match E.inf t with
    | some i => cond (aggD i.und) ((loadX S b o i.size).map fun l => .agg l.toArray) (match S.heap.get b with | some (.cells cs _ _ _) => atR cs o | _ => none)
    | none => none
  | _ => none
theorem loadVX_eq (E : Env) (S : St) (t : TypeId) (v : Value) : loadVX E S t v = loadV E S t v := by
  unfold loadVX loadV St.load1; simp only [loadX_eq, atR_eq]
  rfl
def storeVX (E : Env) (S : St) (t : TypeId) (a v : Value) : Option St :=
  match a with
  | .pointer (some ⟨b, o, none⟩) =>
    match E.inf t with
    | some i => let cs := cellsOf v; cond (Nat.beq (lenR cs 0) i.size) (storeX S b o cs) none
    | none => none
  | _ => none
theorem storeVX_eq (E : Env) (S : St) (t : TypeId) (a v : Value) : storeVX E S t a v = storeV E S t a v := by
  unfold storeVX storeV; simp only [storeX_eq, lenR_eq]; rfl
def firstX (S : St) (size n : Nat) : Value → Option (List Value)
  | .slice none _ _ => cond (Nat.beq n 0) (some []) none
  | .slice (some ⟨b, o, none⟩) _ _ => cond (Nat.beq (n * size) 0) (some []) (loadX S b o (n * size))
  | .string s => some ((bytesOfS s).take n)
  | _ => none
@[simp] theorem firstX_eq (S : St) (size n : Nat) (v : Value) : firstX S size n v = firstD S size n v := by
  unfold firstX firstD; simp only [loadX_eq]; rfl
def appendX (E : Env) (S : St) (st xt : TypeId) (s x : Value) : Option (Value × St) :=
  match E.und st, s with
  | some (.slice e), .slice base sLen sCap =>
    match E.inf e, E.und xt with
    | some i, some xd =>
      cond (apK xd)
        (i.zero.bind fun z => (lenOfD x).bind fun n => (firstX S i.size n x).bind fun new =>
          cond (Nat.beq (cellsOf z).length i.size && Nat.blt 0 i.size && Nat.beq (lenR new 0) (n * i.size) && Nat.ble ((sLen + n) * i.bytes) 17592186044416 && Nat.ble (sLen + n) 17592186044416)
          (match base with
          | none =>
            cond (Nat.beq n 0) (some (.slice none sLen sCap, S))
              (some (.slice (some ⟨S.next, 0, none⟩) n inex, (S.alloc (.cells new (some i.size) false none)).2))
          | some ⟨b, o, none⟩ =>
            cond (Nat.beq n 0) (some (.slice base sLen sCap, S)) (
            cond (Nat.beq sCap inex)
              (match S.heap.get b with
               | some (.cells cs (some sz) ro fz) =>
                 cond (Nat.beq sz i.size) (
                 cond (Nat.ble (o + (sLen + n) * i.size) (lenR cs 0))
                   -- it fits for sure
                   ((storeX S b (o + sLen * i.size) new).map fun S' => (.slice base (sLen + n) inex, S'))
                   -- in place, or anew: the old block is given up
                   (cond (!ro && Nat.ble (o + sLen * i.size) (lenR cs 0) && new.all St.one && St.fzOk fz (o + sLen * i.size) (n * i.size))
                     (let S1 := S.upd b .dead
                      some (.slice (some ⟨S.next, 0, none⟩) (sLen + n) inex,
                        (S1.alloc (.cells (copyR cs o (sLen * i.size) new) (some i.size) false (fz.map fun p => (p.1 - o, p.2 - o)))).2)) none)) none
               | _ => none)
              (cond (Nat.ble (sLen + n) sCap)
                ((storeX S b (o + sLen * i.size) new).map fun S' => (.slice base (sLen + n) sCap, S'))
                ((loadX S b o (sLen * i.size)).map fun old =>
                   (.slice (some ⟨S.next, 0, none⟩) (sLen + n) inex, (S.alloc (.cells (appR old new) (some i.size) false none)).2))))
          | _ => none) none) none
    | _, _ => none
  | _, _ => none
theorem appendX_eq (E : Env) (S : St) (st xt : TypeId) (s x : Value) : appendX E S st xt s x = appendD E S st xt s x := by
  unfold appendX appendD; simp only [loadX_eq, storeX_eq, firstX_eq, copyR_eq, appR_eq, lenR_eq]; rfl
def builtinX (E : Env) (S : St) (b : Builtin) (ts : Array TypeId) (args : List Value) : Option (Value × St) :=
  match b, args with
  | .append, [s, x] => (ts[0]?).bind fun t => (ts[1]?).bind fun u => appendX E S t u s x
  | b, args => builtinD E S b ts args
theorem builtinX_eq (E : Env) (S : St) (b : Builtin) (ts : Array TypeId) (args : List Value) : builtinX E S b ts args = builtinD E S b ts args := by
  unfold builtinX
  split
  · simp only [appendX_eq]; rfl
  · rfl
def callX (E : Env) (A : Ac) (S : St) (c : Call) : Option DN :=
  (A.evals E c.args.toList).bind fun args =>
  match c.callee with
  | .builtin b => ofP (builtinX E S b c.argTypes args)
  | .value f => (A.eval E f).bind (calleeD S args)
  | .invoke _ _ => none
theorem callX_eq (E : Env) (A : Ac) (S : St) (c : Call) : callX E A S c = callD E A S c := by
  unfold callX callD; simp only [builtinX_eq]; rfl

/-! ### One operation -/
def kV (S : St) (k : DN → Bool) (r : Option Value) : Bool := @Option.rec Value (fun _ => Bool) false (fun v => forceV v fun v => k (.val v S)) r
theorem kV_eq (S : St) (k : DN → Bool) (r : Option Value) : kV S k r = onV (ofV S r) k := by
  cases r with
  | none => rfl
  | some v => exact forceV_eq v fun v => k (.val v S)
def kP (k : DN → Bool) (r : Option (Value × St)) : Bool :=
  @Option.rec (Value × St) (fun _ => Bool) false (fun p => @Prod.rec Value St (fun _ => Bool) (fun v S => forceV v fun v => k (.val v S)) p) r
theorem kP_eq (k : DN → Bool) (r : Option (Value × St)) : kP k r = onV (ofP r) k := by
  cases r with
  | none => rfl
  | some p => obtain ⟨v, S⟩ := p; exact forceV_eq v fun v => k (.val v S)
def kS (k : DN → Bool) (r : Option St) : Bool := @Option.rec St (fun _ => Bool) false (fun S => k (.skip S)) r
theorem kS_eq (k : DN → Bool) (r : Option St) : kS k r = onV (ofS r) k := by cases r <;> rfl
abbrev OpK := Env → Ac → St → (DN → Bool) → Bool
def opMove (x : Operand) : OpK := fun E A S k => evK x E A fun v => k (.val v S)
def opPick (c a b : Operand) : OpK := fun E A S k => evK c E A fun v => kV S k (pickD E A a b v)
def opLoad (t : TypeId) (a : Operand) : OpK := fun E A S k => evK a E A fun v => kV S k (loadVX E S t v)
def opStore (t : TypeId) (a x : Operand) : OpK := fun E A S k => evK a E A fun p => evK x E A fun v => kS k (storeVX E S t p v)
def opNil (x : Operand) : OpK := fun E A S k => evK x E A fun v => kV S k (nilD v)
def opBin (op : BinOp) (t : TypeId) (x y : Operand) (_ : TypeId) : OpK := fun E A S k => evK x E A fun a => evK y E A fun b => kV S k (binD E S op t x y a b)
def opUn (op : UnOp) (_ : TypeId) (x : Operand) : OpK := fun E A S k => evK x E A fun v => kV S k (unD op v)
def opConv (s d : TypeId) (x : Operand) : OpK := fun E A S k => evK x E A fun v => kP k (convertD E S s d v)
def opFieldAddr (t : TypeId) (x : Operand) (f : Nat) : OpK := fun E A S k => evK x E A fun v => kV S k (fieldAddrD E t v f)
def opField (t : TypeId) (x : Operand) (f : Nat) : OpK := fun E A S k => evK x E A fun v => kV S k (fieldD E t v f)
def opIndexAddr (t : TypeId) (x i : Operand) : OpK := fun E A S k => evK x E A fun v => evK i E A fun j => kV S k (indexAddrD E t v j)
def opIndex (t : TypeId) (x i : Operand) : OpK := fun E A S k => evK x E A fun v => evK i E A fun j => kV S k (indexD E t v j)
def opExtract (x : Operand) (i : Nat) : OpK := fun E A S k => evK x E A fun v => kV S k (extractD i v)
def opIface (t : TypeId) (x : Operand) : OpK := fun E A S k => evK x E A fun v => kV S k (ifaceD E t v)
def opRest (o : Op) : OpK := fun E A S k => onV (opD E A S o) k
def opNo : OpK := fun _ _ _ _ => false
def opCall (c : Call) : OpK := fun E A S k => onV (callX E A S c) k
def opK (o : Op) : OpK :=
  @Op.rec (fun _ => OpK) (move := opMove) (assign := opMove) (pick := opPick) (alloc := fun e => opRest (.alloc e)) (box := fun e x => opRest (.box e x)) (build := fun t p => opRest (.build t p))
    (buildSlice := fun t n p => opRest (.buildSlice t n p)) (insert := fun t m k v => opRest (.insert t m k v)) (load := opLoad) (store := opStore) (ready := fun _ => opNo) (waits := fun _ => opNo) (nilCheck := opNil)
    (binOp := opBin) (unOp := opUn) (convert := opConv) (sliceToArrayPointer := fun _ _ => opNo) (makeInterface := opIface) (makeFunc := fun f a b => opRest (.makeFunc f a b)) (makeMap := fun t r => opRest (.makeMap t r))
    (makeChan := fun _ _ => opNo) (makeSlice := fun t l c => opRest (.makeSlice t l c)) (slice := fun t x l h m => opRest (.slice t x l h m)) (fieldAddr := opFieldAddr) (field := opField) (indexAddr := opIndexAddr) (index := opIndex)
    (lookup := fun t x i c => opRest (.lookup t x i c)) (mapUpdate := fun t m k v => opRest (.mapUpdate t m k v)) (mapEntry := fun t m k => opRest (.mapEntry t m k)) (entryStore := fun t m s v => opRest (.entryStore t m s v))
    (range := fun _ _ => opNo) (next := fun _ _ => opNo) (entry := fun _ => opNo) (typeAssert := fun _ _ _ _ => opNo) (extract := opExtract) (call := opCall) (go := fun _ => opNo) (defer := fun _ => opNo) (panic := fun _ => opNo)
    (send := fun _ _ => opNo) (recv := fun _ _ _ => opNo) (select := fun _ _ => opNo) o
theorem opK_eq (o : Op) (E : Env) (A : Ac) (S : St) (k : DN → Bool) : opK o E A S k = onV (opD E A S o) k := by
  have mv : ∀ x, opMove x E A S k = onV (ofV S (A.eval E x)) k := fun x => by
    show evK x E A _ = _
    rw [evK_eq]; cases A.eval E x <;> rfl
  cases o <;> first
    | rfl
    | exact mv _
    | (show onV (callX E A S _) k = onV (callD E A S _) k; rw [callX_eq])
    | (simp only [opK, opPick, opLoad, opStore, opNil, opBin, opUn, opConv, opFieldAddr, opField, opIndexAddr, opIndex, opExtract, opIface, loadVX_eq, storeVX_eq, evK_eq, kV_eq, kP_eq, kS_eq, opD, onV_bind])

/-! ### Calls -/
/-- The runner of one level below, in continuation style. -/
abbrev RunK := Code → Ac → St → (Exit → Ac → St → Bool) → Bool
def onE (r : Option (Exit × Ac × St)) (k : Exit → Ac → St → Bool) : Bool := onV r fun p => k p.1 p.2.1 p.2.2
def onP (r : Option (Value × St)) (k : Value → St → Bool) : Bool := onV r fun p => k p.1 p.2
def onA (r : Option (Ac × St)) (k : Ac → St → Bool) : Bool := onV r fun p => k p.1 p.2
/-- By the way out: done, back, else. -/
def endK (e : Exit) (n r o : Bool) : Bool := @Exit.rec (fun _ => Bool) n (fun _ => o) (fun _ => o) r (fun _ => o) o e
def leaveK (E : Env) (fn : Func) (A : Ac) (S : St) (k : Value → St → Bool) : Bool :=
  onV (shutD A.defers S) fun S2 => onV (resultsD E S2 A fn.results.toList) fun vs => k (tupleD vs) S2
def bodyK (E : Env) (run : RunK) (fn : Func) (c : Code) (args : List Value) (S : St) (k : Value → St → Bool) : Bool :=
  run c { regs := PM.ofList args 0 .leaf, n := args.length + (fn.ntmps - args.length), defers := [], rd := none } S fun e A S' => endK e (leaveK E fn A S' k) (leaveK E fn A S' k) false
def callK (E : Env) (run : RunK) (f : Nat) (args : List Value) (S : St) (k : Value → St → Bool) : Bool :=
  @Option.rec _ (fun _ => Bool)
    (onV (E.fn f) fun fn => onV fn.body fun c => bodyK E run fn c args S k)
    (fun p => onP (p args S) k) (E.prim f)
def roundBodyK (run : RunK) (l : Nat) (body : Code) (A : Ac) (S : St) (k : Value → St → Bool) : Bool :=
  match S.heap.get l with
  | some (.loop r) => ifB (isReady r.state) (run body A (S.upd l (.loop { r with state := .busy })) fun e _ S2 => onP (endRoundD l e S2) k) false
  | _ => false
def roundK (run : RunK) (l : Nat) (args : List Value) (S : St) (k : Value → St → Bool) : Bool :=
  match S.heap.get l with
  | some (.loop r) =>
    onV (putAll r.params.toList args { regs := r.regs, n := r.n, defers := [], rd := some l }) fun A =>
      run r.assign A S fun e A1 S1 => endK e (roundBodyK run l r.body A1 S1 k) false false
  | _ => false

section
variable {E : Env} {rk : RunK} {run : Runner} (hr : ∀ c A S k, rk c A S k = onE (run c A S) k)
include hr
theorem bodyK_eq (fn : Func) (c : Code) (args : List Value) (S : St) (k : Value → St → Bool) : bodyK E rk fn c args S k = onP (bodyF E run fn c args S) k := by
  unfold bodyK bodyF
  rw [hr]
  have lv : ∀ A S', leaveK E fn A S' k = onP (leaveD E fn A S') k := fun A S' => by
    unfold leaveK leaveD onP
    rw [onV_bind]; congr 1; funext S2; rw [onV_map]
  generalize run c _ S = r
  cases r with
  | none => rfl
  | some p =>
    obtain ⟨e, A, S'⟩ := p
    cases e <;> first | exact lv A S' | rfl
theorem callK_eq' (f : Nat) (args : List Value) (S : St) (k : Value → St → Bool) : callK E rk f args S k = onP (callF E run f args S) k := by
  unfold callK callF
  cases E.prim f with
  | some p => rfl
  | none =>
    show onV _ _ = _
    cases E.fn f with
    | none => rfl
    | some fn =>
      show onV fn.body _ = onP (match fn.body with | some c => _ | none => none) k
      cases fn.body with
      | none => rfl
      | some c => exact bodyK_eq hr fn c args S k
theorem roundBodyK_eq (l : Nat) (body : Code) (A : Ac) (S : St) (k : Value → St → Bool) : roundBodyK rk l body A S k = onP (roundBody run l body A S) k := by
  unfold roundBodyK roundBody
  cases S.heap.get l with
  | none => rfl
  | some o =>
    cases o <;> first | rfl | skip
    rename_i r
    show ifB _ _ _ = onP (cond _ _ none) k
    rw [ifB_eq]
    unfold onP
    rw [onV_cond, hr]
    congr 1
    generalize run body A _ = q
    cases q with
    | none => rfl
    | some p => rfl
theorem roundK_eq (l : Nat) (args : List Value) (S : St) (k : Value → St → Bool) : roundK rk l args S k = onP (roundF run l args S) k := by
  unfold roundK roundF
  cases S.heap.get l with
  | none => rfl
  | some o =>
    cases o <;> first | rfl | skip
    rename_i r
    show onV _ _ = onP (Option.bind _ _) k
    unfold onP
    rw [onV_bind]
    congr 1; funext A
    rw [hr]
    generalize run r.assign A S = q
    cases q with
    | none => rfl
    | some p =>
      obtain ⟨e, A1, S1⟩ := p
      cases e <;> first | exact roundBodyK_eq hr l r.body A1 S1 k | rfl
end

/-! ### Regions -/
def contK (E : Env) (run : RunK) (dst : Option Tmp) (A : Ac) (k : Ac → St → Bool) (d : DN) : Bool :=
  @DN.rec (fun _ => Bool) (fun v S => putK dst v A fun A' => forceS S fun S => k A' S) (fun S => putK dst undef A fun A' => forceS S fun S => k A' S)
    (fun f args S => callK E run f args S fun v S' => putK dst v A fun A' => forceS S' fun S' => k A' S')
    (fun l args S => roundK run l args S fun v S' => putK dst v A fun A' => forceS S' fun S' => k A' S') d
/-- The place of an operation's guard. -/
def gOf (ops : Array Oper) (o : Oper) : Option (Option Tmp × Bool) :=
  match o.guard with
  | none => none
  | some (j, want) => some ((ops[j]?).bind (·.dst), want)
def wantV (v : Value) (want : Bool) : Bool := match v with | .bool b => b == want | _ => false
def wantedK (A : Ac) (g : Option (Option Tmp × Bool)) : Bool :=
  @Option.rec _ (fun _ => Bool) true (fun p => @Prod.rec _ _ (fun _ => Bool) (fun t want => @Option.rec _ (fun _ => Bool) false (fun t => ifB (Nat.blt t A.n) (wantV (A.get t) want) false) t) p) g
theorem wantedK_eq (ops : Array Oper) (A : Ac) (o : Oper) : wantedK A (gOf ops o) = wantedD ops A o := by
  unfold gOf wantedD
  cases o.guard with
  | none => rfl
  | some p =>
    obtain ⟨j, want⟩ := p
    simp only
    cases (ops[j]?).bind (·.dst) with
    | none => rfl
    | some t =>
      show ifB _ _ _ = _
      rw [ifB_eq]; rfl
def oneK (E : Env) (run : RunK) (p : Oper × Option (Option Tmp × Bool)) (A : Ac) (S : St) (k : Ac → St → Bool) : Bool :=
  @Prod.rec _ _ (fun _ => Bool) (fun o g => @Oper.rec (fun _ => Bool) (fun dst op _ _ _ _ => ifB (wantedK A g) (opK op E A S (contK E run dst A k)) (putK dst undef A fun A' => k A' S)) o) p
def opsK (E : Env) (run : RunK) (l : List (Oper × Option (Option Tmp × Bool))) : Ac → St → (Ac → St → Bool) → Bool :=
  @List.rec _ (fun _ => Ac → St → (Ac → St → Bool) → Bool) (fun A S k => k A S) (fun p _ ih A S k => oneK E run p A S fun A' S' => ih A' S' k) l
def prepK (ops : Array Oper) : List (Oper × Option (Option Tmp × Bool)) := ops.toList.map fun o => (o, gOf ops o)

/-- An operation of a region whose order is drawn. -/
def coreK (E : Env) (run : RunK) (k : Value → St → Bool) (d : DN) : Bool :=
  @DN.rec (fun _ => Bool) (fun v S => k v S) (fun S => k undef S) (fun f args S => callK E run f args S k) (fun l args S => roundK run l args S k) d
def coreMK (E : Env) (run : RunK) (lim : Nat) (m : Md) (op : Op) (A : Ac) (S : St) (k : Value → St → Bool) : Bool :=
  @Md.rec (fun _ => Bool) (opK op E A S (coreK E run k)) (ifB (lowOps E A lim op) (opK op E A S (coreK E run k)) false)
    (opK op E A { S with low := lim } (coreK E run fun v S2 => ifB (Nat.ble lim S2.low) (k v { S2 with low := Nat.min S.low lim }) false)) m
def goOne (E : Env) (run : RunK) (lim : Nat) (p : (Oper × Md) × Option (Option Tmp × Bool)) (A : Ac) (S : St) (k : Ac → St → Bool) : Bool :=
  @Oper.rec (fun _ => Bool) (fun dst op _ _ _ _ =>
    ifB (wantedK A p.2) (coreMK E run lim p.1.2 op A S fun v S' => putK dst v A fun A' => forceS S' fun S' => k A' S') (putK dst undef A fun A' => k A' S)) p.1.1
def goK (E : Env) (run : RunK) (lim : Nat) (l : List ((Oper × Md) × Option (Option Tmp × Bool))) : Ac → St → (Ac → St → Bool) → Bool :=
  @List.rec _ (fun _ => Ac → St → (Ac → St → Bool) → Bool) (fun A S k => k A S) (fun p _ ih A S k => goOne E run lim p A S fun A' S' => ih A' S' k) l
def prepM (E : Env) (ops : Array Oper) : Option (List ((Oper × Md) × Option (Option Tmp × Bool))) := (planD E ops).map fun l => l.map fun p => (p, gOf ops p.1)
def drawK (E : Env) (run : RunK) (ops : Array Oper) (A : Ac) (S : St) (k : Ac → St → Bool) : Bool :=
  onV (prepM E ops) fun l => forceN S.next fun lim => goK E run lim l A S k

section
variable {E : Env} {rk : RunK} {run : Runner} (hr : ∀ c A S k, rk c A S k = onE (run c A S) k)
include hr
theorem contK_eq (dst : Option Tmp) (A : Ac) (k : Ac → St → Bool) (d : DN) : contK E rk dst A k d = onA (contD E run dst A d) k := by
  cases d with
  | val v S => show putK dst v A (fun A' => forceS S fun S => k A' S) = _; simp only [putK_eq, forceS_eq, contD, onA, onV_map]
  | skip S => show putK dst undef A (fun A' => forceS S fun S => k A' S) = _; simp only [putK_eq, forceS_eq, contD, onA, onV_map]
  | enter f args S => show callK _ _ _ _ _ _ = _; simp only [callK_eq' hr, putK_eq, forceS_eq, contD, onA, onP, onV_bind, onV_map]
  | yield l args S => show roundK _ _ _ _ _ = _; simp only [roundK_eq hr, putK_eq, forceS_eq, contD, onA, onP, onV_bind, onV_map]
theorem oneK_eq (ops : Array Oper) (o : Oper) (A : Ac) (S : St) (k : Ac → St → Bool) : oneK E rk (o, gOf ops o) A S k = onA (oneD E run ops o A S) k := by
  cases o with
  | mk dst op ty pos after guard =>
    show ifB (wantedK A (gOf ops _)) _ _ = _
    rw [wantedK_eq, ifB_eq]
    unfold oneD
    cases wantedD ops A _ with
    | true => simp only [cond_true, opK_eq, onA, onV_bind]; congr 1; funext d; exact contK_eq hr dst A k d
    | false => simp only [cond_false, putK_eq, onA, onV_map]
theorem opsK_eq (ops : Array Oper) : ∀ (l : List Oper) (A : Ac) (S : St) (k : Ac → St → Bool), opsK E rk (l.map fun o => (o, gOf ops o)) A S k = onA (opsD E run ops l A S) k := by
  intro l
  induction l with
  | nil => intro A S k; rfl
  | cons o l ih =>
    intro A S k
    show oneK E rk (o, gOf ops o) A S (fun A' S' => opsK E rk (l.map fun o => (o, gOf ops o)) A' S' k) = _
    rw [oneK_eq hr]
    simp only [opsD]
    cases oneD E run ops o A S with
    | none => rfl
    | some p => exact ih p.1 p.2 k
theorem coreK_eq (k : Value → St → Bool) (d : DN) : coreK E rk k d = onP (coreC E run d) k := by
  cases d with
  | val v S => rfl
  | skip S => rfl
  | enter f args S => exact callK_eq' hr f args S k
  | yield l args S => exact roundK_eq hr l args S k
theorem coreMK_eq (ops : Array Oper) (lim : Nat) (o : Oper) (m : Md) (A : Ac) (S : St) (k : Value → St → Bool) (hw : wantedD ops A o = true) : coreMK E rk lim m o.op A S k = onP (coreM E run ops lim (o, m) A S) k := by
  unfold coreM
  rw [hw]
  simp only [cond_true]
  have core : ∀ (S1 : St) (k : Value → St → Bool), opK o.op E A S1 (coreK E rk k) = onP ((opD E A S1 o.op).bind (coreC E run)) k := fun S1 k => by
    rw [opK_eq]; unfold onP; rw [onV_bind]; congr 1; funext d; exact coreK_eq hr k d
  cases m with
  | free => exact core S k
  | low =>
    show ifB _ _ _ = _
    rw [ifB_eq, core]; unfold onP; rw [onV_cond]
  | quiet =>
    show opK o.op E A { S with low := lim } (coreK E rk fun v S2 => ifB (Nat.ble lim S2.low) (k v { S2 with low := Nat.min S.low lim }) false) = _
    rw [core]
    dsimp only
    generalize (opD E A { S with low := lim } o.op).bind (coreC E run) = q
    cases q with
    | none => rfl
    | some q =>
      show ifB (Nat.ble lim q.2.low) _ false = onP (cond (Nat.ble lim q.2.low) _ none) k
      rw [ifB_eq]
      cases Nat.ble lim q.2.low <;> rfl
theorem goK_eq (ops : Array Oper) (lim : Nat) : ∀ (l : List (Oper × Md)) (A : Ac) (S : St) (k : Ac → St → Bool), goK E rk lim (l.map fun p => (p, gOf ops p.1)) A S k = onA (goD E run ops lim l A S) k := by
  intro l
  induction l with
  | nil => intro A S k; rfl
  | cons p l ih =>
    intro A S k
    obtain ⟨o, m⟩ := p
    show goOne E rk lim ((o, m), gOf ops o) A S (fun A' S' => goK E rk lim (l.map fun p => (p, gOf ops p.1)) A' S' k) = _
    have split : goOne E rk lim ((o, m), gOf ops o) A S (fun A' S' => goK E rk lim (l.map fun p => (p, gOf ops p.1)) A' S' k) =
        onP (coreM E run ops lim (o, m) A S) fun v S' => onV (A.put o.dst v) fun A' => goK E rk lim (l.map fun p => (p, gOf ops p.1)) A' S' k := by
      cases hw : wantedD ops A o with
      | true =>
        rw [← coreMK_eq hr ops lim o m A S _ hw]
        cases o with
        | mk dst op ty pos after guard =>
          show ifB (wantedK A (gOf ops _)) _ _ = _
          rw [wantedK_eq, hw, ifB_eq]
          simp only [cond_true, putK_eq, forceS_eq]
      | false =>
        unfold coreM
        rw [hw]
        cases o with
        | mk dst op ty pos after guard =>
          show ifB (wantedK A (gOf ops _)) _ _ = _
          rw [wantedK_eq, hw, ifB_eq]
          simp only [cond_false, putK_eq]
          rfl
    refine split.trans ?_
    simp only [goD]
    cases coreM E run ops lim (o, m) A S with
    | none => rfl
    | some q =>
      obtain ⟨v, S'⟩ := q
      show onV (A.put o.dst v) (fun A' => goK E rk lim (l.map fun p => (p, gOf ops p.1)) A' S' k) = onA (match A.put o.dst v with | some A' => goD E run ops lim l A' S' | none => none) k
      cases A.put o.dst v with
      | none => rfl
      | some A' => exact ih A' S' k
theorem drawK_eq (ops : Array Oper) (A : Ac) (S : St) (k : Ac → St → Bool) : drawK E rk ops A S k = onA (drawD E run ops A S) k := by
  unfold drawK drawD prepM
  cases planD E ops with
  | none => rfl
  | some l =>
    show forceN S.next (fun lim => goK E rk lim (l.map fun p => (p, gOf ops p.1)) A S k) = _
    rw [forceN_eq]
    exact goK_eq hr ops S.next l A S k
end

/-! ### Code -/
def loopK (run : RunK) (c : Code) (n : Nat) : Ac → St → (Exit → Ac → St → Bool) → Bool :=
  @Nat.rec (fun _ => Ac → St → (Exit → Ac → St → Bool) → Bool) (fun _ _ _ => false)
    (fun _ ih A S k => run c A S fun e A' S' => endK e (ih A' S' k) (k e A' S') (k e A' S')) n
theorem loopK_eq {rk : RunK} {run : Runner} (hr : ∀ c A S k, rk c A S k = onE (run c A S) k) (c : Code) : ∀ (n : Nat) (A : Ac) (S : St) (k : Exit → Ac → St → Bool), loopK rk c n A S k = onE (loopD run c n A S) k := by
  intro n
  induction n with
  | zero => intro A S k; rfl
  | succ n ih =>
    intro A S k
    show rk c A S _ = _
    rw [hr]
    simp only [loopD]
    generalize run c A S = q
    cases q with
    | none => rfl
    | some p =>
      obtain ⟨e, A', S'⟩ := p
      cases e <;> first | exact ih A' S' k | rfl
def rangeGoK (E : Env) (run : RunK) (g : Value) (l : Nat) (A : Ac) (S : St) (k : Exit → Ac → St → Bool) : Bool :=
  match g with
  | .func (.func f) first captured =>
    match E.prim f with
    | some _ => false
    | none => callK E run f (first.toList ++ [.func (.yield l) #[] #[]] ++ captured.toList) S fun _ S' => onE (endLoopD l A S') k
  | _ => false
def rangeK (E : Env) (run : RunK) (f : Operand) (params : Array Tmp) (assign body : Code) (A : Ac) (S : St) (k : Exit → Ac → St → Bool) : Bool :=
  evK f E A fun g =>
  match A.rd with
  | none =>
    let S1 := (S.alloc .deferred).2
    let S2 := (S1.alloc (.loop { state := .ready, pending := none, regs := A.regs, n := A.n, params, assign, body, dfr := S.next })).2
    rangeGoK E run g S1.next { A with defers := S.next :: A.defers } S2 k
  | some l =>
    match S.heap.get l with
    | some (.loop r) =>
      rangeGoK E run g S.next A (S.alloc (.loop { state := .ready, pending := none, regs := A.regs, n := A.n, params, assign, body, dfr := r.dfr })).2 k
    | _ => false
theorem rangeGoK_eq {E : Env} {rk : RunK} {run : Runner} (hr : ∀ c A S k, rk c A S k = onE (run c A S) k) (g : Value) (l : Nat) (A : Ac) (S : St) (k : Exit → Ac → St → Bool) : rangeGoK E rk g l A S k = onE (rangeGo E run g l A S) k := by
  unfold rangeGoK rangeGo
  cases g <;> first | rfl | skip
  rename_i fn fs cs
  cases fn <;> first | rfl | skip
  rename_i f
  dsimp only
  cases E.prim f with
  | some p => rfl
  | none =>
    dsimp only
    rw [callK_eq' hr]; unfold onP onE; rw [onV_bind]
theorem rangeK_eq {E : Env} {rk : RunK} {run : Runner} (hr : ∀ c A S k, rk c A S k = onE (run c A S) k) (f : Operand) (ps : Array Tmp) (a b : Code) (A : Ac) (S : St) (k : Exit → Ac → St → Bool) : rangeK E rk f ps a b A S k = onE (rangeF E run f ps a b A S) k := by
  unfold rangeK rangeF
  rw [evK_eq]
  unfold onE
  rw [onV_bind]
  congr 1; funext g
  cases A.rd with
  | none => exact rangeGoK_eq hr _ _ _ _ _
  | some l =>
    dsimp only
    cases S.heap.get l with
    | none => rfl
    | some o => cases o <;> first | rfl | exact rangeGoK_eq hr _ _ _ _ _
abbrev StepK := Env → Nat → RunK → Ac → St → (Exit → Ac → St → Bool) → Bool
def skSkip : StepK := fun _ _ _ A S k => k .normal A S
def skRegion (_ : Nat) (ops : Array Oper) (dr : Bool) : StepK := fun E _ run A S k => ifB dr (drawK E run ops A S (k .normal)) (opsK E run (prepK ops) A S (k .normal))
def skSeq (a b : Code) : StepK := fun _ _ run A S k => run a A S fun e A' S' => endK e (run b A' S' k) (k e A' S') (k e A' S')
def boolK (v : Value) (x y : Bool) : Bool := match v with | .bool t => ifB t x y | _ => false
def skCond (c : Operand) (a b : Code) : StepK := fun E _ run A S k => evK c E A fun v => boolK v (run a A S k) (run b A S k)
def blockE (id : Nat) (e : Exit) (x y : Bool) : Bool := @Exit.rec (fun _ => Bool) y (fun i => ifB (Nat.beq i id) x y) (fun _ => y) y (fun _ => y) y e
def skBlock (id : Nat) (b : Code) : StepK := fun _ _ run A S k => run b A S fun e A' S' => blockE id e (k .normal A' S') (k e A' S')
def skLoop (b : Code) : StepK := fun _ n run A S k => loopK run b n A S k
def skRange (f : Operand) (ps : Array Tmp) (a b : Code) : StepK := fun E _ run A S k => rangeK E run f ps a b A S k
def skExit (id : Nat) : StepK := fun _ _ _ A S k => k (.exit id) A S
def scopeE (e : Exit) (y : Bool) : Bool := @Exit.rec (fun _ => Bool) y (fun _ => y) (fun _ => false) y (fun _ => y) y e
def skScope (b : Code) : StepK := fun _ _ run A S k => run b A S fun e A' S' => scopeE e (k e A' S')
def skRet : StepK := fun _ _ _ A S k => k .ret A S
def skNo : StepK := fun _ _ _ _ _ _ => false
def stepK (c : Code) : StepK :=
  @Code.rec (fun _ => StepK) (skip := skSkip) (region := skRegion) (seq := fun a b _ _ => skSeq a b) (cond := fun c a b _ _ => skCond c a b) (block := fun id b _ => skBlock id b) (loop := fun b _ => skLoop b)
    (rangeFunc := fun f ps a b _ _ => skRange f ps a b) (exit := skExit) (scope := fun b _ => skScope b) (label := fun _ => skSkip) (goto := fun _ => skNo) (ret := skRet) (refuse := fun _ => skNo) c
def execK (E : Env) (n : Nat) : RunK :=
  @Nat.rec (fun _ => RunK) (fun _ _ _ _ => false) (fun n ih c A S k => stepK c E n ih A S k) n

theorem execK_eq (E : Env) : ∀ (n : Nat) (c : Code) (A : Ac) (S : St) (k : Exit → Ac → St → Bool), execK E n c A S k = onE (exec E drawD n c A S) k := by
  intro n
  induction n with
  | zero => intro c A S k; rfl
  | succ n ih =>
    intro c A S k
    show stepK c E n (execK E n) A S k = onE (stepD E drawD n (exec E drawD n) c A S) k
    cases c with
    | skip => rfl
    | label _ => rfl
    | exit _ => rfl
    | ret => rfl
    | goto _ => rfl
    | refuse _ => rfl
    | region id ops dr =>
      show ifB dr _ _ = _
      cases dr with
      | true =>
        show drawK E _ ops A S _ = _
        rw [drawK_eq ih]; unfold onA onE; simp only [stepD]; rw [onV_map]
      | false =>
        show opsK E _ (prepK ops) A S _ = _
        unfold prepK
        rw [opsK_eq ih]; unfold onA onE; simp only [stepD]; rw [onV_map]
    | seq a b =>
      show execK E n a A S _ = _
      rw [ih]
      simp only [stepD]
      generalize exec E drawD n a A S = q
      cases q with
      | none => rfl
      | some p =>
        obtain ⟨e, A', S'⟩ := p
        cases e <;> first | exact ih b A' S' k | rfl
    | cond c a b =>
      show evK c E A _ = _
      rw [evK_eq]
      simp only [stepD]
      unfold onE
      rw [onV_bind]
      congr 1; funext v
      cases v <;> first | rfl | skip
      rename_i t
      show ifB t _ _ = _
      cases t <;> exact ih _ A S k
    | block id b =>
      show execK E n b A S _ = _
      rw [ih]
      simp only [stepD]
      generalize exec E drawD n b A S = q
      cases q with
      | none => rfl
      | some p =>
        obtain ⟨e, A', S'⟩ := p
        cases e <;> first | rfl | skip
        rename_i i
        show ifB (Nat.beq i id) _ _ = onE (some (cond (Nat.beq i id) .normal (.exit i), A', S')) k
        cases Nat.beq i id <;> rfl
    | loop b => exact loopK_eq ih b n A S k
    | rangeFunc f ps a b => exact rangeK_eq ih f ps a b A S k
    | scope b =>
      show execK E n b A S _ = _
      rw [ih]
      simp only [stepD]
      generalize exec E drawD n b A S = q
      cases q with
      | none => rfl
      | some p =>
        obtain ⟨e, A', S'⟩ := p
        cases e <;> rfl

def isTrue (v : Value) (_ : St) : Bool := match v with | .bool b => b | _ => false
/-- A law: does it answer true? -/
def trueK (E : Env) (n f : Nat) (args : List Value) (S : St) : Bool := callK E (execK E n) f args S isTrue
theorem trueK_eq {E : Env} {n f : Nat} {args : List Value} {S : St} (h : trueK E n f args S = true) : okTrue (callF E (exec E drawD n) f args S) = true := by
  unfold trueK at h
  rw [callK_eq' (execK_eq E n)] at h
  revert h
  generalize callF E (exec E drawD n) f args S = r
  intro h
  cases r with
  | none => exact h
  | some p =>
    obtain ⟨v, S'⟩ := p
    cases v <;> first | exact h | cases h
end
end Go.Proofs.Ytcookjolkhcjhaa.D
