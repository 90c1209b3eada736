/-
  D, part 2: the interpreter: a deterministic, checked big-step run of the model's code over the abstract heap.
  Where the model draws an order or a capacity, the run goes on only if the answer does not matter; else it is 'none'.
-/
import Derived.Test.YtcookjolkhcjhaaD1
namespace Go.Proofs.Ytcookjolkhcjhaa.D
noncomputable section

structure DInfo where
  und : TypeDesc
  size : Nat
  bytes : Nat
  zero : Option Value
  comparable : Bool
  /-- 'eqGuardType' -/
  eqg : Bool
  /-- a struct without blank fields, not stood in for -/
  noBlank : Bool

structure Env where
  inf : Nat → Option DInfo
  fn : Nat → Option Func
  prim : Nat → Option (List Value → St → Option (Value × St))
  globs : Nat

/-- An activation: its temporaries (n of them), the marks of its loops over functions, the loop whose round it is. -/
structure Ac where
  regs : PM Value
  n : Nat
  defers : List Nat
  rd : Option Nat

namespace Ac
def get (A : Ac) (t : Nat) : Value := (A.regs.get t).getD undef
def put (A : Ac) (dst : Option Tmp) (v : Value) : Option Ac :=
  match dst with
  | none => some A
  | some d => cond (Nat.blt d A.n) (some { A with regs := A.regs.set d v }) none
def eval (E : Env) (A : Ac) : Operand → Option Value
  | .tmp t => some (A.get t)
  | .const v => cond (plainB v) (some v) none
  | .global g => cond (Nat.blt g E.globs) (some (.pointer (some ⟨g, 0, none⟩))) none
  | .func f => some (.func (.func f) #[] #[])
def evals (E : Env) (A : Ac) : List Operand → Option (List Value)
  | [] => some []
  | x :: r => (A.eval E x).bind fun v => (evals E A r).map (v :: ·)
end Ac

section
variable (E : Env)
def Env.und (t : TypeId) : Option TypeDesc := (E.inf t).map (·.und)
def Env.size (t : TypeId) : Option Nat := (E.inf t).map (·.size)
def Env.bytes (t : TypeId) : Option Nat := (E.inf t).map (·.bytes)
def Env.zero (t : TypeId) : Option Value := (E.inf t).bind (·.zero)
end

def aggD : TypeDesc → Bool
  | .struct _ | .array _ _ => true
  | _ => false

/-! ### Memory -/
namespace St
def alloc (S : St) (o : DObj) : Nat × St := (S.next, { S with heap := S.heap.set S.next o, next := S.next + 1 })
/-- n cells from o on. -/
def loadN (S : St) (b o n : Nat) : Option (List Value) :=
  match S.heap.get b with
  | some (.cells cs _ _ _) => let l := (cs.drop o).take n; cond (Nat.beq l.length n) (some l) none
  | _ => none
def load1 (S : St) (b o : Nat) : Option Value :=
  match S.heap.get b with
  | some (.cells cs _ _ _) => cs[o]?
  | _ => none
def upd (S : St) (b : Nat) (o : DObj) : St := { S with heap := S.heap.set b o, low := cond (Nat.blt b S.low) b S.low }
def one : Value → Bool
  | .agg _ | .tuple _ => false
  | _ => true
def fzOk : Option (Nat × Nat) → Nat → Nat → Bool
  | none, _, _ => true
  | some (lo, hi), o, n => Nat.ble (o + n) lo || Nat.ble hi o
def storeN (S : St) (b o : Nat) (vs : List Value) : Option St :=
  match S.heap.get b with
  | some (.cells cs more ro fz) =>
    cond (!ro && Nat.ble (o + vs.length) cs.length && vs.all one && fzOk fz o vs.length)
      (some (S.upd b (.cells (cs.take o ++ (vs ++ cs.drop (o + vs.length))) more ro fz))) none
  | _ => none
end St

def cellsOf : Value → List Value
  | .agg cs => cs.toList
  | v => [v]

def loadV (E : Env) (S : St) (t : TypeId) : Value → Option Value
  | .pointer (some ⟨b, o, none⟩) =>
    match E.inf t with
    | some i => cond (aggD i.und) ((S.loadN b o i.size).map fun l => .agg l.toArray) (S.load1 b o)
    | none => none
  | _ => none
def storeV (E : Env) (S : St) (t : TypeId) (a v : Value) : Option St :=
  match a with
  | .pointer (some ⟨b, o, none⟩) =>
    match E.inf t with
    | some i => let cs := cellsOf v; cond (Nat.beq cs.length i.size) (S.storeN b o cs) none
    | none => none
  | _ => none
/-- A part of a struct's or an array's cells. -/
def partD (i : DInfo) (cs : List Value) (off : Nat) : Option Value :=
  cond (aggD i.und) (let l := (cs.drop off).take i.size; cond (Nat.beq l.length i.size) (some (.agg l.toArray)) none) cs[off]?

/-! ### Numbers -/
def inRange : IntKind → Int → Bool
  | .i8, n => decide (-128 ≤ n) && decide (n < 128)
  | .i16, n => decide (-32768 ≤ n) && decide (n < 32768)
  | .i32, n => decide (-2147483648 ≤ n) && decide (n < 2147483648)
  | .i64, n => decide (-9223372036854775808 ≤ n) && decide (n < 9223372036854775808)
  | .u8, n => decide (0 ≤ n) && decide (n < 256)
  | .u16, n => decide (0 ≤ n) && decide (n < 65536)
  | .u32, n => decide (0 ≤ n) && decide (n < 4294967296)
  | .u64, n => decide (0 ≤ n) && decide (n < 18446744073709551616)
def wrapD (k : IntKind) (n : Int) : Int := cond (inRange k n) n (k.wrap n)
def kindEq : IntKind → IntKind → Bool
  | .i8, .i8 | .i16, .i16 | .i32, .i32 | .i64, .i64 | .u8, .u8 | .u16, .u16 | .u32, .u32 | .u64, .u64 => true
  | _, _ => false
/-- Two numbers of one kind. -/
def intD (op : BinOp) (k : IntKind) (a b : Int) : Option Value :=
  match op with
  | .add => some (.int k (wrapD k (a + b)))
  | .sub => some (.int k (wrapD k (a - b)))
  | .mul => some (.int k (wrapD k (a * b)))
  | .quo => cond (decide (b = 0)) none (some (.int k (wrapD k (a.tdiv b))))
  | .rem => cond (decide (b = 0)) none (some (.int k (a.tmod b)))
  | .and => some (.int k (k.wrap (BitVec.ofInt k.bits a &&& BitVec.ofInt k.bits b).toNat))
  | .or => some (.int k (k.wrap (BitVec.ofInt k.bits a ||| BitVec.ofInt k.bits b).toNat))
  | .xor => some (.int k (k.wrap (BitVec.ofInt k.bits a ^^^ BitVec.ofInt k.bits b).toNat))
  | .andNot => some (.int k (k.wrap (BitVec.ofInt k.bits a &&& ~~~(BitVec.ofInt k.bits b)).toNat))
  | .eql => some (.bool (decide (a = b)))
  | .neq => some (.bool (!decide (a = b)))
  | .lss => some (.bool (decide (a < b)))
  | .leq => some (.bool (decide (a ≤ b)))
  | .gtr => some (.bool (decide (b < a)))
  | .geq => some (.bool (decide (b ≤ a)))
  | .shl | .shr => none
def shiftD (left : Bool) (k : IntKind) (a b : Int) : Option Value :=
  cond (decide (b < 0)) none
    (let n := min b.toNat k.bits
     cond left (some (.int k (wrapD k (a * ((2 ^ n : Nat) : Int))))) (some (.int k (a.fdiv ((2 ^ n : Nat) : Int)))))
def bytesLt : List UInt8 → List UInt8 → Bool := Op.bytesLess
def strD (op : BinOp) (a b : ByteArray) : Option Value :=
  let x := a.data.toList
  let y := b.data.toList
  match op with
  | .add => cond (decide (((x.length + y.length : Nat) : Int) ≤ 9223372036854775807)) (some (.string ⟨(x ++ y).toArray⟩)) none
  | .eql => some (.bool (x == y))
  | .neq => some (.bool (!(x == y)))
  | .lss => some (.bool (bytesLt x y))
  | .leq => some (.bool (bytesLt x y || x == y))
  | .gtr => some (.bool (!(bytesLt x y || x == y)))
  | .geq => some (.bool (!bytesLt x y))
  | _ => none

/-! ### Equality -/
/-- No bytes of the block are shared with a string. -/
def clean (S : St) (b : Nat) : Bool :=
  match S.heap.get b with
  | some (.cells _ _ false none) => true
  | _ => false
def fieldsEq (E : Env) (rec : TypeId → Value → Value → Option Bool) (xs ys : List Value) : List Field → Option Bool
  | [] => some true
  | f :: r =>
    (E.inf f.type).bind fun i => (partD i xs f.offset).bind fun x => (partD i ys f.offset).bind fun y =>
      (rec f.type x y).bind fun e => cond e (fieldsEq E rec xs ys r) (some false)
def eqD (E : Env) (S : St) : Nat → TypeId → Value → Value → Option Bool
  | 0, _, _, _ => none
  | n + 1, t, x, y =>
    match E.inf t with
    | none => none
    | some i =>
      match i.und, x, y with
      | .bool, .bool a, .bool b => some (a == b)
      | .int _, .int k a, .int k' b => cond (kindEq k k') (some (decide (a = b))) none
      | .string, .string a, .string b => some (a.data.toList == b.data.toList)
      | .pointer _, .pointer none, .pointer none => some true
      | .pointer _, .pointer none, .pointer (some _) => some false
      | .pointer _, .pointer (some _), .pointer none => some false
      | .pointer e, .pointer (some ⟨b, o, none⟩), .pointer (some ⟨b', o', none⟩) =>
        match E.size e with
        | some (_ + 1) => cond (Nat.beq b b') (some (Nat.beq o o')) (cond (clean S b && clean S b') (some false) none)
        | _ => none
      | .interface _, .nilIface, .nilIface => some true
      | .interface _, .nilIface, .iface _ _ => some false
      | .interface _, .iface _ _, .nilIface => some false
      | .interface _, .iface tx vx, .iface ty vy =>
        cond (Nat.beq tx ty) (match E.inf tx with | some j => cond j.comparable (eqD E S n tx vx vy) none | none => none) (some false)
      | .struct fields, .agg xs, .agg ys => cond i.noBlank (fieldsEq E (eqD E S n) xs.toList ys.toList fields.toList) none
      | .slice _, .slice none _ _, .slice b _ _ => some b.isNone
      | .slice _, .slice (some _) _ _, .slice none _ _ => some false
      | .map _ _, .map none, .map b => some b.isNone
      | .map _ _, .map (some _), .map none => some false
      | .func _ _ _, .nilFunc, .nilFunc => some true
      | .func _ _ _, .nilFunc, .func _ _ _ => some false
      | .func _ _ _, .func _ _ _, .nilFunc => some false
      | _, _, _ => none
def isConst : Operand → Bool
  | .const _ => true
  | _ => false
/-- 'eqGuard' lets it by. -/
def guardD (E : Env) (t : TypeId) (x y : Operand) (a b : Value) : Bool :=
  match a, b with
  | .nilIface, .nilIface => isConst x || isConst y
  | .agg _, .agg _ => match E.inf t with | some i => !i.eqg | none => false
  | _, _ => true
def binD (E : Env) (S : St) (op : BinOp) (t : TypeId) (x y : Operand) (a b : Value) : Option Value :=
  match a, b with
  | .int k p, .int k' q =>
    match op with
    | .shl => shiftD true k p q
    | .shr => shiftD false k p q
    | _ => cond (kindEq k k') (intD op k p q) none
  | .string p, .string q => strD op p q
  | _, _ =>
    match op with
    | .eql => cond (guardD E t x y a b) ((eqD E S 6 t a b).map .bool) none
    | .neq => cond (guardD E t x y a b) ((eqD E S 6 t a b).map fun e => .bool (!e)) none
    | _ => none
def unD (op : UnOp) : Value → Option Value
  | .int k n =>
    match op with
    | .neg => some (.int k (wrapD k (0 - n)))
    | .xor => some (.int k (k.wrap (BitVec.ofInt k.bits (if k.signed then -1 else k.max) ^^^ BitVec.ofInt k.bits n).toNat))
    | _ => none
  | .bool b => match op with | .not => some (.bool (!b)) | _ => none
  | _ => none

/-! ### Structs, arrays, slices -/
def fillD (place : Nat → Option (Nat × Nat)) : List Value → List (Nat × Value) → Option (List Value)
  | cells, [] => some cells
  | cells, (i, v) :: rest =>
    match place i with
    | none => none
    | some (off, size) =>
      let cs := cellsOf v
      cond (Nat.beq cs.length size && Nat.ble (off + cs.length) cells.length)
        (fillD place (cells.take off ++ (cs ++ cells.drop (off + cs.length))) rest) none
def zerosD (z : List Value) (n : Nat) : List Value := (List.replicate n z).flatten
def buildD (E : Env) (t : TypeId) (parts : List (Nat × Value)) : Option Value :=
  match E.inf t with
  | none => none
  | some i =>
    i.zero.bind fun z =>
    match i.und with
    | .struct fields =>
      cond (fields.toList.all fun f => (E.inf f.type).isSome)
        ((fillD (fun j => (fields[j]?).bind fun f => (E.size f.type).map fun s => (f.offset, s)) (cellsOf z) parts).map fun l => .agg l.toArray) none
    | .array _ e => (E.size e).bind fun s => (fillD (fun j => some (j * s, s)) (cellsOf z) parts).map fun l => .agg l.toArray
    | _ => none
def buildSliceD (E : Env) (S : St) (t : TypeId) (len : Nat) (parts : List (Nat × Value)) : Option (Value × St) :=
  match E.und t with
  | some (.slice e) =>
    match E.inf e with
    | some i =>
      i.zero.bind fun z =>
      cond (Nat.ble (len * i.size) 16777216 && Nat.ble len 16777216 && Nat.beq (cellsOf z).length i.size)
        ((fillD (fun j => some (j * i.size, i.size)) (zerosD (cellsOf z) len) parts).map fun l =>
          (.slice (some ⟨S.next, 0, none⟩) len len, (S.alloc (.cells l none false none)).2)) none
    | none => none
  | _ => none
def makeSliceD (E : Env) (S : St) (t : TypeId) (l c : Value) : Option (Value × St) :=
  match E.und t, l, c with
  | some (.slice e), .int _ ln, .int _ cp =>
    match E.inf e with
    | some i =>
      i.zero.bind fun z =>
      cond (decide (0 ≤ ln) && decide (ln ≤ cp) && decide ((i.bytes : Int) * cp ≤ 140737488355328) && decide (cp ≤ 140737488355328) && Nat.beq (cellsOf z).length i.size && Nat.ble 1 i.size)
        (some (.slice (some ⟨S.next, 0, none⟩) ln.toNat cp.toNat, (S.alloc (.cells (zerosD (cellsOf z) cp.toNat) none false none)).2)) none
    | none => none
  | _, _, _ => none
def natOf : Value → Option Nat
  | .int _ n => cond (decide (0 ≤ n)) (some n.toNat) none
  | _ => none
def optNat (d : Option Nat) : Option Value → Option Nat
  | some v => natOf v
  | none => d
/-- Elements of s cells lie in the block, spare cells behind them. -/
def moreIs (S : St) (b s : Nat) : Bool :=
  match S.heap.get b with
  | some (.cells _ (some z) _ _) => Nat.beq z s
  | _ => false
/-- How many elements of s cells there are room for, as far as D knows. -/
def roomD (S : St) (b o s : Nat) : Nat :=
  match S.heap.get b with
  | some (.cells cs (some z) _ _) => cond (Nat.beq z s && Nat.blt 0 s) ((cs.length - o) / s) 0
  | _ => 0
/-- A capacity that is sure. -/
def kcapD (S : St) (s : Nat) (a : Option Addr) (len cap : Nat) : Nat :=
  cond (Nat.beq cap inex) (match a with | some ⟨b, o, none⟩ => Nat.max len (roomD S b o s) | _ => len) cap
/-- s[lo:hi], s[lo:hi:mx] -/
def sliceD (E : Env) (S : St) (t : TypeId) (x : Value) (lo hi mx : Option Value) : Option Value :=
  match E.und t with
  | some .string =>
    match x, mx with
    | .string s, none =>
      let bs := s.data.toList
      (optNat (some bs.length) hi).bind fun h =>
      (optNat (some 0) lo).bind fun l =>
      cond (Nat.ble h bs.length && Nat.ble l h) (some (.string ⟨((bs.drop l).take (h - l)).toArray⟩)) none
    | _, _ => none
  | some (.slice e) =>
    (E.size e).bind fun s =>
    match x with
    | .slice a len cap =>
      (optNat (some (kcapD S s a len cap)) mx).bind fun m =>
      (optNat (cond mx.isNone (some len) none) hi).bind fun h =>
      (optNat (some 0) lo).bind fun l =>
      cond (Nat.ble m (kcapD S s a len cap) && Nat.ble h m && Nat.ble l h && Nat.blt m inex)
        (match a with
         | none => some (.slice none 0 0)
         | some ⟨b, o, none⟩ =>
           cond (Nat.beq cap inex && mx.isNone)
             (cond (moreIs S b s) (some (.slice (some ⟨b, o + l * s, none⟩) (h - l) inex)) none)
             (some (.slice (some ⟨b, cond (Nat.beq m l) o (o + l * s), none⟩) (h - l) (m - l)))
         | _ => none) none
    | _ => none
  | _ => none
def indexAddrD (E : Env) (t : TypeId) (x ix : Value) : Option Value :=
  match E.und t, x, ix with
  | some (.slice e), .slice (some ⟨b, o, none⟩) len _, .int _ i =>
    (E.size e).bind fun s => cond (decide (0 ≤ i) && decide (i < (len : Int))) (some (.pointer (some ⟨b, o + i.toNat * s, none⟩))) none
  | some (.array len e), .pointer (some ⟨b, o, none⟩), .int _ i =>
    (E.size e).bind fun s => cond (decide (0 ≤ i) && decide (i < (len : Int))) (some (.pointer (some ⟨b, o + i.toNat * s, none⟩))) none
  | _, _, _ => none
def indexD (E : Env) (t : TypeId) (x ix : Value) : Option Value :=
  match E.und t, x, ix with
  | some .string, .string s, .int _ i => cond (decide (0 ≤ i)) ((s.data.toList[i.toNat]?).map fun b => .int .u8 b.toNat) none
  | some (.array len e), .agg cs, .int _ i =>
    (E.inf e).bind fun d => cond (decide (0 ≤ i) && decide (i < (len : Int))) (partD d cs.toList (i.toNat * d.size)) none
  | _, _, _ => none
def fieldAddrD (E : Env) (t : TypeId) (x : Value) (f : Nat) : Option Value :=
  match E.und t, x with
  | some (.struct fields), .pointer (some ⟨b, o, none⟩) =>
    (fields[f]?).bind fun d => match E.size d.type with | some (_ + 1) => some (.pointer (some ⟨b, o + d.offset, none⟩)) | _ => none
  | _, _ => none
def fieldD (E : Env) (t : TypeId) (x : Value) (f : Nat) : Option Value :=
  match E.und t, x with
  | some (.struct fields), .agg cs => (fields[f]?).bind fun d => (E.inf d.type).bind fun i => partD i cs.toList d.offset
  | _, _ => none
def bytesOfS (s : ByteArray) : List Value := s.data.toList.map fun b => .int .u8 b.toNat
def byteOfV : Value → Option UInt8
  | .int .u8 n => some (UInt8.ofNat n.toNat)
  | _ => none
def convertD (E : Env) (S : St) (src dst : TypeId) (x : Value) : Option (Value × St) :=
  match E.und src, E.und dst, x with
  | some _, some (.int k), .int _ n => some (.int k (wrapD k n), S)
  | some .string, some .string, .string s => some (.string s, S)
  | some _, some (.slice e), .string s =>
    match E.und e with
    | some (.int .u8) =>
      cond (Nat.blt s.data.toList.length 9223372036854775807) (some (.slice (some ⟨S.next, 0, none⟩) s.data.toList.length inex, (S.alloc (.cells (bytesOfS s) (some 1) false (some (0, 0)))).2)) none
    | _ => none
  | some (.slice e), some .string, .slice a len _ =>
    match E.und e with
    | some (.int .u8) =>
      match a with
      | none => some (.string ⟨#[]⟩, S)
      | some ⟨b, o, none⟩ => (S.loadN b o len).bind fun l => (l.mapM byteOfV).map fun bs => (.string ⟨bs.toArray⟩, S)
      | _ => none
    | _ => none
  | some (.slice _), some (.slice e), .slice (some ⟨b, o, none⟩) len cap =>
    cond (Nat.beq src dst && !Nat.beq cap 0 && !Nat.beq cap inex)
      (match E.und e, S.heap.get b with
       | some (.int .u8), some (.cells cs more false none) => some (.slice (some ⟨b, o, none⟩) len cap, S.upd b (.cells cs more false (some (0, 0))))
       | _, _ => none) none
  | _, _, _ => none

/-! ### Maps -/
/-- A key that needs no memory. -/
def keyOk : Value → Bool
  | .int _ _ | .string _ | .bool _ => true
  | .agg a => a.toList.all fun v => match v with | .int _ _ | .string _ | .bool _ => true | _ => false
  | _ => false
def keyEq (E : Env) (S : St) (kt : TypeId) (a b : Value) : Option Bool :=
  match a, b with
  | .agg _, .agg _ => eqD E S 3 kt a b
  | .int k x, .int k' y => cond (kindEq k k') (some (decide (x = y))) none
  | .string x, .string y => some (x.data.toList == y.data.toList)
  | .bool x, .bool y => some (x == y)
  | _, _ => none
def findD (E : Env) (S : St) (kt : TypeId) (k : Value) : List MapEntry → Nat → Option (Option (Nat × MapEntry))
  | [], _ => some none
  | e :: r, i => (keyEq E S kt k e.key).bind fun b => cond b (some (some (i, e))) (findD E S kt k r (i + 1))
/-- May values of the type be keys here? -/
def keyType (E : Env) (kt : TypeId) (k : Value) : Bool :=
  keyOk k &&
  match E.inf kt with
  | some i =>
    match i.und, k with
    | .int _, .int _ _ | .string, .string _ | .bool, .bool _ => true
    | .struct fs, .agg cs => i.noBlank && fs.toList.all fun f =>
        match E.inf f.type with
        | some j => (match j.und with | .int _ | .string | .bool => true | _ => false) && Nat.blt f.offset cs.size
        | none => false
    | _, _ => false
  | none => false
def lookupD (E : Env) (S : St) (t : TypeId) (x k : Value) (ok : Bool) : Option Value :=
  match E.und t with
  | some (.map kt e) =>
    cond (keyType E kt k)
      ((match x with
        | .map none => some none
        | .map (some r) => (match S.heap.get r with | some (.map es _) => findD E S kt k es 0 | _ => none)
        | _ => none).bind fun found =>
        (match found with | some (_, en) => some (en.val, true) | none => (E.zero e).map (·, false)).map fun (v, b) =>
          cond ok (.tuple #[v, .bool b]) v) none
  | _ => none
def mapPut (E : Env) (S : St) (kt : TypeId) (r : Nat) (k v : Value) : Option St :=
  match S.heap.get r with
  | some (.map es clock) =>
    (findD E S kt k es 0).bind fun found =>
    match found with
    | some (i, en) => cond (Instr.sameBits 10000 en.key k) (some (S.upd r (.map (es.modify i fun e => { e with key := k, val := v }) clock))) none
    | none => some (S.upd r (.map (es ++ [{ key := k, val := v, born := clock }]) (clock + 1)))
  | _ => none
def mapUpdateD (E : Env) (S : St) (t : TypeId) (m k v : Value) : Option St :=
  match E.und t, m with
  | some (.map kt _), .map (some r) => cond (keyType E kt k) (mapPut E S kt r k v) none
  | _, _ => none
def mapEntryD (E : Env) (S : St) (t : TypeId) (m k : Value) : Option (Value × St) :=
  match E.und t, m with
  | some (.map kt e), .map (some r) =>
    cond (keyType E kt k)
      (match S.heap.get r with
       | some (.map es clock) =>
         (findD E S kt k es 0).bind fun found =>
         match found with
         | some (i, en) =>
           cond (Instr.sameBits 10000 en.key k)
             (some (.tuple #[en.val, .int .i64 (en.born : Int)], S.upd r (.map (es.modify i fun e => { e with key := k }) clock))) none
         | none => (E.zero e).map fun z => (.tuple #[z, .int .i64 (clock : Int)], S.upd r (.map (es ++ [{ key := k, val := z, born := clock }]) (clock + 1)))
       | _ => none) none
  | _, _ => none
def bornAt (n : Int) : List MapEntry → Nat → Option Nat
  | [], _ => none
  | e :: r, i => cond (decide ((e.born : Int) = n)) (some i) (bornAt n r (i + 1))
def entryStoreD (S : St) (m s v : Value) : Option St :=
  match m, s with
  | .map (some r), .int _ born =>
    match S.heap.get r with
    | some (.map es clock) => (bornAt born es 0).map fun i => S.upd r (.map (es.modify i fun e => { e with val := v }) clock)
    | _ => none
  | _, _ => none

/-! ### Builtins -/
def lenD (E : Env) (S : St) (t : TypeId) (x : Value) : Option Value :=
  match E.und t, x with
  | some .string, .string s => some (.int .i64 (s.data.toList.length : Int))
  | some (.array n _), _ => some (.int .i64 (n : Int))
  | some (.slice _), .slice _ n _ => some (.int .i64 (n : Int))
  | some (.map _ _), .map none => some (.int .i64 0)
  | some (.map _ _), .map (some r) => match S.heap.get r with | some (.map es _) => some (.int .i64 (es.length : Int)) | _ => none
  | _, _ => none
def capD (E : Env) (t : TypeId) (x : Value) : Option Value :=
  match E.und t, x with
  | some (.slice _), .slice _ _ n => cond (Nat.beq n inex) none (some (.int .i64 (n : Int)))
  | _, _ => none
/-- The first n elements' cells of a slice, or the bytes of a string. -/
def firstD (S : St) (size n : Nat) : Value → Option (List Value)
  | .slice none _ _ => cond (Nat.beq n 0) (some []) none
  | .slice (some ⟨b, o, none⟩) _ _ => cond (Nat.beq (n * size) 0) (some []) (S.loadN b o (n * size))
  | .string s => some ((bytesOfS s).take n)
  | _ => none
def lenOfD : Value → Option Nat
  | .slice _ n _ => some n
  | .string s => some s.data.toList.length
  | _ => none
/-- How many cells from o on there are for sure. -/
def roomAt (S : St) (b o : Nat) : Nat :=
  match S.heap.get b with
  | some (.cells cs _ _ _) => cs.length - o
  | _ => 0
def killD (S : St) (b : Nat) : St := S.upd b .dead
/-- What may be appended: a slice, a string. -/
def apK (u : TypeDesc) : Bool := match u with | .slice _ | .string => true | _ => false
def appendD (E : Env) (S : St) (st xt : TypeId) (s x : Value) : Option (Value × St) :=
  match E.und st, s with
  | some (.slice e), .slice base sLen sCap =>
    match E.inf e, E.und xt with
    | some i, some xd =>
      cond (apK xd)
        (i.zero.bind fun z => (lenOfD x).bind fun n => (firstD S i.size n x).bind fun new =>
          cond (Nat.beq (cellsOf z).length i.size && Nat.blt 0 i.size && Nat.beq new.length (n * i.size) && Nat.ble ((sLen + n) * i.bytes) 17592186044416 && Nat.ble (sLen + n) 17592186044416)
          (match base with
          | none =>
            cond (Nat.beq n 0) (some (.slice none sLen sCap, S))
              (some (.slice (some ⟨S.next, 0, none⟩) n inex, (S.alloc (.cells new (some i.size) false none)).2))
          | some ⟨b, o, none⟩ =>
            cond (Nat.beq n 0) (some (.slice base sLen sCap, S)) (
            cond (Nat.beq sCap inex)
              (match S.heap.get b with
               | some (.cells cs (some sz) ro fz) =>
                 cond (Nat.beq sz i.size) (
                 cond (Nat.ble (o + (sLen + n) * i.size) cs.length)
                   -- it fits for sure
                   ((S.storeN b (o + sLen * i.size) new).map fun S' => (.slice base (sLen + n) inex, S'))
                   -- in place, or anew: the old block is given up
                   (cond (!ro && Nat.ble (o + sLen * i.size) cs.length && new.all St.one && St.fzOk fz (o + sLen * i.size) (n * i.size))
                     (let S1 := S.upd b .dead
                      some (.slice (some ⟨S.next, 0, none⟩) (sLen + n) inex,
                        (S1.alloc (.cells ((cs.drop o).take (sLen * i.size) ++ new) (some i.size) false (fz.map fun p => (p.1 - o, p.2 - o)))).2)) none)) none
               | _ => none)
              (cond (Nat.ble (sLen + n) sCap)
                ((S.storeN b (o + sLen * i.size) new).map fun S' => (.slice base (sLen + n) sCap, S'))
                ((S.loadN b o (sLen * i.size)).map fun old =>
                   (.slice (some ⟨S.next, 0, none⟩) (sLen + n) inex, (S.alloc (.cells (old ++ new) (some i.size) false none)).2))))
          | _ => none) none) none
    | _, _ => none
  | _, _ => none
def copyD (E : Env) (S : St) (dt : TypeId) (d x : Value) : Option (Value × St) :=
  match E.und dt, d with
  | some (.slice e), .slice base dLen _ =>
    match E.inf e with
    | some i =>
      (lenOfD x).bind fun xl =>
      let n := Nat.min xl dLen
      (firstD S i.size n x).bind fun new =>
      match base with
      | none => some (.int .i64 (n : Int), S)
      | some ⟨b, o, none⟩ => cond (new.isEmpty) (some (.int .i64 (n : Int), S)) ((S.storeN b o new).map fun S' => (.int .i64 (n : Int), S'))
      | _ => none
    | none => none
  | _, _ => none
def deleteD (E : Env) (S : St) (mt : TypeId) (m k : Value) : Option St :=
  match E.und mt, m with
  | some (.map kt _), .map none => cond (keyType E kt k) (some S) none
  | some (.map kt _), .map (some r) =>
    cond (keyType E kt k)
      (match S.heap.get r with
       | some (.map es clock) =>
         (findD E S kt k es 0).map fun found =>
         match found with
         | some (i, _) => S.upd r (.map (es.eraseIdx i) clock)
         | none => S.upd r (.map es clock)
       | _ => none) none
  | _, _ => none
def clearD (E : Env) (S : St) (t : TypeId) (x : Value) : Option St :=
  match E.und t, x with
  | some (.map _ _), .map none => some S
  | some (.map _ _), .map (some r) =>
    match S.heap.get r with
    | some (.map _ clock) => some (S.upd r (.map [] clock))
    | _ => none
  | some (.slice _), .slice none _ _ => some S
  | some (.slice e), .slice (some ⟨b, o, none⟩) n _ =>
    match E.inf e with
    | some i => i.zero.bind fun z => cond (Nat.beq n 0) (some S) (S.storeN b o (zerosD (cellsOf z) n))
    | none => none
  | _, _ => none
def minmaxD (mx : Bool) : Value → List Value → Option Value
  | x, [] => some x
  | .int k a, .int k' b :: r => cond (kindEq k k') (minmaxD mx (.int k (cond mx (cond (decide (b > a)) b a) (cond (decide (b < a)) b a))) r) none
  | _, _ => none

/-! ### One operation -/
inductive DN where
  | val (v : Value) (S : St)
  | skip (S : St)
  | enter (f : Nat) (args : List Value) (S : St)
  | yield (l : Nat) (args : List Value) (S : St)

def builtinD (E : Env) (S : St) (b : Builtin) (ts : Array TypeId) (args : List Value) : Option (Value × St) :=
  match b, args with
  | .len, [x] => (ts[0]?).bind fun t => (lenD E S t x).map (·, S)
  | .cap, [x] => (ts[0]?).bind fun t => (capD E t x).map (·, S)
  | .append, [s, x] => (ts[0]?).bind fun t => (ts[1]?).bind fun u => appendD E S t u s x
  | .copy, [d, x] => (ts[0]?).bind fun t => copyD E S t d x
  | .delete, [m, k] => (ts[0]?).bind fun t => (deleteD E S t m k).map (.tuple #[], ·)
  | .clear, [x] => (ts[0]?).bind fun t => (clearD E S t x).map (.tuple #[], ·)
  | .max, x :: r => (minmaxD true x r).map (·, S)
  | .min, x :: r => (minmaxD false x r).map (·, S)
  | _, _ => none
def partsD (E : Env) (A : Ac) : List (Nat × Operand) → Option (List (Nat × Value))
  | [] => some []
  | (i, x) :: r => (A.eval E x).bind fun v => (partsD E A r).map ((i, v) :: ·)
def optD (E : Env) (A : Ac) : Option Operand → Option (Option Value)
  | none => some none
  | some x => (A.eval E x).map some
def notYield : Fn → Bool
  | .yield _ => false
  | _ => true
def ofP (x : Option (Value × St)) : Option DN := x.map fun p => .val p.1 p.2
def ofV (S : St) (x : Option Value) : Option DN := x.map fun v => .val v S
def ofS (x : Option St) : Option DN := x.map .skip
def calleeD (S : St) (args : List Value) : Value → Option DN
  | .func (.func g) first captured => some (.enter g (first.toList ++ args ++ captured.toList) S)
  | .func (.yield l) _ _ => some (.yield l args S)
  | _ => none
def callD (E : Env) (A : Ac) (S : St) (c : Call) : Option DN :=
  (A.evals E c.args.toList).bind fun args =>
  match c.callee with
  | .builtin b => ofP (builtinD E S b c.argTypes args)
  | .value f => (A.eval E f).bind (calleeD S args)
  | .invoke _ _ => none
def pickD (E : Env) (A : Ac) (a b : Operand) : Value → Option Value
  | .bool t => cond t (A.eval E a) (A.eval E b)
  | _ => none
def nilD : Value → Option Value
  | .pointer (some a) => some (.pointer (some a))
  | .func (.func f) fs cs => some (.func (.func f) fs cs)
  | .func (.yield f) fs cs => some (.func (.yield f) fs cs)
  | _ => none
def extractD (i : Nat) : Value → Option Value
  | .tuple vs => vs.toList[i]?
  | _ => none
def ifaceD (E : Env) (t : TypeId) (v : Value) : Option Value :=
  match E.und t with
  | some (.interface _) => none
  | some _ => some (.iface t v)
  | none => none
def hintOk (E : Env) (t : TypeId) : Option Value → Bool
  | none => true
  | some (.int _ _) => match E.und t with | some (.map _ _) => true | _ => false
  | _ => false
def newD (S : St) (o : DObj) (v : Nat → Value) : DN := .val (v S.next) (S.alloc o).2
def opD (E : Env) (A : Ac) (S : St) (o : Op) : Option DN :=
  match o with
  | .move x | .assign x => ofV S (A.eval E x)
  | .pick c a b => (A.eval E c).bind fun v => ofV S (pickD E A a b v)
  | .alloc e => (E.zero e).map fun z => newD S (.cells (cellsOf z) none false none) fun b => .pointer (some ⟨b, 0, none⟩)
  | .box _ x => (A.eval E x).map fun v => newD S (.cells (cellsOf v) none false none) fun b => .pointer (some ⟨b, 0, none⟩)
  | .build t ps => (partsD E A ps.toList).bind fun parts => ofV S (buildD E t parts)
  | .buildSlice t n ps => (partsD E A ps.toList).bind fun parts => ofP (buildSliceD E S t n parts)
  | .load t a => (A.eval E a).bind fun v => ofV S (loadV E S t v)
  | .store t a x => (A.eval E a).bind fun p => (A.eval E x).bind fun v => ofS (storeV E S t p v)
  | .nilCheck x => (A.eval E x).bind fun v => ofV S (nilD v)
  | .binOp op t x y _ => (A.eval E x).bind fun a => (A.eval E y).bind fun b => ofV S (binD E S op t x y a b)
  | .unOp op _ x => (A.eval E x).bind fun v => ofV S (unD op v)
  | .convert s d x => (A.eval E x).bind fun v => ofP (convertD E S s d v)
  | .makeInterface t x => (A.eval E x).bind fun v => ofV S (ifaceD E t v)
  | .makeFunc fn first captured =>
    (A.evals E first.toList).bind fun fs => (A.evals E captured.toList).bind fun cs =>
      cond (notYield fn) (some (.val (.func fn fs.toArray cs.toArray) S)) none
  | .makeMap t r => (optD E A r).bind fun h => cond (hintOk E t h) (some (newD S (.map [] 0) fun b => .map (some b))) none
  | .makeSlice t l c => (A.eval E l).bind fun ln => (A.eval E c).bind fun cp => ofP (makeSliceD E S t ln cp)
  | .slice t x lo hi mx =>
    (A.eval E x).bind fun v => (optD E A lo).bind fun l => (optD E A hi).bind fun h => (optD E A mx).bind fun m => ofV S (sliceD E S t v l h m)
  | .fieldAddr t x f => (A.eval E x).bind fun v => ofV S (fieldAddrD E t v f)
  | .field t x f => (A.eval E x).bind fun v => ofV S (fieldD E t v f)
  | .indexAddr t x i => (A.eval E x).bind fun v => (A.eval E i).bind fun j => ofV S (indexAddrD E t v j)
  | .index t x i => (A.eval E x).bind fun v => (A.eval E i).bind fun j => ofV S (indexD E t v j)
  | .lookup t x k ok => (A.eval E x).bind fun v => (A.eval E k).bind fun j => ofV S (lookupD E S t v j ok)
  | .mapUpdate t m k x | .insert t m k x => (A.eval E m).bind fun v => (A.eval E k).bind fun j => (A.eval E x).bind fun u => ofS (mapUpdateD E S t v j u)
  | .mapEntry t m k => (A.eval E m).bind fun v => (A.eval E k).bind fun j => ofP (mapEntryD E S t v j)
  | .entryStore _ m s x => (A.eval E m).bind fun v => (A.eval E s).bind fun j => (A.eval E x).bind fun u => ofS (entryStoreD S v j u)
  | .extract t i => (A.eval E t).bind fun v => ofV S (extractD i v)
  | .call c => callD E A S c
  | _ => none

/-! ### Code -/
/-- The runner of one level below: of code. -/
abbrev Runner := Code → Ac → St → Option (Exit × Ac × St)

def resultD (E : Env) (S : St) (A : Ac) : ResultVar → Option Value
  | .tmp t => some (A.get t)
  | .cell a t => loadV E S t (A.get a)
def resultsD (E : Env) (S : St) (A : Ac) : List ResultVar → Option (List Value)
  | [] => some []
  | r :: rs => (resultD E S A r).bind fun v => (resultsD E S A rs).map (v :: ·)
def tupleD : List Value → Value
  | [v] => v
  | vs => .tuple vs.toArray
/-- The marks of the loops over functions are taken off. -/
def shutD : List Nat → St → Option St
  | [], S => some S
  | d :: r, S => match S.heap.get d with | some .deferred => shutD r (S.upd d .dead) | _ => none
def leaveD (E : Env) (fn : Func) (A : Ac) (S : St) : Option (Value × St) :=
  (shutD A.defers S).bind fun S2 => (resultsD E S2 A fn.results.toList).map fun vs => (tupleD vs, S2)
def bodyF (E : Env) (run : Runner) (fn : Func) (c : Code) (args : List Value) (S : St) : Option (Value × St) :=
  match run c { regs := PM.ofList args 0 .leaf, n := args.length + (fn.ntmps - args.length), defers := [], rd := none } S with
  | some (.normal, A, S') => leaveD E fn A S'
  | some (.ret, A, S') => leaveD E fn A S'
  | _ => none
def callF (E : Env) (run : Runner) (f : Nat) (args : List Value) (S : St) : Option (Value × St) :=
  match E.prim f with
  | some p => p args S
  | none =>
    match E.fn f with
    | some fn =>
      match fn.body with
      | some c => bodyF E run fn c args S
      | none => none
    | none => none
def putAll : List Tmp → List Value → Ac → Option Ac
  | [], [], A => some A
  | t :: ts, v :: vs, A => (A.put (some t) v).bind (putAll ts vs)
  | _, _, _ => none
def isReady : LoopState → Bool
  | .ready => true
  | _ => false
def isBusy : LoopState → Bool
  | .busy => true
  | _ => false
def endRoundD (l : Nat) (e : Exit) (S : St) : Option (Value × St) :=
  match S.heap.get l with
  | some (.loop r) =>
    (match e with
     | .normal => some (.bool true, S.upd l (.loop { r with state := .ready, pending := none }))
     | .ret => some (.bool false, S.upd l (.loop { r with state := .done, pending := some .ret }))
     | .exit id => some (.bool false, S.upd l (.loop { r with state := .done, pending := some (.exit id) }))
     | _ => none)
  | _ => none
def roundBody (run : Runner) (l : Nat) (body : Code) (A : Ac) (S : St) : Option (Value × St) :=
  match S.heap.get l with
  | some (.loop r) =>
    cond (isReady r.state)
      (match run body A (S.upd l (.loop { r with state := .busy })) with
       | some (e, _, S2) => endRoundD l e S2
       | none => none) none
  | _ => none
/-- One round of a loop over a function. -/
def roundF (run : Runner) (l : Nat) (args : List Value) (S : St) : Option (Value × St) :=
  match S.heap.get l with
  | some (.loop r) =>
    (putAll r.params.toList args { regs := r.regs, n := r.n, defers := [], rd := some l }).bind fun A =>
      match run r.assign A S with
      | some (.normal, A1, S1) => roundBody run l r.body A1 S1
      | _ => none
  | _ => none
def contD (E : Env) (run : Runner) (dst : Option Tmp) (A : Ac) : DN → Option (Ac × St)
  | .val v S => (A.put dst v).map (·, S)
  | .skip S => (A.put dst undef).map (·, S)
  | .enter f args S => (callF E run f args S).bind fun p => (A.put dst p.1).map (·, p.2)
  | .yield l args S => (roundF run l args S).bind fun p => (A.put dst p.1).map (·, p.2)
/-- Is the operation wanted? (its guard) -/
def wantedD (ops : Array Oper) (A : Ac) (o : Oper) : Bool :=
  match o.guard with
  | none => true
  | some (j, want) =>
    match (ops[j]?).bind (·.dst) with
    | some t => cond (Nat.blt t A.n) (match A.get t with | .bool b => b == want | _ => false) false
    | none => false
def oneD (E : Env) (run : Runner) (ops : Array Oper) (o : Oper) (A : Ac) (S : St) : Option (Ac × St) :=
  cond (wantedD ops A o) ((opD E A S o.op).bind (contD E run o.dst A)) ((A.put o.dst undef).map (·, S))
def opsD (E : Env) (run : Runner) (ops : Array Oper) : List Oper → Ac → St → Option (Ac × St)
  | [], A, S => some (A, S)
  | o :: r, A, S =>
    match oneD E run ops o A S with
    | some (A', S') => opsD E run ops r A' S'
    | none => none
def loopD (run : Runner) (c : Code) : Nat → Ac → St → Option (Exit × Ac × St)
  | 0, _, _ => none
  | k + 1, A, S =>
    match run c A S with
    | some (.normal, A', S') => loopD run c k A' S'
    | r => r
/-- Behind a loop over a function: the jump that a round left. -/
def endLoopD (l : Nat) (A : Ac) (S : St) : Option (Exit × Ac × St) :=
  match S.heap.get l with
  | some (.loop r) =>
    cond (isBusy r.state) none
      (match r.pending with
       | none => some (.normal, A, S.upd l (.loop { r with state := .exhausted }))
       | some .ret => some (.ret, A, S.upd l (.loop { r with state := .exhausted }))
       | some (.exit id) => some (.exit id, A, S.upd l (.loop { r with state := .exhausted }))
       | _ => none)
  | _ => none
def rangeGo (E : Env) (run : Runner) (g : Value) (l : Nat) (A : Ac) (S : St) : Option (Exit × Ac × St) :=
  match g with
  | .func (.func f) first captured =>
    match E.prim f with
    | some _ => none
    | none => (callF E run f (first.toList ++ [.func (.yield l) #[] #[]] ++ captured.toList) S).bind fun p => endLoopD l A p.2
  | _ => none
def rangeF (E : Env) (run : Runner) (f : Operand) (params : Array Tmp) (assign body : Code) (A : Ac) (S : St) : Option (Exit × Ac × St) :=
  (A.eval E f).bind fun g =>
  match A.rd with
  | none =>
    let S1 := (S.alloc .deferred).2
    let S2 := (S1.alloc (.loop { state := .ready, pending := none, regs := A.regs, n := A.n, params, assign, body, dfr := S.next })).2
    rangeGo E run g S1.next { A with defers := S.next :: A.defers } S2
  | some l =>
    match S.heap.get l with
    | some (.loop r) =>
      rangeGo E run g S.next A (S.alloc (.loop { state := .ready, pending := none, regs := A.regs, n := A.n, params, assign, body, dfr := r.dfr })).2
    | _ => none
def condD (run : Runner) (a b : Code) (A : Ac) (S : St) : Value → Option (Exit × Ac × St)
  | .bool t => run (cond t a b) A S
  | _ => none
def seqD (run : Runner) (b : Code) : Option (Exit × Ac × St) → Option (Exit × Ac × St)
  | some (.normal, A, S) => run b A S
  | r => r
def blockD (id : Nat) : Option (Exit × Ac × St) → Option (Exit × Ac × St)
  | some (.exit i, A, S) => some (cond (Nat.beq i id) .normal (.exit i), A, S)
  | r => r
def scopeD : Option (Exit × Ac × St) → Option (Exit × Ac × St)
  | some (.goto _, _, _) => none
  | r => r
/-- A region whose order is drawn. -/
abbrev Draw := Env → Runner → Array Oper → Ac → St → Option (Ac × St)
def stepD (E : Env) (draw : Draw) (n : Nat) (run : Runner) (c : Code) (A : Ac) (S : St) : Option (Exit × Ac × St) :=
  match c with
  | .skip => some (.normal, A, S)
  | .label _ => some (.normal, A, S)
  | .region _ ops false => (opsD E run ops ops.toList A S).map fun p => (.normal, p.1, p.2)
  | .region _ ops true => (draw E run ops A S).map fun p => (.normal, p.1, p.2)
  | .seq a b => seqD run b (run a A S)
  | .cond c a b => (A.eval E c).bind (condD run a b A S)
  | .block id body => blockD id (run body A S)
  | .loop body => loopD run body n A S
  | .rangeFunc f ps a b => rangeF E run f ps a b A S
  | .exit id => some (.exit id, A, S)
  | .scope body => scopeD (run body A S)
  | .ret => some (.ret, A, S)
  | .goto _ => none
  | .refuse _ => none
def exec (E : Env) (draw : Draw) : Nat → Runner
  | 0 => fun _ _ _ => none
  | n + 1 => fun c A S => stepD E draw n (exec E draw n) c A S

end
end Go.Proofs.Ytcookjolkhcjhaa.D
