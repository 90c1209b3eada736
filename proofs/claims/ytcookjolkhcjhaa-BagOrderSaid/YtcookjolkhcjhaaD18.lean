/-
  D, part 18: a region whose order the model draws: D runs it in the order of the text, if no order makes a difference.
-/
import Derived.Test.YtcookjolkhcjhaaD16
import Derived.OrdersIn
namespace Go.Proofs.Ytcookjolkhcjhaa.D
noncomputable section
set_option linter.unusedSectionVars false
set_option linter.unusedSimpArgs false

/-! ### What an operation leans on -/
inductive Kd where
  /-- its temporaries alone -/
  | k0
  /-- it reads memory besides -/
  | k1
  /-- it writes memory, or makes new memory, or calls -/
  | k2
def kindD (E : Env) : Op → Kd
  | .move _ | .assign _ | .pick _ _ _ | .build _ _ | .unOp _ _ _ | .makeFunc _ _ _ | .makeInterface _ _ | .extract _ _ | .field _ _ _ | .fieldAddr _ _ _ | .index _ _ _ | .indexAddr _ _ _ | .nilCheck _ => .k0
  | .binOp op t _ _ _ =>
    match op with
    | .eql | .neq => (match E.und t with | some (.int _) | some .string | some .bool => .k0 | _ => .k1)
    | _ => .k0
  | .convert _ d _ => match E.und d with | some (.int _) => .k0 | _ => .k2
  | .load _ _ | .lookup _ _ _ _ | .slice _ _ _ _ _ => .k1
  | .call { callee := .builtin .len, .. } => .k1
  | .call { callee := .builtin .cap, .. } | .call { callee := .builtin .min, .. } | .call { callee := .builtin .max, .. } => .k0
  | _ => .k2
def flatK : Value → Bool
  | .agg a => a.toList.all scalarK
  | v => scalarK v
/-- The value leads to no block from lim on. -/
def vlow (lim : Nat) : Value → Bool
  | .pointer (some a) => Nat.blt a.block lim
  | .slice (some a) _ _ => Nat.blt a.block lim
  | .map (some r) => Nat.blt r lim
  | .pointer none | .slice none _ _ | .map none | .nilFunc | .nilIface | .func _ _ _ => true
  | .iface _ v => flatK v
  | .tuple _ => false
  | v => flatK v
def lowOps (E : Env) (A : Ac) (lim : Nat) (o : Op) : Bool :=
  o.operands.toList.all fun x => match A.eval E x with | some v => vlow lim v | none => false

/-! ### The plan of a region -/
inductive Md where
  | free | low | quiet
/-- 'k n', n worked out first. -/
def force {α : Type} (n : Nat) (k : Nat → α) : α := match n with | 0 => k 0 | m + 1 => k (m + 1)
theorem force_eq {α : Type} (n : Nat) (k : Nat → α) : force n k = k n := by cases n <;> rfl
/-- For each operation, those that come before it in every order. -/
def bget (b : PM Nat) (i : Nat) : Nat := (b.get i).getD 0
def maskD (o : Oper) (acc : PM Nat) : Nat := o.after.toList.foldl (fun s e => cond (Region.binds .any e) (s ||| 2 ^ e.on ||| bget acc e.on) s) 0
def compat : Kd → Kd → Bool
  | .k2, .k2 => false
  | _, _ => true
def clash : Kd → Kd → Bool
  | .k1, .k2 | .k2, .k1 => true
  | _, _ => false
def bef (b : PM Nat) (j i : Nat) : Bool := (bget b i).testBit j
def backB (o : Oper) (i : Nat) : Bool := o.after.toList.all fun e => !Region.binds .any e || Nat.blt e.on i
def rowB (ops : Array Oper) (o : Oper) (k : Kd) (mask : Nat) : List (Nat × Oper × Kd) → Bool
  | [] => true
  | (j, x, kx) :: r => (mask.testBit j || (compat kx k && x.apart ops o)) && rowB ops o k mask r
/-- All that stand before it come before it. -/
def fullB (mask i : Nat) : Bool := Nat.beq (Nat.land mask (2 ^ i - 1)) (2 ^ i - 1)
/-- m without mask -/
def lessM (m mask : Nat) : Nat := Nat.xor m (Nat.land m mask)
def looseD (un ls i : Nat) : Nat := cond (Nat.beq un 0) ls (ls ||| un ||| 2 ^ i)
def passD (E : Env) (ops : Array Oper) : List Oper → Nat → PM Nat → List (Nat × Oper × Kd) → Nat → Nat → Nat → Option (PM Nat × Nat)
  | [], _, acc, _, _, _, ls => some (acc, ls)
  | o :: r, i, acc, pre, m1, m2, ls =>
    force (maskD o acc) fun mask =>
      cond (backB o i && (fullB mask i || rowB ops o (kindD E o.op) mask pre))
        (match kindD E o.op with
         | .k0 => passD E ops r (i + 1) (acc.set i mask) ((i, o, .k0) :: pre) m1 m2 ls
         | .k1 => force (m1 ||| 2 ^ i) fun m1' => force (looseD (lessM m2 mask) ls i) fun ls' => passD E ops r (i + 1) (acc.set i mask) ((i, o, .k1) :: pre) m1' m2 ls'
         | .k2 => force (m2 ||| 2 ^ i) fun m2' => force (looseD (lessM m1 mask) ls i) fun ls' => passD E ops r (i + 1) (acc.set i mask) ((i, o, .k2) :: pre) m1 m2' ls')
        none
def modeD (E : Env) (ls : Nat) (o : Oper) (i : Nat) : Md := cond (ls.testBit i) (match kindD E o.op with | .k1 => .low | .k2 => .quiet | .k0 => .free) .free
def modesD (E : Env) (ls : Nat) : List Oper → Nat → List (Oper × Md)
  | [], _ => []
  | o :: r, i => (o, modeD E ls o i) :: modesD E ls r (i + 1)
def planD (E : Env) (ops : Array Oper) : Option (List (Oper × Md)) :=
  match passD E ops ops.toList 0 .leaf [] 0 0 0 with
  | some (_, ls) => some (modesD E ls ops.toList 0)
  | none => none
def coreC (E : Env) (run : Runner) : DN → Option (Value × St)
  | .val v S => some (v, S)
  | .skip S => some (undef, S)
  | .enter f args S => callF E run f args S
  | .yield l args S => roundF run l args S
def coreM (E : Env) (run : Runner) (ops : Array Oper) (lim : Nat) (p : Oper × Md) (A : Ac) (S : St) : Option (Value × St) :=
  cond (wantedD ops A p.1)
    (match p.2 with
     | .free => (opD E A S p.1.op).bind (coreC E run)
     | .low => cond (lowOps E A lim p.1.op) ((opD E A S p.1.op).bind (coreC E run)) none
     | .quiet => ((opD E A { S with low := lim } p.1.op).bind (coreC E run)).bind fun q => cond (Nat.ble lim q.2.low) (some (q.1, { q.2 with low := Nat.min S.low lim })) none)
    (some (undef, S))
def goD (E : Env) (run : Runner) (ops : Array Oper) (lim : Nat) : List (Oper × Md) → Ac → St → Option (Ac × St)
  | [], A, S => some (A, S)
  | p :: r, A, S =>
    match coreM E run ops lim p A S with
    | some (v, S') => match A.put p.1.dst v with | some A' => goD E run ops lim r A' S' | none => none
    | none => none
def drawD : Draw := fun E run ops A S => match planD E ops with | some l => goD E run ops S.next l A S | none => none

/-! ### An operation's result hangs on what it looks at -/
section
variable {E : Env} {A A' : Ac} {S : St}
theorem evals_congr : ∀ {xs : List Operand}, (∀ x ∈ xs, A.eval E x = A'.eval E x) → A.evals E xs = A'.evals E xs := by
  intro xs
  induction xs with
  | nil => intro _; rfl
  | cons x xs ih => intro h; simp only [Ac.evals]; rw [h x (by simp), ih fun y hy => h y (by simp [hy])]
theorem partsD_congr : ∀ {ps : List (Nat × Operand)}, (∀ p ∈ ps, A.eval E p.2 = A'.eval E p.2) → partsD E A ps = partsD E A' ps := by
  intro ps
  induction ps with
  | nil => intro _; rfl
  | cons p ps ih => intro h; obtain ⟨i, x⟩ := p; simp only [partsD]; rw [h (i, x) (by simp), ih fun y hy => h y (by simp [hy])]
theorem optD_congr {x : Option Operand} (h : ∀ y ∈ x, A.eval E y = A'.eval E y) : optD E A x = optD E A' x := by
  cases x with
  | none => rfl
  | some y => simp only [optD]; rw [h y rfl]
theorem opD_congr {o : Op} (h : ∀ x ∈ o.operands.toList, A.eval E x = A'.eval E x) : opD E A S o = opD E A' S o := by
  cases o <;> simp only [opD]
  case move x => rw [h x (by simp [Op.operands])]
  case assign x => rw [h x (by simp [Op.operands])]
  case pick c x y =>
    rw [h c (by simp [Op.operands])]
    congr 1; funext v
    unfold pickD
    split
    · rw [h x (by simp [Op.operands]), h y (by simp [Op.operands])]
    · rfl
  case box t x => rw [h x (by simp [Op.operands])]
  case build t ps => rw [partsD_congr fun p hp => h p.2 (by simp [Op.operands]; exact ⟨p.1, by simpa using hp⟩)]
  case buildSlice t n ps => rw [partsD_congr fun p hp => h p.2 (by simp [Op.operands]; exact ⟨p.1, by simpa using hp⟩)]
  case load t x => rw [h x (by simp [Op.operands])]
  case store t x y => rw [h x (by simp [Op.operands]), h y (by simp [Op.operands])]
  case nilCheck x => rw [h x (by simp [Op.operands])]
  case binOp op t x y u => rw [h x (by simp [Op.operands]), h y (by simp [Op.operands])]
  case unOp op t x => rw [h x (by simp [Op.operands])]
  case convert s t x => rw [h x (by simp [Op.operands])]
  case makeInterface t x => rw [h x (by simp [Op.operands])]
  case makeFunc fn fs cs => rw [evals_congr (xs := fs.toList) fun x hx => h x (by simp [Op.operands] at hx ⊢; exact .inl hx), evals_congr (xs := cs.toList) fun x hx => h x (by simp [Op.operands] at hx ⊢; exact .inr hx)]
  case makeMap t x => rw [optD_congr fun y hy => h y (by cases x <;> simp_all [Op.operands])]
  case makeSlice t x y => rw [h x (by simp [Op.operands]), h y (by simp [Op.operands])]
  case slice t x lo hi mx =>
    rw [h x (by simp [Op.operands]), optD_congr (x := lo) fun y hy => h y (by cases lo <;> simp_all [Op.operands]), optD_congr (x := hi) fun y hy => h y (by cases hi <;> simp_all [Op.operands]),
      optD_congr (x := mx) fun y hy => h y (by cases mx <;> simp_all [Op.operands])]
  case fieldAddr t x f => rw [h x (by simp [Op.operands])]
  case field t x f => rw [h x (by simp [Op.operands])]
  case indexAddr t x y => rw [h x (by simp [Op.operands]), h y (by simp [Op.operands])]
  case index t x y => rw [h x (by simp [Op.operands]), h y (by simp [Op.operands])]
  case lookup t x y ok => rw [h x (by simp [Op.operands]), h y (by simp [Op.operands])]
  case mapUpdate t x y z => rw [h x (by simp [Op.operands]), h y (by simp [Op.operands]), h z (by simp [Op.operands])]
  case insert t x y z => rw [h x (by simp [Op.operands]), h y (by simp [Op.operands]), h z (by simp [Op.operands])]
  case mapEntry t x y => rw [h x (by simp [Op.operands]), h y (by simp [Op.operands])]
  case entryStore t x y z => rw [h x (by simp [Op.operands]), h y (by simp [Op.operands]), h z (by simp [Op.operands])]
  case extract x i => rw [h x (by simp [Op.operands])]
  case call c =>
    unfold callD
    rw [evals_congr (xs := c.args.toList) fun x hx => h x (by simp [Op.operands, Call.operands] at hx ⊢; exact .inr hx)]
    congr 1; funext args
    split
    · rfl
    · rename_i f hc
      rw [h f (by simp [Op.operands, Call.operands, hc])]
    · rfl
end

/-! ### .. and on the blocks below the mark -/
theorem eqD_flat (E : Env) (S S' : St) : ∀ (n : Nat) (t : TypeId) (x y : Value), flatK x = true → eqD E S n t x y = eqD E S' n t x y := by
  intro n
  induction n with
  | zero => intro t x y _; rfl
  | succ n ih =>
    intro t x y hx
    unfold eqD
    cases E.inf t with
    | none => rfl
    | some i =>
      simp only
      split <;> first | rfl | (simp [flatK, scalarK] at hx; done) | skip
      rename_i fields xs ys _
      have key : ∀ (fs : List Field), fieldsEq E (eqD E S n) xs.toList ys.toList fs = fieldsEq E (eqD E S' n) xs.toList ys.toList fs := by
        intro fs
        induction fs with
        | nil => rfl
        | cons f fs ihf =>
          simp only [fieldsEq]
          cases hfi : E.inf f.type with
          | none => rfl
          | some j =>
            simp only [Option.bind_some]
            cases hpx : partD j xs.toList f.offset with
            | none => rfl
            | some u =>
              simp only [Option.bind_some]
              have hu : flatK u = true := by
                simp only [flatK, List.all_eq_true] at hx
                unfold partD at hpx
                cases ha : aggD j.und with
                | true =>
                  rw [ha] at hpx
                  obtain ⟨_, h2⟩ := cond_some hpx
                  cases h2
                  simp only [flatK, List.all_eq_true]
                  intro v hv
                  exact hx v (List.mem_of_mem_drop (List.mem_of_mem_take hv))
                | false =>
                  rw [ha] at hpx
                  have := hx u (List.mem_of_getElem? hpx)
                  cases u <;> simp_all [flatK, scalarK]
              cases partD j ys.toList f.offset with
              | none => rfl
              | some v => simp only [Option.bind_some]; rw [ih _ _ _ hu, ihf]
      rw [key]

def Agree (lim : Nat) (S S' : St) : Prop := ∀ b, b < lim → S'.heap.get b = S.heap.get b

theorem vlow_eq {E : Env} {lim : Nat} {S S' : St} (h : Agree lim S S') {n : Nat} {t : TypeId} {x y : Value} (hx : vlow lim x = true) (hy : vlow lim y = true) : eqD E S n t x y = eqD E S' n t x y := by
  by_cases hf : flatK x = true
  · exact eqD_flat E S S' n t x y hf
  · cases n with
    | zero => rfl
    | succ n =>
      unfold eqD
      cases E.inf t with
      | none => rfl
      | some i =>
        simp only
        split <;> first | rfl | skip
        · rename_i b o b' o' _
          simp only [vlow] at hx hy
          have hb := Nat.blt_eq.mp hx
          have hb' := Nat.blt_eq.mp hy
          have c1 : clean S b = clean S' b := by unfold clean; rw [h b hb]
          have c2 : clean S b' = clean S' b' := by unfold clean; rw [h b' hb']
          rw [c1, c2]
        · rename_i tx vx ty vy _
          have : flatK vx = true := hx
          rw [eqD_flat E S S' n tx vx vy this]
        · exact absurd (by simpa [vlow] using hx) hf

/-- The result of an operation that does not write is a value. -/
theorem opD_k {E : Env} {A : Ac} {S : St} {o : Op} {r : DN} (h : opD E A S o = some r) (hk : kindD E o ≠ .k2) : ∃ v, r = .val v S := by
  have hv : ∀ {x : Option Value} {r : DN}, ofV S x = some r → ∃ v, r = .val v S := by
    intro x r h; unfold ofV at h; rw [Option.map_eq_some_iff] at h; obtain ⟨v, _, rfl⟩ := h; exact ⟨v, rfl⟩
  cases o <;> simp only [opD, Option.bind_eq_some_iff, Option.map_eq_some_iff] at h <;> simp only [kindD, ne_eq, not_true, reduceCtorEq, not_false_eq_true] at hk
  case move => exact hv h
  case assign => exact hv h
  case pick => obtain ⟨_, _, h⟩ := h; exact hv h
  case build => obtain ⟨_, _, h⟩ := h; exact hv h
  case load => obtain ⟨_, _, h⟩ := h; exact hv h
  case nilCheck => obtain ⟨_, _, h⟩ := h; exact hv h
  case binOp => obtain ⟨_, _, _, _, h⟩ := h; exact hv h
  case unOp => obtain ⟨_, _, h⟩ := h; exact hv h
  case convert s d x =>
    obtain ⟨u, _, h⟩ := h
    split at hk
    · rename_i k hu
      unfold ofP at h
      rw [Option.map_eq_some_iff] at h
      obtain ⟨⟨v, S'⟩, h1, rfl⟩ := h
      unfold convertD at h1
      rw [hu] at h1
      split at h1 <;> first | (cases h1; exact ⟨_, rfl⟩) | (exfalso; simp_all; done)
    · exact absurd rfl hk
  case makeInterface => obtain ⟨_, _, h⟩ := h; exact hv h
  case makeFunc => obtain ⟨_, _, _, _, h⟩ := h; obtain ⟨_, h⟩ := cond_some h; cases h; exact ⟨_, rfl⟩
  case slice => obtain ⟨_, _, _, _, _, _, _, _, h⟩ := h; exact hv h
  case fieldAddr => obtain ⟨_, _, h⟩ := h; exact hv h
  case field => obtain ⟨_, _, h⟩ := h; exact hv h
  case indexAddr => obtain ⟨_, _, _, _, h⟩ := h; exact hv h
  case index => obtain ⟨_, _, _, _, h⟩ := h; exact hv h
  case lookup => obtain ⟨_, _, _, _, h⟩ := h; exact hv h
  case extract => obtain ⟨_, _, h⟩ := h; exact hv h
  case call c =>
    unfold callD at h
    rw [Option.bind_eq_some_iff] at h
    obtain ⟨args, _, h⟩ := h
    obtain ⟨callee, cargs, ctypes⟩ := c
    cases callee with
    | builtin b =>
      simp only at h
      unfold ofP at h
      rw [Option.map_eq_some_iff] at h
      obtain ⟨⟨v, S'⟩, h1, rfl⟩ := h
      unfold builtinD at h1
      split at h1 <;> (try simp only [Option.bind_eq_some_iff, Option.map_eq_some_iff] at h1) <;> (try (exact absurd rfl hk))
      · obtain ⟨_, _, _, _, h1⟩ := h1; cases h1; exact ⟨_, rfl⟩
      · obtain ⟨_, _, _, _, h1⟩ := h1; cases h1; exact ⟨_, rfl⟩
      · obtain ⟨_, _, h1⟩ := h1; cases h1; exact ⟨_, rfl⟩
      · obtain ⟨_, _, h1⟩ := h1; cases h1; exact ⟨_, rfl⟩
      · cases h1
    | value f => exact absurd rfl hk
    | invoke _ _ => exact absurd rfl hk


theorem opD_k0 {E : Env} {A : Ac} {S S' : St} {o : Op} {v : Value} (h : opD E A S o = some (.val v S)) (hk : kindD E o = .k0) : opD E A S' o = some (.val v S') := by
  have hv : ∀ {x x' : Option Value}, ofV S x = some (.val v S) → x' = x → ofV S' x' = some (.val v S') := by
    rintro x x' h rfl
    unfold ofV at h ⊢; rw [Option.map_eq_some_iff] at h ⊢; obtain ⟨u, h1, h2⟩ := h; cases h2; exact ⟨_, h1, rfl⟩
  cases o <;> simp only [opD, Option.bind_eq_some_iff, Option.map_eq_some_iff] at h ⊢ <;> simp only [kindD, reduceCtorEq] at hk
  case move => exact hv h rfl
  case assign => exact hv h rfl
  case pick => obtain ⟨u, h1, h⟩ := h; exact ⟨u, h1, hv h rfl⟩
  case build => obtain ⟨u, h1, h⟩ := h; exact ⟨u, h1, hv h rfl⟩
  case nilCheck => obtain ⟨u, h1, h⟩ := h; exact ⟨u, h1, hv h rfl⟩
  case binOp op t x y u =>
    obtain ⟨a, h1, b, h2, h⟩ := h
    refine ⟨a, h1, b, h2, hv h ?_⟩
    unfold binD
    split
    · rfl
    · rfl
    · rename_i n1 n2
      have sc : ∀ {d}, E.und t = some d → (d = .bool ∨ d = .string ∨ ∃ k, d = TypeDesc.int k) → eqD E S' 6 t a b = eqD E S 6 t a b := by
        intro d hd hd3
        unfold Env.und at hd
        rw [Option.map_eq_some_iff] at hd
        obtain ⟨i, hi, hu⟩ := hd
        unfold eqD
        rw [hi]
        simp only
        rcases hd3 with rfl | rfl | ⟨k, rfl⟩ <;> rw [hu] <;> cases a <;> first | rfl | (cases b <;> rfl)
      cases op <;> simp only [kindD] at hk ⊢
      case eql =>
        split at hk
        · rename_i k hu; rw [sc hu (.inr (.inr ⟨k, rfl⟩))]
        · rename_i hu; rw [sc hu (.inr (.inl rfl))]
        · rename_i hu; rw [sc hu (.inl rfl)]
        · cases hk
      case neq =>
        split at hk
        · rename_i k hu; rw [sc hu (.inr (.inr ⟨k, rfl⟩))]
        · rename_i hu; rw [sc hu (.inr (.inl rfl))]
        · rename_i hu; rw [sc hu (.inl rfl)]
        · cases hk
  case unOp => obtain ⟨u, h1, h⟩ := h; exact ⟨u, h1, hv h rfl⟩
  case convert s d x =>
    obtain ⟨u, h1, h⟩ := h
    refine ⟨u, h1, ?_⟩
    split at hk
    · rename_i k hu
      unfold ofP at h ⊢
      rw [Option.map_eq_some_iff] at h ⊢
      obtain ⟨⟨q, S1⟩, h2, h3⟩ := h
      cases h3
      unfold convertD at h2 ⊢
      rw [hu] at h2 ⊢
      cases hs : E.und s with
      | none => rw [hs] at h2; cases u <;> cases h2
      | some us =>
        rw [hs] at h2
        cases u <;> first | (cases h2; done) | (cases us <;> (cases h2; exact ⟨_, rfl, rfl⟩))
    · cases hk
  case makeInterface => obtain ⟨u, h1, h⟩ := h; exact ⟨u, h1, hv h rfl⟩
  case makeFunc => obtain ⟨fs, h1, cs, h2, h⟩ := h; refine ⟨fs, h1, cs, h2, ?_⟩; obtain ⟨h3, h4⟩ := cond_some h; cases h4; rw [h3]; rfl
  case fieldAddr => obtain ⟨u, h1, h⟩ := h; exact ⟨u, h1, hv h rfl⟩
  case field => obtain ⟨u, h1, h⟩ := h; exact ⟨u, h1, hv h rfl⟩
  case indexAddr => obtain ⟨u, h1, q, h2, h⟩ := h; exact ⟨u, h1, q, h2, hv h rfl⟩
  case index => obtain ⟨u, h1, q, h2, h⟩ := h; exact ⟨u, h1, q, h2, hv h rfl⟩
  case extract => obtain ⟨u, h1, h⟩ := h; exact ⟨u, h1, hv h rfl⟩
  case call c =>
    unfold callD at h ⊢
    rw [Option.bind_eq_some_iff] at h ⊢
    obtain ⟨args, h1, h⟩ := h
    refine ⟨args, h1, ?_⟩
    obtain ⟨callee, cargs, ctypes⟩ := c
    cases callee with
    | builtin b =>
      simp only at h ⊢
      unfold ofP at h ⊢
      rw [Option.map_eq_some_iff] at h ⊢
      obtain ⟨⟨q, S1⟩, h2, h3⟩ := h
      cases h3
      refine ⟨(q, S'), ?_, rfl⟩
      unfold builtinD at h2 ⊢
      cases b <;> simp only [kindD, reduceCtorEq] at hk
      case cap =>
        split at h2 <;> first | (rename_i hh; cases hh; done) | skip
        all_goals first
          | (simp only [Option.bind_eq_some_iff, Option.map_eq_some_iff] at h2 ⊢; obtain ⟨t, g1, u, g2, g3⟩ := h2; cases g3; exact ⟨t, g1, _, g2, rfl⟩)
          | (exfalso; simp_all; done)
      case max =>
        split at h2 <;> first | (rename_i hh; cases hh; done) | skip
        all_goals first
          | (simp only [Option.map_eq_some_iff] at h2 ⊢; obtain ⟨u, g2, g3⟩ := h2; cases g3; exact ⟨_, g2, rfl⟩)
          | (exfalso; simp_all; done)
      case min =>
        split at h2 <;> first | (rename_i hh; cases hh; done) | skip
        all_goals first
          | (simp only [Option.map_eq_some_iff] at h2 ⊢; obtain ⟨u, g2, g3⟩ := h2; cases g3; exact ⟨_, g2, rfl⟩)
          | (exfalso; simp_all; done)
    | value f => cases hk
    | invoke _ _ => cases hk

theorem opD_k1 {E : Env} {A : Ac} {S S' : St} {o : Op} {v : Value} {lim : Nat} (h : opD E A S o = some (.val v S)) (hk : kindD E o = .k1) (hl : lowOps E A lim o = true) (hag : Agree lim S S') : opD E A S' o = some (.val v S') := by
  have hv : ∀ {x x' : Option Value}, ofV S x = some (.val v S) → x' = x → ofV S' x' = some (.val v S') := by
    rintro x x' h rfl
    unfold ofV at h ⊢; rw [Option.map_eq_some_iff] at h ⊢; obtain ⟨u, h1, h2⟩ := h; cases h2; exact ⟨_, h1, rfl⟩
  have low : ∀ x ∈ o.operands.toList, ∀ u, A.eval E x = some u → vlow lim u = true := by
    intro x hx u hu
    unfold lowOps at hl
    rw [List.all_eq_true] at hl
    have := hl x hx
    rw [hu] at this; exact this
  cases o <;> simp only [opD, Option.bind_eq_some_iff, Option.map_eq_some_iff] at h ⊢ <;> simp only [kindD, reduceCtorEq] at hk
  case load t x =>
    obtain ⟨u, h1, h⟩ := h
    refine ⟨u, h1, hv h ?_⟩
    have hu := low x (by simp [Op.operands]) u h1
    unfold loadV
    split
    · rename_i b o
      have hb : b < lim := Nat.blt_eq.mp hu
      simp only [St.loadN, St.load1, hag b hb]
    · rfl
  case binOp op t x y u =>
    obtain ⟨a, h1, b, h2, h⟩ := h
    refine ⟨a, h1, b, h2, hv h ?_⟩
    have ha := low x (by simp [Op.operands]) a h1
    have hb := low y (by simp [Op.operands]) b h2
    have := vlow_eq hag (E := E) (n := 6) (t := t) ha hb
    unfold binD
    split
    · rfl
    · rfl
    · rw [this]
  case convert => split at hk <;> cases hk
  case slice t x lo hi mx =>
    obtain ⟨a, h1, l, h2, hh, h3, mm, h4, h⟩ := h
    refine ⟨a, h1, l, h2, hh, h3, mm, h4, hv h ?_⟩
    have ha := low x (by simp [Op.operands]) a h1
    unfold sliceD
    split
    · rfl
    · congr 1; funext s
      split
      · rename_i aa len cap
        have hcap : kcapD S' s aa len cap = kcapD S s aa len cap := by
          unfold kcapD
          split
          · rename_i b o
            have hb : b < lim := Nat.blt_eq.mp ha
            have : roomD S' b o s = roomD S b o s := by unfold roomD; rw [hag b hb]
            rw [this]
          · rfl
        rw [hcap]
        congr 1; funext M
        congr 1; funext H
        congr 1; funext L
        congr 1
        split
        · rfl
        · rename_i b o
          have hb : b < lim := Nat.blt_eq.mp ha
          have : moreIs S' b s = moreIs S b s := by unfold moreIs; rw [hag b hb]
          rw [this]
        · rfl
      · rfl
    · rfl
  case lookup t x k ok =>
    obtain ⟨a, h1, b, h2, h⟩ := h
    refine ⟨a, h1, b, h2, hv h ?_⟩
    have ha := low x (by simp [Op.operands]) a h1
    unfold lookupD
    split
    · rename_i kt e _
      cases hkt : keyType E kt b with
      | false => rfl
      | true =>
        simp only [cond_true]
        congr 1
        split
        · rfl
        · rename_i r
          have hb : r < lim := Nat.blt_eq.mp ha
          rw [hag r hb]
          split
          · rename_i es clock _
            have hkf : flatK b = true := by
              unfold keyType at hkt
              simp only [Bool.and_eq_true] at hkt
              have := hkt.1
              unfold keyOk at this
              split at this
              · rfl
              · rfl
              · rfl
              · rename_i cs
                simp only [flatK, List.all_eq_true] at this ⊢
                intro u hu
                have := this u hu
                cases u <;> simp_all [scalarK]
              · cases this
            have key : ∀ (l : List MapEntry) (i : Nat), findD E S' kt b l i = findD E S kt b l i := by
              intro l
              induction l with
              | nil => intro i; rfl
              | cons en l ih =>
                intro i
                simp only [findD]
                have : keyEq E S' kt b en.key = keyEq E S kt b en.key := by
                  unfold keyEq
                  split <;> first | rfl | skip
                  exact (eqD_flat E S S' 3 kt _ _ hkf).symm
                rw [this, ih]
            exact key es 0
          · rfl
        · rfl
    · rfl
  case call c =>
    unfold callD at h ⊢
    rw [Option.bind_eq_some_iff] at h ⊢
    obtain ⟨args, h1, h⟩ := h
    refine ⟨args, h1, ?_⟩
    have hargs : ∀ {xs : List Operand} {vs : List Value}, (∀ x ∈ xs, x ∈ c.args.toList) → A.evals E xs = some vs → ∀ u ∈ vs, vlow lim u = true := by
      intro xs
      induction xs with
      | nil => intro vs _ h; cases h; simp
      | cons x xs ih =>
        intro vs hm h
        simp only [Ac.evals, Option.bind_eq_some_iff, Option.map_eq_some_iff] at h
        obtain ⟨u, h1, us, h2, rfl⟩ := h
        intro q hq
        cases hq with
        | head => exact low x (by have := hm x (by simp); simp [Op.operands, Call.operands] at this ⊢; exact .inr this) _ h1
        | tail _ hq => exact ih (fun y hy => hm y (by simp [hy])) h2 q hq
    have hlow := hargs (fun x hx => hx) h1
    obtain ⟨callee, cargs, ctypes⟩ := c
    cases callee with
    | builtin b =>
      simp only at h ⊢
      unfold ofP at h ⊢
      rw [Option.map_eq_some_iff] at h ⊢
      obtain ⟨⟨q, S1⟩, h2, h3⟩ := h
      cases h3
      refine ⟨(q, S'), ?_, rfl⟩
      unfold builtinD at h2 ⊢
      cases b <;> simp only [kindD, reduceCtorEq] at hk
      case len =>
        split at h2 <;> first | (rename_i hh; cases hh; done) | skip
        · rename_i x _
          simp only [Option.bind_eq_some_iff, Option.map_eq_some_iff] at h2 ⊢
          obtain ⟨t, g1, u, g2, g3⟩ := h2
          cases g3
          refine ⟨t, g1, _, ?_, rfl⟩
          rw [← g2]
          have hx := hlow x (by simp)
          unfold lenD
          split <;> first | rfl | skip
          rename_i r _
          have hb : r < lim := Nat.blt_eq.mp hx
          rw [hag r hb]
        all_goals (exfalso; simp_all; done)
    | value f => cases hk
    | invoke _ _ => cases hk

end
end Go.Proofs.Ytcookjolkhcjhaa.D
