/- Parts of the proof, put together. -/
import Derived.Test.YtcdignblakejoaaSA
/- Numbers, sorted, each once. -/
namespace Go.Proofs.Ytcdignblakejoaa
open Go Go.Proofs.Ytcdignblakejoaa.D
set_option linter.unusedVariables false
set_option linter.unusedSimpArgs false
noncomputable section

theorem take_snoc {α : Type} {l : List α} {n : Nat} (h : n < l.length) : l.take (n + 1) = l.take n ++ [l[n]] := by simp
abbrev encI (x : Int) : List Value := [.int .i64 x]
theorem SlOf.int {S : St} {s : Sl} {l : List Int} (h : SlOf encI 1 S s l) {n : Nat} (hn : n < l.length) {k : Int → Prop} (hk : k l[n]) : idxW s.a s.len (n : Int) fun b1 b2 => evV tI (loadV E0 S 3 (.pointer (some ⟨b1, b2 + Int.toNat (n : Int) * 1, none⟩))) k := by
  refine h.idxL (f := encI) (sz := 1) (fun _ => rfl) h.len hn fun b o cs m ro fz hat _ hv => ?_
  exact evV_of (ty := tI) l[n] ((load_one hat (by kernel_rfl)).trans ((at_take hv (j := 0) (by omega)).trans rfl)) hk
def sortI (l : List Int) : List Int := l.mergeSort fun x y => decide (x ≤ y)
theorem sortI_perm {a b : List Int} (h : a.Perm b) : sortI a = sortI b :=
  List.Perm.eq_of_pairwise (le := fun x y => decide (x ≤ y) = true) (fun _ _ _ _ h1 h2 => by simp at h1 h2; omega)
    (List.pairwise_mergeSort (fun _ _ _ h1 h2 => by simp at *; omega) (fun _ _ => by simp; omega) a) (List.pairwise_mergeSort (fun _ _ _ h1 h2 => by simp at *; omega) (fun _ _ => by simp; omega) b)
    ((List.mergeSort_perm a _).trans (h.trans (List.mergeSort_perm b _).symm))
/-- Each once. -/
def cmpct {α : Type} [DecidableEq α] : List α → List α
  | [] => []
  | [a] => [a]
  | a :: b :: r => if a = b then cmpct (b :: r) else a :: cmpct (b :: r)
theorem cmpct_mem {α : Type} [DecidableEq α] {x : α} : ∀ {l : List α}, x ∈ cmpct l → x ∈ l
  | [], h => h
  | [a], h => h
  | a :: b :: r, h => by
    unfold cmpct at h
    split at h
    · exact List.mem_cons_of_mem _ (cmpct_mem h)
    · rcases List.mem_cons.1 h with rfl | h
      · exact List.mem_cons_self
      · exact List.mem_cons_of_mem _ (cmpct_mem h)
theorem flat_encI (l : List Int) : l.flatMap encI = l.map (Value.int .i64) := by induction l with | nil => rfl | cons x l ih => simp [List.flatMap_cons, ih]
theorem sortI_len (l : List Int) : (sortI l).length = l.length := (List.mergeSort_perm l _).length_eq
/-- slices.Sort. -/
theorem s47 {S : St} {s : Sl} {l : List Int} {k : Value → St → Prop} (h : GrX encI 1 0 S s l) (hl : l.length ≤ 100000) (hk : ∀ S', GrX encI 1 0 S' s (sortI l) → Mod (slO s) S S' → k (.tuple #[]) S') : WC E0 47 [.slice s.a s.len s.cap] S k := by
  rcases h with ⟨rfl, rfl⟩ | ⟨b, rest, hb, rfl, hat, hlt⟩
  · exact WC_prim (E := E0) (f := 47) rfl (show sortP [.slice none 0 0] S = some (.tuple #[], S) from rfl) (hk S (.inl ⟨by simp [sortI], rfl⟩) (Mod.refl _ _))
  cases hn : l.length with
  | zero =>
    have hl0 : l = [] := List.length_eq_zero_iff.1 hn
    subst hl0
    exact WC_prim (E := E0) (f := 47) rfl (show sortP [.slice (some ⟨b, 0, none⟩) 0 inex] S = some (.tuple #[], S) from rfl) (hk S (.inr ⟨b, rest, hb, by simp [sortI], by simpa [sortI] using hat, by simpa [sortI] using hlt⟩) (Mod.refl _ _))
  | succ n =>
    have e1 : ((l.flatMap encI ++ rest).drop 0).take (n + 1) = l.map (Value.int .i64) := by
      rw [List.drop_zero, List.take_left' (by rw [flat_encI, List.length_map, hn]), flat_encI]
    have e2 : splice (l.flatMap encI ++ rest) 0 ((sortI l).map (Value.int .i64)) = (sortI l).flatMap encI ++ rest := by
      unfold splice
      rw [List.take_zero, List.nil_append, Nat.zero_add, List.length_map, sortI_len, List.drop_left' (by rw [flat_encI, List.length_map]), ← flat_encI]
    have g1 : (Nat.beq l.length (n + 1) && Nat.ble (n + 1) 140737488355328) = true := by rw [hn, Nat.beq_refl, Nat.ble_eq_true_of_le (by omega)]; rfl
    refine WC_prim (E := E0) (f := 47) rfl (show sortP [.slice (some ⟨b, 0, none⟩) (n + 1) inex] S = some (.tuple #[], S.upd b (.cells ((sortI l).flatMap encI ++ rest) (some 1) false none)) from ?_) (hk _ (.inr ⟨b, rest, hb, ?_, upd_at hat, by rw [sortI_len]; exact hlt⟩) (upd_mod.mono fun c hc _ => ⟨0, by rw [hc]⟩))
    · have e2' := e2
      unfold sortI at e2'
      unfold sortI
      simp only [sortP, hat.get, e1, intsOf_map, Option.bind_some, g1, cond_true, e2']
    · rw [sortI_len, hn]
/-! ### Each once -/
section
variable {α : Type} [DecidableEq α]
theorem cmpct_snoc : ∀ (l : List α) (a x : α), cmpct (l ++ [a] ++ [x]) = if a = x then cmpct (l ++ [a]) else cmpct (l ++ [a]) ++ [x]
  | [], a, x => by
    show (if a = x then cmpct [x] else a :: cmpct [x]) = _
    split
    · rename_i h; subst h; rfl
    · rfl
  | [b], a, x => by
    show (if b = a then cmpct (a :: [x]) else b :: cmpct (a :: [x])) = if a = x then (if b = a then cmpct [a] else b :: cmpct [a]) else (if b = a then cmpct [a] else b :: cmpct [a]) ++ [x]
    have h := cmpct_snoc [] a x
    simp only [List.nil_append, List.singleton_append] at h
    rw [h]
    split <;> split <;> rfl
  | b :: c :: r, a, x => by
    have ih := cmpct_snoc (c :: r) a x
    have e1 : cmpct (b :: c :: r ++ [a] ++ [x]) = if b = c then cmpct (c :: r ++ [a] ++ [x]) else b :: cmpct (c :: r ++ [a] ++ [x]) := rfl
    have e2 : cmpct (b :: c :: r ++ [a]) = if b = c then cmpct (c :: r ++ [a]) else b :: cmpct (c :: r ++ [a]) := rfl
    rw [e1, e2, ih]
    split <;> split <;> rfl
theorem cmpct_next {l : List α} {i : Nat} (h0 : 0 < i) (hi : i < l.length) : cmpct (l.take (i + 1)) = if l[i - 1] = l[i] then cmpct (l.take i) else cmpct (l.take i) ++ [l[i]] := by
  obtain ⟨j, rfl⟩ : ∃ j, i = j + 1 := ⟨i - 1, by omega⟩
  have hj : j < l.length := by omega
  have e1 : l.take (j + 1) = l.take j ++ [l[j]] := take_snoc hj
  have e2 : l.take (j + 1 + 1) = l.take j ++ [l[j]] ++ [l[j + 1]] := by rw [take_snoc hi, e1]
  rw [e2, e1, cmpct_snoc]
  rfl
theorem cmpct_len_le : ∀ (l : List α), (cmpct l).length ≤ l.length
  | [] => Nat.le_refl _
  | [_] => Nat.le_refl _
  | a :: b :: r => by
    have := cmpct_len_le (b :: r)
    unfold cmpct
    split
    · simp at this ⊢; omega
    · simp at this ⊢; omega
/-- What lies there when i elements were looked at. -/
def mid (l : List α) (i : Nat) : List α := cmpct (l.take i) ++ l.drop (cmpct (l.take i)).length
theorem mid_len {l : List α} {i : Nat} (hi : i ≤ l.length) : (mid l i).length = l.length := by
  have := cmpct_len_le (l.take i)
  rw [List.length_take] at this
  unfold mid
  rw [List.length_append, List.length_drop]
  omega
theorem mid_at {l : List α} {i j : Nat} (hj : (cmpct (l.take i)).length ≤ j) (hjl : j < l.length) (h : j < (mid l i).length) : (mid l i)[j] = l[j] := by
  have e : (mid l i)[j]? = l[j]? := by
    unfold mid
    rw [List.getElem?_append_right hj, List.getElem?_drop]
    congr 1
    omega
  rw [List.getElem?_eq_getElem h, List.getElem?_eq_getElem hjl] at e
  exact Option.some.inj e
end
section
variable {α : Type} {f : α → List Value} {sz : Nat}
theorem flat_set (hf : ∀ x, (f x).length = sz) (c : List α) (d : α) (r : List α) (rest : List Value) (x : α) :
    ((c ++ d :: r).flatMap f ++ rest).take (c.length * sz) ++ (f x ++ ((c ++ d :: r).flatMap f ++ rest).drop (c.length * sz + sz)) = (c ++ x :: r).flatMap f ++ rest := by
  have h1 : (c.flatMap f).length = c.length * sz := flat_len hf c
  have e : (c ++ d :: r).flatMap f ++ rest = c.flatMap f ++ (f d ++ (r.flatMap f ++ rest)) := by simp [List.flatMap_append, List.flatMap_cons]
  rw [e, List.take_left' h1, ← List.drop_drop, List.drop_left' h1, List.drop_left' (hf d)]
  simp [List.flatMap_append, List.flatMap_cons]
theorem flat_clear (hf : ∀ x, (f x).length = sz) (c r : List α) (rest zs : List Value) (hz : zs.length = r.length * sz) :
    ((c ++ r).flatMap f ++ rest).take (c.length * sz) ++ (zs ++ ((c ++ r).flatMap f ++ rest).drop (c.length * sz + zs.length)) = c.flatMap f ++ (zs ++ rest) := by
  have h1 : (c.flatMap f).length = c.length * sz := flat_len hf c
  have e : (c ++ r).flatMap f ++ rest = c.flatMap f ++ (r.flatMap f ++ rest) := by simp [List.flatMap_append]
  rw [e, List.take_left' h1, ← List.drop_drop, List.drop_left' h1, List.drop_left' (by rw [flat_len hf, hz])]
theorem zeros_len {z : List Value} (hz : z.length = sz) (n : Nat) : (zerosD z n).length = n * sz := by
  unfold zerosD
  induction n with
  | zero => simp
  | succ n ih => rw [List.replicate_succ, List.flatten_cons, List.length_append, ih, hz, Nat.succ_mul]; omega
theorem zeros_one {z : List Value} (hz : z.all St.one = true) (n : Nat) : (zerosD z n).all St.one = true := by
  unfold zerosD
  rw [List.all_eq_true] at hz ⊢
  intro v hv
  obtain ⟨l, hl, hv⟩ := List.mem_flatten.1 hv
  rw [(List.mem_replicate.1 hl).2] at hv
  exact hz v hv
end
theorem und22 : E0.und 22 = some (.slice 3) := by kernel_rfl
theorem size3 : E0.size 3 = some 1 := by kernel_rfl
theorem inf3 : E0.inf 3 = some DEnv.i3 := by kernel_rfl
theorem zer3 : DEnv.i3.zero = some (.int .i64 0) := by kernel_rfl
theorem bytes3 : DEnv.i3.bytes = 8 := by kernel_rfl
/-- slices.Compact of ints. -/
theorem s26 {S : St} {s : Sl} {l : List Int} {k : Value → St → Prop} (h : GrX encI 1 0 S s l) (hl : l.length ≤ 1000000) (hk : ∀ s' S', GrX encI 1 0 S' s' (cmpct l) → Mod (slO s) S S' → (∀ c, slO s' c → slO s c) → k (.slice s'.a s'.len s'.cap) S') : WC E0 26 [.slice s.a s.len s.cap] S k := by
  refine w26 s ?_
  unfold c26
  have hsl := h.len
  refine ifW_dec (fun hlt => ?_) fun hge => ?_
  · have e : cmpct l = l := by
      match l, hsl with
      | [], _ => rfl
      | [a], _ => rfl
      | a :: b :: r, hsl => simp at hsl; omega
    exact hk s S (by rw [e]; exact h) (Mod.refl _ _) fun _ h => h
  have hl2 : 2 ≤ l.length := by omega
  rcases h with ⟨rfl, rfl⟩ | ⟨b, rest, hb, rfl, hat, hroom⟩
  · simp at hl2
  have hf : ∀ x : Int, (encI x).length = 1 := fun _ => rfl
  dsimp only
  refine loopW_ind (fun q (n1 : Int) S' => ∃ n : Nat, n1 = n ∧ 1 ≤ n ∧ n ≤ l.length ∧ q = l.length - n ∧ S' = S ∧ cmpct (l.take n) = l.take n) (m := l.length - 1) ⟨1, rfl, by omega, by omega, rfl, rfl, by
    match l, hl2 with
    | a :: b :: r, _ => rfl⟩ ?_
  rintro P q n1 S1 ⟨n, rfl, h1, hn, rfl, rfl, hm⟩ hP
  have hSl : SlOf encI 1 S1 ⟨some ⟨b, 0, none⟩, l.length, inex⟩ l := GrX.of hf (N := 0) (.inr ⟨b, rest, hb, rfl, hat, hroom⟩)
  refine ifW_dec (fun hlt => ?_) fun hlt => ?_
  rotate_left
  · have hn' : n = l.length := by omega
    rw [hn', List.take_length] at hm
    exact hk _ S1 (by rw [hm]; exact .inr ⟨b, rest, hb, rfl, hat, hroom⟩) (Mod.refl _ _) fun _ h => h
  have hi : n < l.length := by omega
  have hw : wrapI .i64 ((n : Int) - 1) = ((n - 1 : Nat) : Int) := by rw [wrap_i64 (by omega) (by omega)]; omega
  refine SlOf.int hSl hi ?_
  rw [hw]
  refine SlOf.int hSl (show n - 1 < l.length by omega) ?_
  refine ifW_dec (fun heq => ?_) fun hne => ?_
  rotate_left
  · rw [wrap_succ (by omega)]
    refine hP _ _ _ (by omega) ⟨n + 1, rfl, by omega, by omega, rfl, rfl, ?_⟩
    rw [cmpct_next (by omega) hi, if_neg (fun e => hne e.symm), hm, take_snoc hi]
  -- the first one that stands twice
  have hr := roomD_at (o := 0) hat (by omega)
  have hcl : (l.flatMap encI ++ rest).length = l.length * 1 + rest.length := by rw [List.length_append, flat_len hf]
  have hmx : Nat.max l.length (roomD S1 b 0 1) < inex := by
    show max l.length (roomD S1 b 0 1) < inex
    rw [hr, hcl, Nat.div_one]
    omega
  refine evV_of (ty := tS) ⟨some ⟨b, 0 + n * 1, none⟩, l.length - n, inex⟩ (sliceD_grow (lo := n) (hi := l.length) und22 size3 hat (natOf_int (k := .i64)) rfl (by omega) (Nat.le_max_left _ _) hmx) ?_
  dsimp only
  have hc0 : cmpct (l.take (n + 1)) = l.take n := by rw [cmpct_next (by omega) hi, if_pos heq.symm, hm]
  refine loopW_ind (fun q (x : Int × Int) S' => ∃ j : Nat, x = (((cmpct (l.take (n + j))).length : Int), (j : Int)) ∧ 1 ≤ j ∧ n + j ≤ l.length ∧ q = l.length - (n + j) ∧ (cmpct (l.take (n + j))).length < n + j ∧ At S' b (.cells ((mid l (n + j)).flatMap encI ++ rest) (some 1) false none) ∧ Mod (fun c => c = b) S1 S') (m := l.length - (n + 1))
    ⟨1, by rw [hc0, List.length_take, Nat.min_eq_left (by omega)]; rfl, by omega, by omega, rfl, by rw [hc0, List.length_take]; omega, by
      have e : mid l (n + 1) = l := by unfold mid; rw [hc0, List.length_take, Nat.min_eq_left (by omega), List.take_append_drop]
      rw [e]; exact hat, Mod.refl _ _⟩ ?_
  rintro P2 q2 x2 S2 ⟨j, rfl, hj1, hjl, rfl, hcl2, hat2, hmod⟩ hP2
  dsimp only
  have hml := mid_len (l := l) hjl
  have hSm : SlOf encI 1 S2 ⟨some ⟨b, 0, none⟩, l.length, inex⟩ (mid l (n + j)) := GrX.of hf (N := 0) (.inr ⟨b, rest, hb, by rw [hml], hat2, by rw [hml]; exact hroom⟩)
  refine ifW_dec (fun hlt2 => ?_) fun hlt2 => ?_
  · have hij : n + j < l.length := by omega
    have hpart : SlOf encI 1 S2 ⟨some ⟨b, 0 + n * 1, none⟩, l.length - n, inex⟩ (((mid l (n + j)).drop n).take (l.length - n)) := SlOf.part hf hSm rfl (by omega) (by omega) (fun _ => rfl)
    have hpl : (((mid l (n + j)).drop n).take (l.length - n)).length = l.length - n := by rw [List.length_take, List.length_drop, hml]; omega
    have hgt : ∀ i (hi : i < (((mid l (n + j)).drop n).take (l.length - n)).length) (hil : n + i < l.length), (cmpct (l.take (n + j))).length ≤ n + i → (((mid l (n + j)).drop n).take (l.length - n))[i] = l[n + i] := fun i hi hil hc => by
      rw [List.getElem_take, List.getElem_drop]
      exact mid_at hc hil _
    have hw2 : wrapI .i64 ((j : Int) - 1) = ((j - 1 : Nat) : Int) := by rw [wrap_i64 (by omega) (by omega)]; omega
    have hin : j < (((mid l (n + j)).drop n).take (l.length - n)).length := by rw [hpl]; omega
    have hin1 : j - 1 < (((mid l (n + j)).drop n).take (l.length - n)).length := by rw [hpl]; omega
    refine SlOf.int hpart hin ?_
    rw [hw2]
    refine SlOf.int hpart hin1 ?_
    rw [hgt j hin (by omega) (by omega), hgt (j - 1) hin1 (by omega) (by omega)]
    have hidx : l[n + (j - 1)]'(by omega) = l[n + j - 1]'(by omega) := by congr 1; omega
    rw [hidx]
    have hnext := cmpct_next (l := l) (i := n + j) (by omega) hij
    refine ifW_ndec (fun hb2 => ?_) fun hb2 => ?_
    · refine SlOf.int hpart hin ?_
      rw [hgt j hin (by omega) (by omega)]
      refine ⟨b, 0, rfl, by omega, by show (((cmpct (l.take (n + j))).length : Nat) : Int) < ((l.length : Nat) : Int); omega, ?_⟩
      rw [if_neg (fun e => hb2 e.symm)] at hnext
      have hlen2 : (cmpct (l.take (n + (j + 1)))).length = (cmpct (l.take (n + j))).length + 1 := by rw [← Nat.add_assoc, hnext]; simp
      obtain ⟨d, r, hdr⟩ : ∃ d r, l.drop (cmpct (l.take (n + j))).length = d :: r := ⟨_, _, List.drop_eq_getElem_cons (by omega)⟩
      have hr1 : l.drop ((cmpct (l.take (n + j))).length + 1) = r := by rw [← List.drop_drop, hdr]; rfl
      have hset := flat_set (f := encI) (sz := 1) hf (cmpct (l.take (n + j))) d r rest l[n + j]
      have hmid2 : mid l (n + (j + 1)) = cmpct (l.take (n + j)) ++ l[n + j] :: r := by
        unfold mid
        rw [hlen2, hr1, ← Nat.add_assoc, hnext]
        simp
      have hmid1 : mid l (n + j) = cmpct (l.take (n + j)) ++ d :: r := by unfold mid; rw [hdr]
      rw [← hmid1, ← hmid2] at hset
      have hmlen : (mid l (n + j)).length = l.length := hml
      refine ⟨_, store_cells (n := 1) (v := .int .i64 l[n + j]) hat2 (by kernel_rfl) rfl (by rw [List.length_append, flat_len hf, hmlen, Int.toNat_natCast]; omega) rfl, ?_⟩
      rw [wrap_succ (by omega), wrap_succ (by omega)]
      refine hP2 _ _ _ (by omega) ⟨j + 1, by rw [hlen2], by omega, by omega, rfl, by rw [hlen2]; omega, ?_, hmod.trans upd_mod fun c hc _ => hc⟩
      have := upd_at (o' := .cells ((mid l (n + (j + 1))).flatMap encI ++ rest) (some 1) false none) hat2
      rw [← hset] at this ⊢
      rw [Int.toNat_natCast, Nat.zero_add]
      exact this
    · rw [if_pos hb2.symm] at hnext
      have hlen2 : cmpct (l.take (n + (j + 1))) = cmpct (l.take (n + j)) := by rw [← Nat.add_assoc, hnext]
      have hmid2 : mid l (n + (j + 1)) = mid l (n + j) := by unfold mid; rw [hlen2]
      rw [wrap_succ (by omega)]
      exact hP2 _ _ _ (by omega) ⟨j + 1, by rw [hlen2], by omega, by omega, rfl, by rw [hlen2]; omega, by rw [hmid2]; exact hat2, hmod⟩
  · have hij : n + j = l.length := by omega
    rw [hij, List.take_length] at hcl2 ⊢
    rw [hij] at hat2 hml hSm
    have hmid : mid l l.length = cmpct l ++ l.drop (cmpct l).length := by unfold mid; rw [List.take_length]
    have hr2 := roomD_at (o := 0) hat2 (by omega)
    have hcl3 : ((mid l l.length).flatMap encI ++ rest).length = l.length * 1 + rest.length := by rw [List.length_append, flat_len hf, hml]
    have hmx2 : Nat.max l.length (roomD S2 b 0 1) < inex := by
      show max l.length (roomD S2 b 0 1) < inex
      rw [hr2, hcl3, Nat.div_one]
      omega
    generalize hkk : (cmpct l).length = kk at *
    refine evV_of (ty := tS) ⟨some ⟨b, 0 + kk * 1, none⟩, l.length - kk, inex⟩ (sliceD_grow (lo := kk) (hi := l.length) und22 size3 hat2 (natOf_int (k := .i64)) rfl (by omega) (Nat.le_max_left _ _) hmx2) ?_
    dsimp only
    have hzl : (zerosD (cellsOf (.int .i64 0)) (l.length - kk)).length = (l.length - kk) * 1 := zeros_len rfl _
    have hcle := flat_clear (f := encI) (sz := 1) hf (cmpct l) (l.drop kk) rest (zerosD (cellsOf (.int .i64 0)) (l.length - kk)) (by rw [hzl, List.length_drop])
    rw [hkk, ← hmid] at hcle
    have hb0 : Nat.beq (l.length - kk) 0 = false := Bool.eq_false_iff.2 fun hh => by have := Nat.eq_of_beq_eq_true hh; omega
    have hle : Nat.ble (0 + kk * 1 + (zerosD (cellsOf (.int .i64 0)) (l.length - kk)).length) ((mid l l.length).flatMap encI ++ rest).length = true := Nat.ble_eq_true_of_le (by rw [hzl, hcl3]; omega)
    have hone := zeros_one (z := cellsOf (.int .i64 0)) rfl (l.length - kk)
    have hres : ((mid l l.length).flatMap encI ++ rest).take (0 + kk * 1) ++ (zerosD (cellsOf (.int .i64 0)) (l.length - kk) ++ ((mid l l.length).flatMap encI ++ rest).drop (0 + kk * 1 + (zerosD (cellsOf (.int .i64 0)) (l.length - kk)).length)) = (cmpct l).flatMap encI ++ (zerosD (cellsOf (.int .i64 0)) (l.length - kk) ++ rest) := by
      rw [Nat.zero_add]; exact hcle
    refine ⟨S2.upd b (.cells ((cmpct l).flatMap encI ++ (zerosD (cellsOf (.int .i64 0)) (l.length - kk) ++ rest)) (some 1) false none), ?_, ?_⟩
    · simp only [clearD, und22, inf3, zer3, Option.bind_some, hb0, cond_false, St.storeN, hat2.get, hle, hone, St.fzOk, Bool.not_false, Bool.and_true, cond_true, hres]
    have hat3 := upd_at (o' := .cells ((cmpct l).flatMap encI ++ (zerosD (cellsOf (.int .i64 0)) (l.length - kk) ++ rest)) (some 1) false none) hat2
    have hr3 := roomD_at (o := 0) hat3 (by omega)
    have hcl4 : ((cmpct l).flatMap encI ++ (zerosD (cellsOf (.int .i64 0)) (l.length - kk) ++ rest)).length = l.length * 1 + rest.length := by rw [List.length_append, List.length_append, flat_len hf, hzl, hkk]; omega
    have hmx3 : Nat.max l.length (roomD (S2.upd b (.cells ((cmpct l).flatMap encI ++ (zerosD (cellsOf (.int .i64 0)) (l.length - kk) ++ rest)) (some 1) false none)) b 0 1) < inex := by
      show max l.length _ < inex
      rw [hr3, hcl4, Nat.div_one]
      omega
    refine evV_of (ty := tS) ⟨some ⟨b, 0, none⟩, kk, inex⟩ (sliceD_grow (lo := 0) (hi := kk) und22 size3 hat3 rfl (natOf_int (k := .i64)) (by omega) (Nat.le_trans (by omega) (Nat.le_max_left _ _)) hmx3) ?_
    refine hk ⟨some ⟨b, 0, none⟩, kk, inex⟩ _ (.inr ⟨b, _, hb, by rw [hkk], hat3, ?_⟩) ((hmod.trans upd_mod fun c hc _ => hc).mono fun c hc _ => ⟨0, by rw [hc]⟩) fun c hc => hc
    rw [List.length_append, hzl, hkk]
    omega
abbrev zT : Value := .agg #[.int .i64 0, .int .i64 0, .int .i64 0]
set_option maxHeartbeats 1000000 in
end
end Go.Proofs.Ytcdignblakejoaa

/- Shelves: the document's. -/
namespace Go.Proofs.Ytcdignblakejoaa
open Go Go.Proofs.Ytcdignblakejoaa.D
set_option linter.unusedVariables false
set_option linter.unusedSimpArgs false
noncomputable section

theorem s38 {S : St} {kd n : Int} {sl : Sl} {d : Dt} (hl : sl.len = d.length) {k : Value → St → Prop} (hk : ∀ S', Ext S S' → k (.int .i64 (if recOk (kd, n) d then 0 else 130)) S') : WC E0 38 [sv G41 ((kd, n, sl) : Int × Int × Sl)] S k := by
  refine w38 _ ?_
  unfold c38
  have hL := Hld.start noB S
  refine hL.new fun b1 S1 hL _ _ => ?_
  have bad : ¬ recOk (kd, n) d → k (.int .i64 130) S1 := fun h => by
    have := hk S1 hL.mod
    rwa [if_neg h] at this
  refine ptrW_of ?_
  refine hL.ld 0 rfl (by kernel_rfl) kd rfl ?_
  refine ifW_dec (fun h => bad fun hr => by have := hr.1; dsimp only at this; omega) fun h1 => ?_
  refine ptrW_of ?_
  refine hL.ld 0 rfl (by kernel_rfl) kd rfl ?_
  refine ifW_dec (fun h => bad fun hr => by have := hr.2.1; dsimp only at this; omega) fun h2 => ?_
  refine ptrW_of ?_
  refine hL.ld 0 rfl (by kernel_rfl) n rfl ?_
  refine ifW_dec (fun h => bad fun hr => by have := hr.2.2.1; dsimp only at this; omega) fun h3 => ?_
  refine ptrW_of ?_
  refine hL.ld 0 rfl (by kernel_rfl) n rfl ?_
  refine ifW_dec (fun h => bad fun hr => by have := hr.2.2.2.1; dsimp only at this; omega) fun h4 => ?_
  refine ptrW_of ?_
  refine hL.ld 0 rfl (by kernel_rfl) sl rfl ?_
  refine ifW_dec (fun h => bad fun hr => by have := hr.2.2.2.2; omega) fun h5 => ?_
  have := hk S1 hL.mod
  rwa [if_pos ⟨by dsimp only; omega, by dsimp only; omega, by dsimp only; omega, by dsimp only; omega, by omega⟩] at this
theorem s39 {S : St} {a b : Int × Int × Sl} {k : Value → St → Prop} (hk : ∀ S', Ext S S' → k (.bool (decide (kLt (a.1, a.2.1) (b.1, b.2.1)))) S') : WC E0 39 [sv G41 a, sv G41 b] S k := by
  refine w39 _ _ ?_
  unfold c39
  have hL := Hld.start noB S
  refine hL.new fun b1 S1 hL _ _ => ?_
  refine hL.new fun b2 S2 hL _ _ => ?_
  have fin : ∀ t : Bool, (t = true ↔ kLt (a.1, a.2.1) (b.1, b.2.1)) → k (.bool t) S2 := fun t ht => by
    have := hk S2 hL.mod
    rwa [show decide (kLt (a.1, a.2.1) (b.1, b.2.1)) = t by cases t <;> simp_all] at this
  refine ptrW_of ?_
  refine hL.ld 1 rfl (by kernel_rfl) a.1 rfl ?_
  refine ptrW_of ?_
  refine hL.ld 0 rfl (by kernel_rfl) b.1 rfl ?_
  refine ifW_dec (fun h => fin true ⟨fun _ => .inl h, fun _ => rfl⟩) fun h => ?_
  refine ptrW_of ?_
  refine hL.ld 1 rfl (by kernel_rfl) a.1 rfl ?_
  refine ptrW_of ?_
  refine hL.ld 0 rfl (by kernel_rfl) b.1 rfl ?_
  refine ifW_dec (fun h2 => ?_) fun h2 => ?_
  · refine ptrW_of ?_
    refine hL.ld 1 rfl (by kernel_rfl) a.2.1 rfl ?_
    refine ptrW_of ?_
    refine hL.ld 0 rfl (by kernel_rfl) b.2.1 rfl ?_
    rw [ltI_eq]
    refine fin _ ?_
    rw [decide_eq_true_eq]
    unfold kLt
    dsimp only
    omega
  · refine fin false ⟨(fun h => by cases h), fun hh => ?_⟩
    unfold kLt at hh
    dsimp only at hh
    omega
/-- One more record. -/
theorem putG {N : Nat} {S : St} {s : Sl} {l : List Rc} (h : GrX recC 3 N S s l) (hN : N ≤ S.next) (hlen : l.length ≤ 100000) {r : Rc} {vb : Nat} {more : Option Nat} {ro : Bool} {fz : Option (Nat × Nat)} (hv : At S vb (.cells (recC r) more ro fz)) {k : Sl → St → Prop}
    (hk : ∀ s' S', GrX recC 3 N S' s' (l ++ [r]) → D.Mod (fun c => N ≤ c) S S' → k s' S') : evP tS (appendD E0 S 27 27 (.slice s.a s.len s.cap) (.slice (some ⟨vb, 0, none⟩) 1 1)) k :=
  GrX.append (E := E0) (f := recC) (sz := 3) (N := N) (fun _ => rfl) (by omega) h und27 inf42 und27 (by kernel_rfl) (by kernel_rfl) zero42 rfl (vs := [r]) rfl (firstD_box (f := recC) (sz := 3) (fun _ => rfl) (by omega) hv) (one_rec _) (by rw [bytes42, List.length_singleton]; omega) (by rw [List.length_singleton]; omega) (by simp) (by rw [List.length_singleton]; unfold inex; omega) (fun s' S' h' m ha => hk s' S' h' (m.mono fun c hc _ => hc.1)) hN
theorem ldAgg42 : ldAgg E0 42 3 = true := by kernel_rfl
theorem recsAt_get {S : St} {s : Sl} {l : List Rc} (h : SlOf recC 3 S s l) {n : Nat} (hn : n < l.length) {k : Nat → Nat → Prop}
    (hk : ∀ b o, loadV E0 S 42 (.pointer (some ⟨b, o + (n : Int).toNat * 3, none⟩)) = some (sv G41 (l[n].1, l[n].2.1, l[n].2.2.1)) → loadV E0 S 3 (.pointer (some ⟨b, o + (n : Int).toNat * 3 + 0, none⟩)) = some (.int .i64 l[n].1) → loadV E0 S 3 (.pointer (some ⟨b, o + (n : Int).toNat * 3 + 1, none⟩)) = some (.int .i64 l[n].2.1) →
      loadV E0 S 40 (.pointer (some ⟨b, o + (n : Int).toNat * 3 + 2, none⟩)) = some (.slice l[n].2.2.1.a l[n].2.2.1.len l[n].2.2.1.cap) → k b o) : idxW s.a s.len (n : Int) k := by
  refine h.idxL (f := recC) (sz := 3) (fun _ => rfl) h.len hn fun b o cs m ro fz hat _ hv => hk b o ?_ ?_ ?_ ?_
  · exact load_agg hat (by kernel_rfl) hv rfl
  · exact (load_one hat (by kernel_rfl)).trans ((at_take hv (j := 0) (by omega)).trans rfl)
  · exact (load_one hat (by kernel_rfl)).trans ((at_take hv (j := 1) (by omega)).trans rfl)
  · exact (load_one hat (by kernel_rfl)).trans ((at_take hv (j := 2) (by omega)).trans rfl)
set_option maxHeartbeats 4000000 in
/-- The document's Write. -/
theorem s17 {S : St} {s : Sl} {l : List Rc} (h : RecsD S s l) (hl : l.length ≤ 2000) {kd n : Int} {sl : Sl} {d : Dt} (hd : Dat S sl d) {k : Value → St → Prop}
    (hno : ¬ recOk (kd, n) d → ∀ S', Ext S S' → k (.tuple #[.slice s.a s.len s.cap, .int .i64 130]) S')
    (hyes : recOk (kd, n) d → ∀ s' l' S', Ext S S' → RecsD S' s' l' → l'.map imR = putS (l.map imR) (kd, n) d → k (.tuple #[.slice s'.a s'.len s'.cap, .int .i64 0]) S') :
    WC E0 17 [.slice s.a s.len s.cap, sv G41 ((kd, n, sl) : Int × Int × Sl)] S k := by
  refine w17 s _ ?_
  unfold c17
  have hN := Hld.start noB S
  refine hN.new fun b1 S1 hN hb1 _ => ?_
  refine hN.lda 0 rfl (by kernel_rfl) ((kd, n, sl) : Int × Int × Sl) rfl ?_
  refine evC_of (s38 hd.1.len fun S2 e2 => ⟨_, rfl, ?_⟩)
  have hN := hN.ext e2
  by_cases hr : recOk (kd, n) d
  rotate_left
  · rw [if_neg hr]
    refine ifW_ndec (fun _ => hno hr _ hN.mod) fun h => absurd h (by decide)
  rw [if_pos hr]
  refine ifW_ndec (fun h => absurd rfl h) fun _ => ?_
  refine ptrW_of ?_
  refine hN.ld 0 rfl (by kernel_rfl) sl rfl ?_
  have he2 : Ext S S2 := hN.mod
  have hat1 : At S2 b1 (.cells (recC (kd, n, sl, d)) none false none) := hN.at 0 rfl
  have h2 := h.ext he2
  have hdl : sl.len = d.length := hd.1.len
  have hsl := h.sl.len
  have hlm : (l.map imR).length = l.length := List.length_map _
  refine loopW_ind (fun q (x : Sl × Bool × Int) S' => ∃ (i : Nat) (o : List Rc), x.2.2 = (i : Int) ∧ i ≤ l.length ∧ q = l.length - i ∧ Ext S2 S' ∧ GrX recC 3 S2.next S' x.1 o ∧ o.length ≤ i + (if x.2.1 then 1 else 0) ∧ o.map imR ++ wrA (kd, n) d x.2.1 ((l.map imR).drop i) = putS (l.map imR) (kd, n) d ∧ ∀ r ∈ o, r = (kd, n, sl, d) ∨ r ∈ l) (m := l.length)
    ⟨0, [], rfl, by omega, rfl, Mod.refl _ _, .inl ⟨rfl, rfl⟩, Nat.zero_le _, ?_, by simp⟩ ?_
  · rw [eqI_eq, hdl]
    unfold putS
    rw [show decide (((d.length : Nat) : Int) = 0) = decide (d = []) from decide_eq_decide.2 ⟨fun h => List.length_eq_zero_iff.1 (by omega), fun h => by rw [h]; rfl⟩]
    rfl
  rintro P q ⟨out, done, ni⟩ S3 ⟨i, o, rfl, hi, rfl, e3, hg, hol, heq, hor⟩ hP
  dsimp only at hg heq hol ⊢
  have hol1 : o.length ≤ i + 1 := by split at hol <;> omega
  have hn3 := e3.next
  have stp : ∀ {S' : St} {o' : List Rc} {out' : Sl} {vb : Nat} {r : Rc} {K : Sl → St → Prop}, Ext S2 S' → GrX recC 3 S2.next S' out' o' → o'.length ≤ 90000 → At S' vb (.cells (recC r) none false none) → (∀ s' S'', Ext S2 S'' → GrX recC 3 S2.next S'' s' (o' ++ [r]) → K s' S'') → evP tS (appendD E0 S' 27 27 (.slice out'.a out'.len out'.cap) (.slice (some ⟨vb, 0, none⟩) 1 1)) K :=
    fun {S' o' out' vb r K} e hg hl hv hK => putG hg e.next (by omega) hv fun s' S'' hg' m => hK s' S'' (e.ext m fun c hc => hc) hg'
  refine ifW_dec (fun hlt => ?_) fun hlt => ?_
  rotate_left
  · -- behind them all
    have hi' : i = l.length := by omega
    subst hi'
    have hdr : (l.map imR).drop l.length = [] := List.drop_of_length_le (by rw [hlm]; exact Nat.le_refl _)
    rw [hdr] at heq
    refine join_of (fun (s5 : Sl) S14 => ∃ o5 : List Rc, Ext S2 S14 ∧ GrX recC 3 S2.next S14 s5 o5 ∧ o5.length ≤ l.length + 2 ∧ o5.map imR = putS (l.map imR) (kd, n) d ∧ ∀ r ∈ o5, r = (kd, n, sl, d) ∨ r ∈ l) ?_ ?_
    · rintro s5 S14 ⟨o5, e5, hg5, hl5, heq5, hor5⟩
      have hs5 : s5.len = o5.length := hg5.len
      refine ifW_neg (by omega) ?_
      refine hyes hr s5 o5 S14 (he2.tr e5) ⟨hg5.of fun _ => rfl, fun r hr5 => ?_⟩ heq5
      rcases hor5 r hr5 with rfl | hr5
      · exact hd.ext (he2.tr e5)
      · exact (h.dat r hr5).ext (he2.tr e5)
    · intro k5 hk5
      cases done with
      | true =>
        refine ifW_of (fun h => by cases h) fun _ => hk5 _ _ ⟨o, e3, hg, by omega, ?_, hor⟩
        unfold wrA at heq
        simpa using heq
      | false =>
        refine ifW_of (fun _ => ?_) fun h => by cases h
        refine evV_of (ty := .one (.agg G41)) ((kd, n, sl) : Int × Int × Sl) (load_agg (n := 3) (Ext.at e3 hat1) (by kernel_rfl) rfl rfl) ?_
        refine newW_of fun b23 S15 _ hat15 e15 _ => ?_
        refine stp (r := (kd, n, sl, d)) (e3.tr e15) (GrX.frm' _ _ _ e15.kp (fun _ _ h => h) hg) (by omega) hat15 fun s6 S16 e16 hg16 => hk5 _ _ ⟨o ++ [(kd, n, sl, d)], e16, hg16, by simp; omega, ?_, fun r hr6 => ?_⟩
        · unfold wrA at heq
          rw [List.map_append]
          simpa [imR] using heq
        · rcases List.mem_append.1 hr6 with h | h
          · exact hor r h
          · exact .inl (List.mem_singleton.1 h)
  have hi' : i < l.length := by omega
  have hx : (l.map imR).drop i = imR l[i] :: (l.map imR).drop (i + 1) := by
    rw [List.drop_eq_getElem_cons (by rw [hlm]; exact hi'), List.getElem_map]
  rw [hx] at heq
  have hli : l[i] ∈ l := List.getElem_mem hi'
  generalize hlx : l[i] = x at hx heq hli
  -- behind the first question
  refine join_of (fun (x3 : Sl × Bool) S4 => ∃ o4 : List Rc, Ext S2 S4 ∧ GrX recC 3 S2.next S4 x3.1 o4 ∧ o4.length ≤ i + (if x3.2 then 1 else 0) ∧ (∀ r ∈ o4, r = (kd, n, sl, d) ∨ r ∈ l) ∧
      o4.map imR ++ (if (imR x).1 = (kd, n) then (if x3.2 then wrA (kd, n) d true ((l.map imR).drop (i + 1)) else ((kd, n), d) :: wrA (kd, n) d true ((l.map imR).drop (i + 1))) else imR x :: wrA (kd, n) d x3.2 ((l.map imR).drop (i + 1))) = putS (l.map imR) (kd, n) d) ?_ ?_
  · rintro ⟨out4, done4⟩ S4 ⟨o4, e4, hg4, hl4, hor4, heq4⟩
    dsimp only at hg4 hl4 heq4 ⊢
    have hl41 : o4.length ≤ i + 1 := by split at hl4 <;> omega
    have h4 : SlOf recC 3 S4 s l := e4.slOf h2.sl
    have hat4 := Ext.at e4 hat1
    refine join_of (fun (t1 : Bool) S5 => S5 = S4 ∧ (t1 = true ↔ (imR x).1 = (kd, n))) ?_ ?_
    · rintro t1 S5 ⟨rfl, ht1⟩
      refine ifW_of (fun ht => ?_) fun ht => ?_
      · rw [if_pos (ht1.1 ht)] at heq4
        cases done4 with
        | true =>
          refine ifW_of (fun h => by cases h) fun _ => ?_
          rw [wrap_succ (by omega)]
          exact hP _ _ _ (by omega) ⟨i + 1, o4, rfl, by omega, rfl, e4, hg4, by dsimp only; omega, by simpa using heq4, hor4⟩
        | false =>
          refine ifW_of (fun _ => ?_) fun h => by cases h
          refine evV_of (ty := .one (.agg G41)) ((kd, n, sl) : Int × Int × Sl) (load_agg (n := 3) hat4 (by kernel_rfl) rfl rfl) ?_
          refine newW_of fun b4 S6 _ hat6 e6 _ => ?_
          refine stp (r := (kd, n, sl, d)) (e4.tr e6) (GrX.frm' _ _ _ e6.kp (fun _ _ h => h) hg4) (by omega) hat6 fun s7 S7 e7 hg7 => ?_
          rw [wrap_succ (by omega)]
          refine hP _ _ _ (by omega) ⟨i + 1, o4 ++ [(kd, n, sl, d)], rfl, by omega, rfl, e7, hg7, by simp; omega, ?_, fun r hr6 => ?_⟩
          · rw [List.map_append]
            simpa [imR] using heq4
          · rcases List.mem_append.1 hr6 with h | h
            · exact hor4 r h
            · exact .inl (List.mem_singleton.1 h)
      · have hne : ¬ (imR x).1 = (kd, n) := fun e => by rw [ht1.2 e] at ht; cases ht
        rw [if_neg hne] at heq4
        refine recsAt_get h4 hi' fun b5 b6 g1 _ _ _ => ?_
        rw [hlx] at g1
        refine evV_of (ty := .one (.agg G41)) ((x.1, x.2.1, x.2.2.1) : Int × Int × Sl) g1 ?_
        refine newW_of fun b7 S8 _ hat8 e8 _ => ?_
        refine stp (r := x) (e4.tr e8) (GrX.frm' _ _ _ e8.kp (fun _ _ h => h) hg4) (by omega) hat8 fun s9 S9 e9 hg9 => ?_
        rw [wrap_succ (by omega)]
        refine hP _ _ _ (by omega) ⟨i + 1, o4 ++ [x], rfl, by omega, rfl, e9, hg9, by simp; split at hl4 <;> simp_all <;> omega, ?_, fun r hr6 => ?_⟩
        · rw [List.map_append]
          simpa using heq4
        · rcases List.mem_append.1 hr6 with h | h
          · exact hor4 r h
          · exact .inr (by rw [List.mem_singleton.1 h]; exact hli)
    · intro k2 hk2
      refine recsAt_get h4 hi' fun b8 b9 _ g2 _ _ => ?_
      rw [hlx] at g2
      refine ptrW_of ?_
      refine evV_of (ty := tI) x.1 g2 ?_
      refine ptrW_of ?_
      refine evV_of (ty := tI) kd (load_one hat4 (by kernel_rfl)) ?_
      refine ifW_dec (fun he => ?_) fun he => ?_
      · refine recsAt_get h4 hi' fun b14 b15 _ _ g3 _ => ?_
        rw [hlx] at g3
        refine ptrW_of ?_
        refine evV_of (ty := tI) x.2.1 g3 ?_
        refine ptrW_of ?_
        refine evV_of (ty := tI) n (load_one hat4 (by kernel_rfl)) ?_
        rw [eqI_eq]
        refine hk2 _ _ ⟨rfl, ?_⟩
        rw [decide_eq_true_eq]
        unfold imR
        rw [Prod.mk.injEq]
        exact ⟨fun h => ⟨he, h⟩, fun h => h.2⟩
      · refine hk2 _ _ ⟨rfl, (fun h => by cases h), fun hh => ?_⟩
        exact (he (congrArg Prod.fst hh)).elim
  · intro k3 hk3
    refine join_of (fun (t2 : Bool) S10 => Ext S2 S10 ∧ GrX recC 3 S2.next S10 out o ∧ (t2 = true ↔ done = false ∧ kLt (kd, n) (imR x).1)) ?_ ?_
    · rintro t2 S10 ⟨e10, hg10, ht2⟩
      unfold wrA at heq
      refine ifW_of (fun ht => ?_) fun ht => ?_
      · have hc := ht2.1 ht
        rw [if_pos hc] at heq
        refine evV_of (ty := .one (.agg G41)) ((kd, n, sl) : Int × Int × Sl) (load_agg (n := 3) (Ext.at e10 hat1) (by kernel_rfl) rfl rfl) ?_
        refine newW_of fun b20 S11 _ hat11 e11 _ => ?_
        refine stp (r := (kd, n, sl, d)) (e10.tr e11) (GrX.frm' _ _ _ e11.kp (fun _ _ h => h) hg10) (by omega) hat11 fun s12 S12 e12 hg12 => ?_
        refine hk3 _ _ ⟨o ++ [(kd, n, sl, d)], e12, hg12, by rw [hc.1] at hol; simpa using hol, fun r hr6 => ?_, ?_⟩
        · rcases List.mem_append.1 hr6 with h | h
          · exact hor r h
          · exact .inl (List.mem_singleton.1 h)
        · dsimp only
          rw [if_neg (fun e => kLt_ne hc.2 e.symm), List.map_append]
          simpa [imR] using heq
      · have hc : ¬ (done = false ∧ kLt (kd, n) (imR x).1) := fun hh => by rw [ht2.2 hh] at ht; cases ht
        rw [if_neg hc] at heq
        exact hk3 _ _ ⟨o, e10, hg10, hol, hor, heq⟩
    · intro k4 hk4
      cases done with
      | true => exact ifW_of (fun h => by cases h) fun _ => hk4 _ _ ⟨e3, hg, (fun h => by cases h), fun h => by cases h.1⟩
      | false =>
        refine ifW_of (fun _ => ?_) fun h => by cases h
        refine evV_of (ty := .one (.agg G41)) ((kd, n, sl) : Int × Int × Sl) (load_agg (n := 3) (Ext.at e3 hat1) (by kernel_rfl) rfl rfl) ?_
        refine recsAt_get (e3.slOf h2.sl) hi' fun b21 b22 g1 _ _ _ => ?_
        rw [hlx] at g1
        refine evV_of (ty := .one (.agg G41)) ((x.1, x.2.1, x.2.2.1) : Int × Int × Sl) g1 ?_
        refine evC_of (s39 fun S13 e13 => ⟨_, rfl, ?_⟩)
        refine hk4 _ _ ⟨e3.tr e13, GrX.frm' _ _ _ e13.kp (fun _ _ h => h) hg, ?_⟩
        rw [decide_eq_true_eq]
        exact ⟨fun h => ⟨rfl, h⟩, fun h => h.2⟩
end
end Go.Proofs.Ytcdignblakejoaa

/- Shelves: the document's bytes. -/
namespace Go.Proofs.Ytcdignblakejoaa
open Go Go.Proofs.Ytcdignblakejoaa.D
set_option linter.unusedVariables false
set_option linter.unusedSimpArgs false
noncomputable section

theorem wrap8 (n : Int) : 0 ≤ wrapI .u8 n ∧ wrapI .u8 n < 256 := by
  rw [wrapI_eq]
  unfold wrapD
  cases h : inRange .u8 n with
  | true =>
    simp only [inRange, Bool.and_eq_true, decide_eq_true_eq] at h
    exact h
  | false =>
    simp only [cond_false, IntKind.wrap, IntKind.signed, IntKind.bits, Bool.false_and]
    constructor
    · rw [if_neg (by simp)]; omega
    · rw [if_neg (by simp)]; omega
/-- A number's last byte. -/
def byW (n : Int) : UInt8 := UInt8.ofNat (wrapI .u8 n).toNat
theorem byW_v (n : Int) : byV (byW n) = .int .u8 (wrapI .u8 n) := by
  have := wrap8 n
  show Value.int .u8 ((UInt8.ofNat (wrapI .u8 n).toNat).toNat : Int) = _
  rw [ofNat_toNat (by omega), Int.toNat_of_nonneg (by omega)]
def encW (x : Im) : List UInt8 := [byW x.1.1, byW (wrapI .i64 (Int.tdiv x.1.2 256)), byW (Int.tmod x.1.2 256), byW (wrapI .i64 (Int.tdiv (x.2.length : Int) 256)), byW (Int.tmod (x.2.length : Int) 256)] ++ x.2
theorem encW_len (x : Im) : (encW x).length = 5 + x.2.length := by unfold encW; simp; omega
theorem enc_len (L : List Im) (B : Nat) (h : ∀ x ∈ L, x.2.length ≤ B) : (L.flatMap encW).length ≤ L.length * (5 + B) := by
  induction L with
  | nil => simp
  | cons x t ih =>
    have h1 := h x (by simp)
    have h2 := ih fun y hy => h y (by simp [hy])
    rw [List.flatMap_cons, List.length_append, encW_len, List.length_cons, Nat.add_mul]
    omega
theorem und40' : E0.und 40 = some (.slice 5) := und40
/-- Bytes of records. -/
theorem s21 {S : St} {s : Sl} {l : List Rc} (h : RecsD S s l) (hl : l.length ≤ 2000) (hd : ∀ r ∈ l, r.2.2.2.length ≤ 2000) (hne : ∀ r ∈ l, r.2.2.2 ≠ []) {k : Value → St → Prop}
    (hk : ∀ s' S', Ext S S' → GB S' s' ((l.map imR).flatMap encW) → k (.slice s'.a s'.len s'.cap) S') : WC E0 21 [.slice s.a s.len s.cap] S k := by
  refine w21 s ?_
  unfold c21
  have hsl := h.sl.len
  refine loopW_ind (fun q (x : Sl × Int) S' => ∃ i : Nat, x.2 = (i : Int) ∧ i ≤ l.length ∧ q = l.length - i ∧ Ext S S' ∧ GB S' x.1 (((l.map imR).take i).flatMap encW) ∧ ∀ c, slO x.1 c → S.next ≤ c) (m := l.length) ⟨0, rfl, by omega, rfl, Mod.refl _ _, GB.nil, fun c hc => by obtain ⟨o, hc⟩ := hc; cases hc⟩ ?_
  rintro P q ⟨out, ni⟩ S1 ⟨i, rfl, hi, rfl, e1, hg, hown⟩ hP
  dsimp only at hg hown ⊢
  refine ifW_dec (fun hlt => ?_) fun hlt => ?_
  rotate_left
  · have : i = l.length := by omega
    subst this
    rw [List.take_of_length_le (by simp)] at hg
    exact hk out S1 e1 hg
  have hi' : i < l.length := by omega
  have h1 : SlOf recC 3 S1 s l := e1.slOf h.sl
  have hbound : (((l.map imR).take i).flatMap encW).length ≤ 2000 * 2005 := by
    refine Nat.le_trans (enc_len _ 2000 fun x hx => ?_) ?_
    · obtain ⟨r, hr, rfl⟩ := List.mem_map.1 (List.mem_of_mem_take hx)
      exact hd r hr
    · rw [List.length_take, List.length_map]
      exact Nat.mul_le_mul (by omega) (by omega)
  have hmem := List.getElem_mem hi'
  have hdi := hd _ hmem
  have hnei := hne _ hmem
  have hdt := (h.dat _ hmem).ext e1
  have htk : (l.map imR).take (i + 1) = (l.map imR).take i ++ [imR l[i]] := by
    rw [List.take_succ_eq_append_getElem (by rw [List.length_map]; exact hi'), List.getElem_map]
  refine recsAt_get h1 hi' fun b1 b2 _ _ _ g4 => ?_
  refine ptrW_of ?_
  refine evV_of (ty := tS) l[i].2.2.1 g4 ?_
  refine recsAt_get h1 hi' fun b3 b4 _ g2 _ _ => ?_
  refine ptrW_of ?_
  refine evV_of (ty := tI) l[i].1 g2 ?_
  refine recsAt_get h1 hi' fun b5 b6 _ _ g3 _ => ?_
  refine ptrW_of ?_
  refine evV_of (ty := tI) l[i].2.1 g3 ?_
  refine ⟨rfl, ?_⟩
  refine recsAt_get h1 hi' fun b7 b8 _ _ g3' _ => ?_
  refine ptrW_of ?_
  refine evV_of (ty := tI) l[i].2.1 g3' ?_
  refine ⟨rfl, ⟨rfl, ⟨rfl, ?_⟩⟩⟩
  have hll : l[i].2.2.1.len = l[i].2.2.2.length := hdt.1.len
  rw [hll]
  generalize hx : l[i] = x at htk hdi hnei hdt hll
  refine newW_of fun b17 S2 _ hat2 e2 _ => ?_
  have hg2 : GB S2 out _ := hg.ext e2
  obtain ⟨v5, hv5⟩ : ∃ v5 : List UInt8, v5 = [byW x.1, byW (wrapI .i64 (Int.tdiv x.2.1 256)), byW (Int.tmod x.2.1 256), byW (wrapI .i64 (Int.tdiv (x.2.2.2.length : Int) 256)), byW (Int.tmod (x.2.2.2.length : Int) 256)] := ⟨_, rfl⟩
  have hl5 : v5.length = 5 := by rw [hv5]; rfl
  have hv : At S2 b17 (.cells (v5.map byV) none false none) := by
    rw [hv5]
    simp only [List.map_cons, List.map_nil, byW_v]
    exact hat2
  have hfirst : firstD S2 1 v5.length (.slice (some ⟨b17, 0, none⟩) 5 5) = some (v5.map byV) := by
    have hs : SlOf byC 1 S2 ⟨some ⟨b17, 0, none⟩, 5, 5⟩ v5 := ⟨hl5.symm, fun _ => ⟨b17, 0, _, _, _, _, rfl, hv, by rw [List.drop_zero, List.take_of_length_le (by simp), flat_by]⟩⟩
    have := SlOf.first (f := byC) (sz := 1) (x := ⟨some ⟨b17, 0, none⟩, 5, 5⟩) (fun _ => rfl) hs (fun a h => by cases h; rfl)
    rw [flat_by] at this
    exact this
  refine hg2.append und40 rfl (by rw [hl5]; rfl) hfirst (fun e => by rw [e] at hl5; cases hl5) (by omega) fun s2 S3 hg3 m3 hs2 => ?_
  have e3 : Ext S S3 := (e1.tr e2).ext m3 fun c hc => hown c hc
  have hown2 : ∀ c, slO s2 c → S.next ≤ c := fun c hc => by
    rcases hs2 c hc with h | h
    · exact hown c h
    · have := (e1.tr e2).next; omega
  refine recsAt_get (e3.slOf h.sl) hi' fun b18 b19 _ _ _ g5 => ?_
  refine ptrW_of ?_
  rw [hx] at g5
  refine evV_of (ty := tS) x.2.2.1 g5 ?_
  have hdt3 : Dat S3 x.2.2.1 x.2.2.2 := by
    have := (h.dat _ hmem).ext e3
    rw [hx] at this
    exact this
  have hf3 := SlOf.first (f := byC) (sz := 1) (x := x.2.2.1) (fun _ => rfl) hdt3.1 hdt3.spot
  rw [flat_by] at hf3
  refine hg3.append und40 rfl (by rw [← hll]; rfl) hf3 hnei (by rw [List.length_append]; omega) fun s4 S4 hg4 m4 hs4 => ?_
  rw [wrap_succ (by omega)]
  refine hP _ _ _ (by omega) ⟨i + 1, rfl, by omega, rfl, e3.ext m4 fun c hc => hown2 c hc, ?_, fun c hc => ?_⟩
  · rw [htk, List.flatMap_append]
    have : [imR x].flatMap encW = v5 ++ x.2.2.2 := by
      rw [hv5]
      simp [encW, imR]
    rw [this, ← List.append_assoc]
    exact hg4
  · rcases hs4 c hc with h | h
    · exact hown2 c h
    · have := e3.next; omega
theorem conv_gb {S : St} {s : Sl} {d : Dt} (h : GB S s d) : convertD E0 S 40 9 (.slice s.a s.len s.cap) = some (strV d, S) := by
  rcases h with ⟨rfl, rfl⟩ | ⟨b, mk, hmk, rfl, hat⟩
  · simp only [convertD, und40, und9, und5]
  · by_cases hd : d = []
    · subst hd
      have : Nat.beq (List.length ([] : List UInt8)) 0 = true := rfl
      simp only [convertD, und40, und9, und5, this, cond_true]
    · refine conv_str (loadN_of hat ?_ (by simp)) hd
      rw [List.drop_zero, List.take_of_length_le (by simp)]
/-- Two lists of the same records are the same. -/
theorem s7 {S : St} {a b : Sl} {l l' : List Rc} (ha : RecsD S a l) (hb : RecsD S b l') (he : l.map imR = l'.map imR) (hl : l.length ≤ 2000) (hd : ∀ r ∈ l, r.2.2.2.length ≤ 2000) (hne : ∀ r ∈ l, r.2.2.2 ≠ []) {k : Value → St → Prop}
    (hk : ∀ S', Ext S S' → k (.bool true) S') : WC E0 7 [.slice a.a a.len a.cap, .slice b.a b.len b.cap] S k := by
  have hll : l'.length = l.length := by have := congrArg List.length he; simpa using this.symm
  have hm : ∀ r ∈ l', ∃ q ∈ l, q.2.2.2 = r.2.2.2 := fun r hr => by
    have : imR r ∈ l.map imR := by rw [he]; exact List.mem_map.2 ⟨r, hr, rfl⟩
    obtain ⟨q, hq, e⟩ := List.mem_map.1 this
    exact ⟨q, hq, congrArg (fun x : Im => x.2) e⟩
  refine w7 a b ?_
  unfold c7
  have h1 := ha.sl.len
  have h2 := hb.sl.len
  refine ifW_pos (by omega) ?_
  refine evC_of (s21 ha hl hd hne fun s1 S1 e1 hg1 => ⟨s1, rfl, ?_⟩)
  refine ⟨_, S1, conv_gb hg1, ?_⟩
  refine evC_of (s21 (hb.ext e1) (by omega) (fun r hr => by obtain ⟨q, hq, e⟩ := hm r hr; rw [← e]; exact hd q hq) (fun r hr => by obtain ⟨q, hq, e⟩ := hm r hr; rw [← e]; exact hne q hq) fun s2 S2 e2 hg2 => ⟨s2, rfl, ?_⟩)
  refine ⟨_, S2, conv_gb (hg1.ext e2), ?_⟩
  refine sameV_of ?_
  rw [← he] at hg2
  refine ⟨_, S2, conv_gb hg2, ?_⟩
  show k (.bool (_ == _)) S2
  rw [beq_self_eq_true]
  exact hk S2 (e1.tr e2)
end
end Go.Proofs.Ytcdignblakejoaa
