/- Parts of the proof, put together. -/
import Derived.Test.YtgdijpcopdgapaaDoorTA
import Derived.Test.YtgdijpcopdgapaaDoorCB
/- Tally: numbers out of bytes. -/
namespace Go.Proofs.YtgdijpcopdgapaaDoor
open Go Go.Proofs.YtgdijpcopdgapaaDoor.D
set_option linter.unusedVariables false
set_option linter.unusedSimpArgs false
noncomputable section

/-- The number of bytes, the highest first. -/
def vlA (v : Nat) (l : List UInt8) : Nat := l.foldl (fun v c => v * 256 + c.toNat) v
def vl (l : List UInt8) : Nat := vlA 0 l
theorem vlA_snoc (v : Nat) (l : List UInt8) (c : UInt8) : vlA v (l ++ [c]) = vlA v l * 256 + c.toNat := by simp [vlA, List.foldl_append]
theorem vl_snoc (l : List UInt8) (c : UInt8) : vl (l ++ [c]) = vl l * 256 + c.toNat := vlA_snoc 0 l c
theorem vl_lt : ∀ (n : Nat) (l : List UInt8), l.length = n → vl l < 256 ^ n := by
  intro n
  induction n with
  | zero => intro l h; rw [List.length_eq_zero_iff.1 h]; decide
  | succ n ih =>
    intro l h
    rcases List.eq_nil_or_concat l with rfl | ⟨t, c, rfl⟩
    · simp at h
    rw [List.concat_eq_append] at h ⊢
    have := ih t (by simpa using h)
    rw [vl_snoc, Nat.pow_succ]
    have hc := c.toNat_lt
    omega
theorem or_u64 {a b : Nat} (ha : a < 72057594037927936) (hb : b < 256) : orI .u64 ((a * 256 : Nat) : Int) (b : Int) = ((a * 256 + b : Nat) : Int) := by
  have h1 : (BitVec.ofInt 64 ((a * 256 : Nat) : Int) ||| BitVec.ofInt 64 (b : Int)).toNat = a * 256 + b := by
    rw [BitVec.toNat_or, BitVec.ofInt_natCast, BitVec.ofInt_natCast, BitVec.toNat_ofNat, BitVec.toNat_ofNat, Nat.mod_eq_of_lt (by omega), Nat.mod_eq_of_lt (by omega)]
    have := Nat.two_pow_add_eq_or_of_lt (i := 8) hb a
    rw [show 2 ^ 8 * a = a * 256 from by omega] at this
    exact this.symm
  show IntKind.u64.wrap ((BitVec.ofInt 64 ((a * 256 : Nat) : Int) ||| BitVec.ofInt 64 (b : Int)).toNat : Int) = _
  rw [h1]
  simp only [IntKind.wrap, IntKind.signed, IntKind.bits, Bool.false_and]
  rw [if_neg (by simp)]
  omega
theorem step_u64 {a : Nat} {c : UInt8} (ha : a < 72057594037927936) : orI .u64 (wrapI .u64 ((a : Int) * ((2 : Int) ^ min (Int.toNat 8) 64))) (wrapI .u64 (c.toNat : Int)) = ((a * 256 + c.toNat : Nat) : Int) := by
  have e : ((2 : Int) ^ min (Int.toNat 8) 64) = 256 := by decide
  have hc := c.toNat_lt
  rw [e, wrap_u64 (by omega) (by omega), wrap_u64 (by omega) (by omega)]
  have := or_u64 (a := a) (b := c.toNat) ha (by omega)
  rw [show ((a * 256 : Nat) : Int) = (a : Int) * 256 from by omega] at this
  exact this
/-- What is left of bytes that grew. -/
def Lf (S : St) (s : Sl) (L : List UInt8) : Prop :=
  (s = ⟨none, 0, 0⟩ ∧ L = []) ∨ ∃ (b mk o : Nat) (Q : List UInt8), (mk = 1 ∨ mk = 5 + TB) ∧ s = ⟨some ⟨b, o, none⟩, L.length, inex⟩ ∧ At S b (.cells (Q.map byV) (some mk) false none) ∧ Q.drop o = L ∧ o ≤ Q.length ∧ Q.length < 100000
theorem Lf.len {S : St} {s : Sl} {L : List UInt8} (h : Lf S s L) : s.len = L.length := by
  rcases h with ⟨rfl, rfl⟩ | ⟨b, mk, o, Q, _, rfl, _⟩ <;> rfl
theorem GB.lf {S : St} {s : Sl} {L : List UInt8} (h : GB S s L) (hl : L.length < 100000) : Lf S s L := by
  rcases h with ⟨rfl, rfl⟩ | ⟨b, mk, hm, rfl, hat⟩
  · exact .inl ⟨rfl, rfl⟩
  · exact .inr ⟨b, mk, 0, L, hm, rfl, hat, by simp, by omega, hl⟩
def tkR (n : Nat) : Option (List UInt8) → Option (List UInt8)
  | some L => if n ≤ L.length then some (L.drop n) else none
  | none => none
def tvR (n : Nat) : Option (List UInt8) → Nat
  | some L => if n ≤ L.length then vl (L.take n) else 0
  | none => 0
theorem set_same {α : Type} {l : List α} {i j : Nat} {x y : α} (hj : l[j]? = some y) (hij : i ≠ j) : (l.set i x).set j y = l.set i x := by
  apply List.ext_getElem?
  intro n
  rw [List.getElem?_set]
  split
  · rename_i h
    subst h
    rw [List.getElem?_set_ne hij, hj]
    split
    · rfl
    · rename_i h
      rw [List.length_set] at h
      rw [List.getElem?_eq_none (by omega)] at hj
      cases hj
  · rfl
theorem Lf.at {S : St} {s : Sl} {L : List UInt8} (h : Lf S s L) {n : Nat} (hn : n ≤ L.length) (h1 : 1 ≤ n) :
    ∃ (b mk o : Nat) (Q : List UInt8), (mk = 1 ∨ mk = 5 + TB) ∧ s = ⟨some ⟨b, o, none⟩, L.length, inex⟩ ∧ At S b (.cells (Q.map byV) (some mk) false none) ∧ Q.drop o = L ∧ o ≤ Q.length ∧ Q.length < 100000 := by
  rcases h with ⟨_, rfl⟩ | h
  · simp at hn; omega
  · exact h
theorem s27 {W : Nat → Prop} {S0 S : St} {Lb : List (Nat × DObj)} {O : Nat → Prop} {P : St → Prop} (hL : Cx W S0 S Lb O P) (i j : Nat) {c1 c2 : Nat} {r : Option (List UInt8)} {s : Sl}
    (hi : Lb[i]? = some (c1, .cells [.bool r.isSome] none false none)) (hj : Lb[j]? = some (c2, .cells [.slice s.a s.len s.cap] none false none)) (hij : i ≠ j) {P0 : St → Prop} (hP0 : ∀ S', P S' → P0 S') (hlf : ∀ L, r = some L → ∀ S', P0 S' → Lf S' s L)
    {n : Nat} (h1 : 1 ≤ n) (h8 : n ≤ 8) {k : Value → St → Prop}
    (hk : ∀ s' S', Cx W S0 S' ((Lb.set i (c1, .cells [.bool (tkR n r).isSome] none false none)).set j (c2, .cells [.slice s'.a s'.len s'.cap] none false none)) O P → (∀ L, tkR n r = some L → ∀ S', P0 S' → Lf S' s' L) → k (.int .u64 (tvR n r : Nat)) S') :
    WC E0 27 [.int .i64 (n : Int), .pointer (some ⟨c1, 0, none⟩), .pointer (some ⟨c2, 0, none⟩)] S k := by
  refine w27 (n : Int) c1 c2 ?_
  unfold c27
  refine hL.ld i hi (by kernel_rfl) r.isSome rfl ?_
  have hset : ∀ x, (Lb.set i (c1, x))[i]? = some (c1, x) := fun x => by
    have : i < Lb.length := by
      rcases Nat.lt_or_ge i Lb.length with h | h
      · exact h
      · rw [List.getElem?_eq_none h] at hi; cases hi
    rw [List.getElem?_set_self this]
  have hsetj : ∀ x, (Lb.set i (c1, x))[j]? = some (c2, .cells [.slice s.a s.len s.cap] none false none) := fun x => by rw [List.getElem?_set_ne hij, hj]
  cases r with
  | none =>
    refine ifW_of (fun h => by cases h) fun _ => ?_
    refine hL.st i 1 hi (by kernel_rfl) rfl (Nat.le_of_ble_eq_true rfl) rfl rfl fun S1 hL _ => ?_
    refine hL.ld i (hset _) (by kernel_rfl) false rfl ?_
    refine ifW_of (fun _ => ?_) fun h => by cases h
    refine hk s S1 ?_ fun L h => by cases h
    rw [set_same hj hij]
    exact hL
  | some L =>
    have hl := (hlf L rfl S (hP0 _ hL.p)).len
    refine ifW_of (fun _ => ?_) fun h => by cases h
    refine hL.ld j hj (by kernel_rfl) s rfl ?_
    have hle : leI (n : Int) (s.len : Int) = decide (n ≤ L.length) := by rw [leI_eq, hl]; simp
    rw [hle]
    refine hL.st i 1 hi (by kernel_rfl) rfl (Nat.le_of_ble_eq_true rfl) rfl rfl fun S1 hL _ => ?_
    refine hL.ld i (hset _) (by kernel_rfl) (decide (n ≤ L.length)) rfl ?_
    by_cases hn : n ≤ L.length
    · have hd : decide (n ≤ L.length) = true := decide_eq_true hn
      rw [hd] at hL ⊢
      refine ifW_of (fun h => by cases h) fun _ => ?_
      refine hL.ld j (hsetj _) (by kernel_rfl) s rfl ?_
      obtain ⟨b, mk, o, Q, hm, rfl, hat, hQ, ho, hQl⟩ := (hlf L rfl S1 (hP0 _ hL.p)).at hn h1
      have hLQ : L.length = Q.length - o := by rw [← hQ, List.length_drop]
      refine evV_of (ty := tS) ⟨some ⟨b, o + 0 * 1, none⟩, n - 0, inex⟩ (slice_by hm hat (by show L.length ≤ _; omega) (by omega) rfl (natOf_int (k := .i64)) (by omega) hn) ?_
      have hpart : Bs S1 ⟨some ⟨b, o + 0 * 1, none⟩, n - 0, inex⟩ (L.take n) := by
        refine ⟨by rw [List.length_take]; show n - 0 = _; omega, fun _ => ⟨b, o, _, _, _, _, by simp, hat, ?_⟩⟩
        rw [flat_by, ← List.map_drop, ← hQ, List.length_take, List.length_drop, ← List.map_take]
        congr 1
        rw [Nat.mul_one, Nat.min_eq_left (by omega)]
      have htl : (L.take n).length = n := by rw [List.length_take]; omega
      refine loopW_ind (fun q (x1 : Int × Int) S' => ∃ m : Nat, x1 = (((vl ((L.take n).take m) : Nat) : Int), (m : Int)) ∧ m ≤ n ∧ q = n - m ∧ S' = S1) (m := n) ⟨0, rfl, by omega, rfl, rfl⟩ ?_
      rintro Pk q x1 S2 ⟨m, rfl, hmn, rfl, rfl⟩ hP
      dsimp only
      refine ifW_dec (fun hlt => ?_) fun hlt => ?_
      · have hm' : m < (L.take n).length := by rw [htl]; simp at hlt; omega
        refine hpart.get1n (n := m) (g := byV) inf5 agg5 hm' fun b3 o3 hld _ => evV_of _ (hld _ rfl) ⟨rfl, ?_⟩
        have hv := vl_lt m ((L.take n).take m) (by rw [List.length_take]; omega)
        have h7 : 256 ^ m ≤ 256 ^ 7 := Nat.pow_le_pow_right (by omega) (by omega)
        rw [step_u64 (Nat.lt_of_lt_of_le hv h7), wrap_succ (by omega), ← vl_snoc, ← List.take_succ_eq_append_getElem hm']
        exact hP _ _ _ (by omega) ⟨m + 1, rfl, by omega, rfl, rfl⟩
      · have hmn' : m = n := by simp at hlt; omega
        subst hmn'
        refine hL.ld j (hsetj _) (by kernel_rfl) (⟨some ⟨b, o, none⟩, L.length, inex⟩ : Sl) rfl ?_
        refine evV_of (ty := tS) ⟨some ⟨b, o + m * 1, none⟩, L.length - m, inex⟩ (slice_by hm hat (by show L.length ≤ _; omega) (by omega) (natOf_int (k := .i64)) rfl hn (Nat.le_refl _)) ?_
        refine hL.st j 1 (hsetj _) (by kernel_rfl) rfl (Nat.le_of_ble_eq_true rfl) rfl rfl fun S3 hL _ => ?_
        have e1 : tkR m (some L) = some (L.drop m) := if_pos hn
        have e2 : tvR m (some L) = vl (L.take m) := if_pos hn
        have hk := hk ⟨some ⟨b, o + m * 1, none⟩, L.length - m, inex⟩ S3
        rw [e1, e2] at hk
        rw [List.take_of_length_le (by omega)]
        refine hk hL fun L' hL' S' hp => ?_
        cases hL'
        rcases hlf L rfl S' hp with ⟨h, _⟩ | ⟨b', mk', o', Q', hm', h, hat', hQ', ho', hQl'⟩
        · cases h
        · cases h
          exact .inr ⟨b, mk', o + m * 1, Q', hm', by rw [List.length_drop], hat', by rw [← hQ', List.drop_drop, Nat.mul_one], by rw [← hQ', List.length_drop] at hn; omega, hQl'⟩
    · have hd : decide (n ≤ L.length) = false := decide_eq_false hn
      rw [hd] at hL ⊢
      refine ifW_of (fun _ => ?_) fun h => by cases h
      have e1 : tkR n (some L) = none := if_neg hn
      have e2 : tvR n (some L) = 0 := if_neg hn
      have hk := hk s S1
      rw [e1, e2, set_same hj hij] at hk
      exact hk hL fun L' h => by cases h
end
end Go.Proofs.YtgdijpcopdgapaaDoor

/- Tally: the fields of a kind. -/
namespace Go.Proofs.YtgdijpcopdgapaaDoor
open Go Go.Proofs.YtgdijpcopdgapaaDoor.D
set_option linter.unusedVariables false
set_option linter.unusedSimpArgs false
noncomputable section

/-- The fields of each kind, in order: 1 Cell, 2 Gen, 3 Stamp, 4 Prio, 5 Hops, 6 Origin, 7 Other, 8 Claims. -/
def fldT : List (List Int) := [[1, 3, 4], [1, 2, 3], [1, 2], [], [1, 3, 7], [1, 6, 7, 4, 5], [6, 7], [1, 4], [], [1, 2], [8]]
def fldK (k : Int) : List Int := fldT.getD (k.toNat - 1) []
abbrev tupL (x : Int × Int × Int × Int × Int) : List Int := [x.1, x.2.1, x.2.2.1, x.2.2.2.1, x.2.2.2.2]
theorem kind_case {k : Int} (h1 : 1 ≤ k) (h2 : k ≤ 11) : k = 1 ∨ k = 2 ∨ k = 3 ∨ k = 4 ∨ k = 5 ∨ k = 6 ∨ k = 7 ∨ k = 8 ∨ k = 9 ∨ k = 10 ∨ k = 11 := by omega
theorem kind_row {k : Int} (h1 : 1 ≤ k) (h2 : k ≤ 11) : ∃ x : Int × Int × Int × Int × Int, ((kindW.flatMap kindV).drop (0 + Int.toNat (k - 1) * 6 + 1)).take 5 = [.int .i64 x.1, .int .i64 x.2.1, .int .i64 x.2.2.1, .int .i64 x.2.2.2.1, .int .i64 x.2.2.2.2] ∧
    (∀ i (h : i < (fldK k).length), i < 5 ∧ (tupL x)[i]? = some (fldK k)[i] ∧ ¬ (fldK k)[i] = 0) ∧ ((fldK k).length < 5 → (tupL x)[(fldK k).length]? = some 0) ∧ (fldK k).length ≤ 5 := by
  rcases kind_case h1 h2 with rfl | rfl | rfl | rfl | rfl | rfl | rfl | rfl | rfl | rfl | rfl
  · exact ⟨(1, 3, 4, 0, 0), rfl, by decide, by decide, by decide⟩
  · exact ⟨(1, 2, 3, 0, 0), rfl, by decide, by decide, by decide⟩
  · exact ⟨(1, 2, 0, 0, 0), rfl, by decide, by decide, by decide⟩
  · exact ⟨(0, 0, 0, 0, 0), rfl, by decide, by decide, by decide⟩
  · exact ⟨(1, 3, 7, 0, 0), rfl, by decide, by decide, by decide⟩
  · exact ⟨(1, 6, 7, 4, 5), rfl, by decide, by decide, by decide⟩
  · exact ⟨(6, 7, 0, 0, 0), rfl, by decide, by decide, by decide⟩
  · exact ⟨(1, 4, 0, 0, 0), rfl, by decide, by decide, by decide⟩
  · exact ⟨(0, 0, 0, 0, 0), rfl, by decide, by decide, by decide⟩
  · exact ⟨(1, 2, 0, 0, 0), rfl, by decide, by decide, by decide⟩
  · exact ⟨(8, 0, 0, 0, 0), rfl, by decide, by decide, by decide⟩
theorem index_tup0 (x : Int × Int × Int × Int × Int) : indexD E0 108 (.agg #[.int .i64 x.1, .int .i64 x.2.1, .int .i64 x.2.2.1, .int .i64 x.2.2.2.1, .int .i64 x.2.2.2.2]) (.int .i64 ((0 : Nat) : Int)) = some (.int .i64 x.1) := by kernel_rfl
theorem index_tup1 (x : Int × Int × Int × Int × Int) : indexD E0 108 (.agg #[.int .i64 x.1, .int .i64 x.2.1, .int .i64 x.2.2.1, .int .i64 x.2.2.2.1, .int .i64 x.2.2.2.2]) (.int .i64 ((1 : Nat) : Int)) = some (.int .i64 x.2.1) := by kernel_rfl
theorem index_tup2 (x : Int × Int × Int × Int × Int) : indexD E0 108 (.agg #[.int .i64 x.1, .int .i64 x.2.1, .int .i64 x.2.2.1, .int .i64 x.2.2.2.1, .int .i64 x.2.2.2.2]) (.int .i64 ((2 : Nat) : Int)) = some (.int .i64 x.2.2.1) := by kernel_rfl
theorem index_tup3 (x : Int × Int × Int × Int × Int) : indexD E0 108 (.agg #[.int .i64 x.1, .int .i64 x.2.1, .int .i64 x.2.2.1, .int .i64 x.2.2.2.1, .int .i64 x.2.2.2.2]) (.int .i64 ((3 : Nat) : Int)) = some (.int .i64 x.2.2.2.1) := by kernel_rfl
theorem index_tup4 (x : Int × Int × Int × Int × Int) : indexD E0 108 (.agg #[.int .i64 x.1, .int .i64 x.2.1, .int .i64 x.2.2.1, .int .i64 x.2.2.2.1, .int .i64 x.2.2.2.2]) (.int .i64 ((4 : Nat) : Int)) = some (.int .i64 x.2.2.2.2) := by kernel_rfl
theorem index_tup (x : Int × Int × Int × Int × Int) {i : Nat} {z : Int} (hi : i < 5) (hz : (tupL x)[i]? = some z) :
    indexD E0 108 (.agg #[.int .i64 x.1, .int .i64 x.2.1, .int .i64 x.2.2.1, .int .i64 x.2.2.2.1, .int .i64 x.2.2.2.2]) (.int .i64 (i : Int)) = some (.int .i64 z) := by
  match i, hi with
  | 0, _ => rw [← Option.some.inj hz]; exact index_tup0 x
  | 1, _ => rw [← Option.some.inj hz]; exact index_tup1 x
  | 2, _ => rw [← Option.some.inj hz]; exact index_tup2 x
  | 3, _ => rw [← Option.some.inj hz]; exact index_tup3 x
  | 4, _ => rw [← Option.some.inj hz]; exact index_tup4 x
theorem s52 {y : Value} {c1 : Nat} {S : St} {kd : Int} (g : Gl S) (h1 : 1 ≤ kd) (h2 : kd ≤ 11) (hc : At S c1 (.cells [.int .i64 kd] none false none)) (I : Nat → St → Prop) {Q : St → Prop} (h0 : I 0 S)
    (hstep : ∀ i (hi : i < (fldK kd).length) S', I i S' → evY E0 tB y [.int .i64 (fldK kd)[i]] S' fun t S'' => (t = true → I (i + 1) S'') ∧ (t = false → Q S''))
    (hend : ∀ S', I (fldK kd).length S' → Q S') : WC E0 52 [y, .pointer (some ⟨c1, 0, none⟩)] S fun _ S' => Q S' := by
  refine w52 y c1 ?_
  unfold c52
  refine evV_of (ty := tI) kd (load_one hc (by kernel_rfl)) ?_
  rw [wrap_i64 (by omega) (by omega)]
  obtain ⟨more, ro, fz, hat⟩ := g.kinds
  refine ⟨0, 0, rfl, by omega, by omega, ?_⟩
  refine ptrW_of ?_
  obtain ⟨x, hx, hf, hz, hle⟩ := kind_row h1 h2
  refine ⟨x, load_agg hat (by kernel_rfl) hx rfl, ?_⟩
  refine loopW_ind (fun q (n2 : Int) S' => ∃ i : Nat, n2 = i ∧ i ≤ (fldK kd).length ∧ q = (fldK kd).length - i ∧ I i S') (m := (fldK kd).length) ⟨0, rfl, by omega, rfl, h0⟩ ?_
  rintro P q n2 S1 ⟨i, rfl, hi, rfl, hI⟩ hP
  refine ifW_dec (fun hlt => ?_) fun hlt => ?_
  · have hi5 : i < 5 := by omega
    by_cases hil : i < (fldK kd).length
    · obtain ⟨_, f1, f2⟩ := hf i hil
      refine evV_of (ty := tI) _ (index_tup x hi5 f1) ?_
      refine ifW_neg f2 ?_
      refine WV.mono (hstep i hil S1 hI) ?_
      rintro v S2 ⟨t, rfl, ht1, ht2⟩
      refine ⟨t, rfl, ifW_of (fun h => ht2 (by simpa using h)) fun h => ?_⟩
      rw [wrap_succ (by omega)]
      exact hP _ _ _ (by omega) ⟨i + 1, rfl, by omega, rfl, ht1 (by simpa using h)⟩
    · have e : i = (fldK kd).length := by omega
      subst e
      refine evV_of (ty := tI) 0 (index_tup x hi5 (hz hi5)) ?_
      exact ifW_pos rfl (hend S1 hI)
  · have e : i = (fldK kd).length := by omega
    subst e
    exact hend S1 hI
end
end Go.Proofs.YtgdijpcopdgapaaDoor

/- Tally: a message out of bytes. -/
namespace Go.Proofs.YtgdijpcopdgapaaDoor
open Go Go.Proofs.YtgdijpcopdgapaaDoor.D
set_option linter.unusedVariables false
set_option linter.unusedSimpArgs false
noncomputable section

theorem grX_frm {α : Type} {f : α → List Value} {sz : Nat} {s : Sl} {l : List α} : Frm (slO s) (fun S => GrX f sz 0 S s l) := by
  intro F S S' m hF h
  rcases h with h | ⟨b, rest, h1, h2, h3, h4⟩
  · exact .inl h
  · exact .inr ⟨b, rest, h1, h2, m.at h3 (hF b ⟨0, by rw [h2]⟩), h4⟩
theorem grX_lt {α : Type} {f : α → List Value} {sz : Nat} {S : St} {s : Sl} {l : List α} (h : GrX f sz 0 S s l) {c : Nat} (hc : slO s c) : c < S.next := by
  obtain ⟨o, hc⟩ := hc
  rcases h with ⟨_, rfl⟩ | ⟨b, rest, h1, rfl, h3, h4⟩
  · cases hc
  · cases hc; exact h3.lt
abbrev Rd := Option (List UInt8)
abbrev Ms := Int × Int × Int × Int × Int × Int × Int × Int
abbrev Clm := Int × Int
abbrev encC (c : Clm) : List Value := [.int .i64 c.1, .int .u32 c.2]
abbrev mv (m : Ms) (s : Sl) : Int × Int × Int × Int × Int × Int × Int × Int × Sl := (m.1, m.2.1, m.2.2.1, m.2.2.2.1, m.2.2.2.2.1, m.2.2.2.2.2.1, m.2.2.2.2.2.2.1, m.2.2.2.2.2.2.2, s)
abbrev cellsM (m : Ms) (s : Sl) : List Value :=
  [.int .i64 m.1, .int .i64 m.2.1, .int .u32 m.2.2.1, .int .u64 m.2.2.2.1, .int .i64 m.2.2.2.2.1, .int .i64 m.2.2.2.2.2.1, .int .i64 m.2.2.2.2.2.2.1, .int .i64 m.2.2.2.2.2.2.2, .slice s.a s.len s.cap]
theorem und52 : E0.und 52 = some (.slice 95) := by kernel_rfl
theorem inf95 : E0.inf 95 = some DEnv.i95 := by kernel_rfl
theorem bytes95 : DEnv.i95.bytes = 16 := by kernel_rfl
theorem zero95 : DEnv.i95.zero = some (.agg #[.int .i64 0, .int .u32 0]) := by kernel_rfl
theorem app_clm {S : St} {s : Sl} {l : List Clm} {b : Nat} {x : Clm} (h : GrX encC 2 0 S s l) (hat : At S b (.cells (encC x) none false none)) (hl : l.length ≤ 1000000)
    {k : Sl → St → Prop} (hk : ∀ s' S', GrX encC 2 0 S' s' (l ++ [x]) → Mod (slO s) S S' → (∀ c, slO s' c → slO s c ∨ S.next ≤ c) → k s' S') :
    evP tS (appendD E0 S 52 52 (.slice s.a s.len s.cap) (.slice (some ⟨b, 0, none⟩) 1 1)) k :=
  GrX.append (E := E0) (f := encC) (sz := 2) (N := 0) (fun _ => rfl) (by omega) h und52 inf95 und52 (by kernel_rfl) (by kernel_rfl) zero95 rfl (vs := [x]) rfl (firstD_box (f := encC) (sz := 2) (fun _ => rfl) (by omega) hat) rfl
    (show (l.length + 1) * DEnv.i95.bytes ≤ 17592186044416 by rw [bytes95]; omega) (show l.length + 1 ≤ 17592186044416 by omega) (by simp) (show (l.length + 1) * 2 < inex by have h := lt_inex; omega)
    (fun s' S' g m hs' => hk s' S' g (m.mono fun c hc _ => ⟨0, hc.2⟩) fun c hc => by
      obtain ⟨o, e⟩ := hc
      rcases hs' with h | ⟨b', h, h'⟩
      · exact .inl ⟨o, by rw [← h]; exact e⟩
      · rw [h] at e; cases e; exact .inr h') (Nat.zero_le _)
theorem tvR_lt (n : Nat) (r : Rd) : tvR n r < 256 ^ n := by
  cases r with
  | none => exact Nat.pow_pos (by omega)
  | some L =>
    show (if n ≤ L.length then vl (L.take n) else 0) < _
    split
    · exact vl_lt n _ (by rw [List.length_take]; omega)
    · exact Nat.pow_pos (by omega)
/-- A byte with its sign. -/
def sx (v : Nat) : Int := if v < 128 then v else (v : Int) - 256
theorem sx_eq {v : Nat} (h : v < 256) : wrapI .i64 (wrapI .i8 (v : Int)) = sx v := by
  have key : ∀ n : Fin 256, wrapD .i8 (n.val : Int) = sx n.val := by decide +kernel
  have h1 : wrapI .i8 (v : Int) = sx v := by rw [wrapI_eq]; exact key ⟨v, h⟩
  rw [h1]
  unfold sx
  split <;> rw [wrap_i64 (by omega) (by omega)]
def setM (f : Int) (v : Nat) (m : Ms) : Ms :=
  if f = 1 then (m.1, v, m.2.2) else if f = 2 then (m.1, m.2.1, v, m.2.2.2) else if f = 3 then (m.1, m.2.1, m.2.2.1, v, m.2.2.2.2) else if f = 4 then (m.1, m.2.1, m.2.2.1, m.2.2.2.1, v, m.2.2.2.2.2)
  else if f = 5 then (m.1, m.2.1, m.2.2.1, m.2.2.2.1, m.2.2.2.2.1, v, m.2.2.2.2.2.2) else if f = 6 then (m.1, m.2.1, m.2.2.1, m.2.2.2.1, m.2.2.2.2.1, m.2.2.2.2.2.1, v, m.2.2.2.2.2.2.2)
  else if f = 7 then (m.1, m.2.1, m.2.2.1, m.2.2.2.1, m.2.2.2.2.1, m.2.2.2.2.2.1, m.2.2.2.2.2.2.1, sx v) else m
def wdF (f : Int) : Nat := if f = 1 then 2 else if f = 2 then 4 else if f = 3 then 8 else 1
/-- Claims, one by one. -/
def clsP : Nat → Rd → List Clm × Rd
  | 0, r => ([], r)
  | n + 1, r => ((clsP n r).1 ++ [((tvR 2 (clsP n r).2 : Int), (tvR 4 (tkR 2 (clsP n r).2) : Int))], tkR 4 (tkR 2 (clsP n r).2))
theorem clsP_len (n : Nat) (r : Rd) : (clsP n r).1.length = n := by
  induction n with
  | zero => rfl
  | succ n ih => show ((clsP n r).1 ++ [_]).length = _; rw [List.length_append, ih]; rfl
def stP (x : Ms × List Clm × Rd) (f : Int) : Ms × List Clm × Rd :=
  if f = 8 then (x.1, x.2.1 ++ (clsP (tvR 1 x.2.2) (tkR 1 x.2.2)).1, (clsP (tvR 1 x.2.2) (tkR 1 x.2.2)).2)
  else (setM f (tvR (wdF f) x.2.2) x.1, x.2.1, tkR (wdF f) x.2.2)
def msgI (k : Int) (r : Rd) (i : Nat) : Ms × List Clm × Rd := ((fldK k).take i).foldl stP ((k, 0, 0, 0, 0, 0, 0, 0), [], r)
def msgP (k : Int) (r : Rd) : Ms × List Clm × Rd := (fldK k).foldl stP ((k, 0, 0, 0, 0, 0, 0, 0), [], r)
theorem msgI_succ {k : Int} {r : Rd} {i : Nat} (hi : i < (fldK k).length) : msgI k r (i + 1) = stP (msgI k r i) (fldK k)[i] := by
  unfold msgI
  rw [List.take_succ_eq_append_getElem hi, List.foldl_append]
  rfl
theorem msgI_all (k : Int) (r : Rd) : msgI k r (fldK k).length = msgP k r := by unfold msgI msgP; rw [List.take_length]
theorem fld_range {k : Int} (h1 : 1 ≤ k) (h2 : k ≤ 11) : ∀ f ∈ fldK k, 1 ≤ f ∧ f ≤ 8 := by
  rcases kind_case h1 h2 with rfl | rfl | rfl | rfl | rfl | rfl | rfl | rfl | rfl | rfl | rfl <;> decide
theorem fld_claims {k : Int} {r : Rd} (h1 : 1 ≤ k) (h2 : k ≤ 11) : ∀ i (hi : i < (fldK k).length), (msgI k r i).2.1 = [] := by
  intro i hi
  have hsplit : ∀ (l : List Int) (x : Ms × List Clm × Rd), (∀ f ∈ l, ¬ f = 8) → (l.foldl stP x).2.1 = x.2.1 := by
    intro l
    induction l with
    | nil => intro x _; rfl
    | cons f l ih =>
      intro x h
      rw [List.foldl_cons, ih _ fun g hg => h g (by simp [hg])]
      unfold stP
      rw [if_neg (h f (by simp))]
  unfold msgI
  rw [hsplit]
  have key : ∀ i, i < (fldK k).length → ∀ f ∈ (fldK k).take i, ¬ f = 8 := by
    rcases kind_case h1 h2 with rfl | rfl | rfl | rfl | rfl | rfl | rfl | rfl | rfl | rfl | rfl <;> decide
  exact key i hi
end
end Go.Proofs.YtgdijpcopdgapaaDoor

/- Tally: a message is taken, field by field. -/
namespace Go.Proofs.YtgdijpcopdgapaaDoor
open Go Go.Proofs.YtgdijpcopdgapaaDoor.D
set_option linter.unusedVariables false
set_option linter.unusedSimpArgs false
noncomputable section

abbrev rdB (Lb : List (Nat × DObj)) (i j c1 c2 : Nat) (r : Rd) (s : Sl) : List (Nat × DObj) := (Lb.set i (c1, .cells [.bool r.isSome] none false none)).set j (c2, .cells [.slice s.a s.len s.cap] none false none)
structure RdI (Lb : List (Nat × DObj)) (i j : Nat) : Prop where
  ne : i ≠ j
  li : i < Lb.length
  lj : j < Lb.length
theorem rdB_i {Lb : List (Nat × DObj)} {i j c1 c2 : Nat} {r : Rd} {s : Sl} (h : RdI Lb i j) : (rdB Lb i j c1 c2 r s)[i]? = some (c1, .cells [.bool r.isSome] none false none) := by
  unfold rdB
  rw [List.getElem?_set_ne (Ne.symm h.ne), List.getElem?_set_self h.li]
theorem rdB_j {Lb : List (Nat × DObj)} {i j c1 c2 : Nat} {r : Rd} {s : Sl} (h : RdI Lb i j) : (rdB Lb i j c1 c2 r s)[j]? = some (c2, .cells [.slice s.a s.len s.cap] none false none) := by
  unfold rdB
  rw [List.getElem?_set_self (by rw [List.length_set]; exact h.lj)]
theorem rdB_set {Lb : List (Nat × DObj)} {i j c1 c2 : Nat} {r r' : Rd} {s s' : Sl} (h : RdI Lb i j) : ((rdB Lb i j c1 c2 r s).set i (c1, .cells [.bool r'.isSome] none false none)).set j (c2, .cells [.slice s'.a s'.len s'.cap] none false none) = rdB Lb i j c1 c2 r' s' := by
  unfold rdB
  rw [List.set_comm _ _ h.ne.symm, List.set_set, List.set_set]
theorem set_id {α : Type} {l : List α} {i : Nat} {x : α} (h : l[i]? = some x) : l.set i x = l := by
  apply List.ext_getElem?
  intro n
  rw [List.getElem?_set]
  split
  · rename_i e
    subst e
    split
    · exact h.symm
    · rename_i hn
      rw [List.getElem?_eq_none (by omega)] at h; cases h
  · rfl
theorem rdB_id {Lb : List (Nat × DObj)} {i j c1 c2 : Nat} {r : Rd} {s : Sl} (hi : Lb[i]? = some (c1, .cells [.bool r.isSome] none false none)) (hj : Lb[j]? = some (c2, .cells [.slice s.a s.len s.cap] none false none)) : rdB Lb i j c1 c2 r s = Lb := by
  unfold rdB
  rw [set_id hi, set_id hj]
theorem set_app {α : Type} (p l : List α) (i : Nat) (x : α) : (p ++ l).set (i + p.length) x = p ++ l.set i x := by
  induction p with
  | nil => rfl
  | cons a p ih => show ((a :: (p ++ l)).set (i + p.length + 1) x) = a :: (p ++ l.set i x); rw [List.set_cons_succ, ih]
theorem get_app {α : Type} (p l : List α) (i : Nat) : (p ++ l)[i + p.length]? = l[i]? := by rw [List.getElem?_append_right (by omega)]; congr 1; omega
/-- take, once more: with boxes ahead. -/
theorem s27p {W : Nat → Prop} {S0 S : St} (pre : List (Nat × DObj)) {Lb : List (Nat × DObj)} {i j : Nat} (hR : RdI Lb i j) {O : Nat → Prop} {P : St → Prop} {c1 c2 : Nat} {r : Rd} {s : Sl} (hL : Cx W S0 S (pre ++ rdB Lb i j c1 c2 r s) O P)
    {P0 : St → Prop} (hP0 : ∀ S', P S' → P0 S') (hlf : ∀ L, r = some L → ∀ S', P0 S' → Lf S' s L) (n : Nat) (h1 : 1 ≤ n) (h8 : n ≤ 8) {k : Int → St → Prop}
    (hk : ∀ s' S', Cx W S0 S' (pre ++ rdB Lb i j c1 c2 (tkR n r) s') O P → (∀ L, tkR n r = some L → ∀ S', P0 S' → Lf S' s' L) → k (tvR n r : Nat) S') :
    evY E0 tU (.func (.func 27) #[] #[.pointer (some ⟨c1, 0, none⟩), .pointer (some ⟨c2, 0, none⟩)]) [.int .i64 (n : Int)] S k := by
  refine evY_func (evC_of ?_)
  refine s27 hL (i + pre.length) (j + pre.length) ((get_app _ _ _).trans (rdB_i hR)) ((get_app _ _ _).trans (rdB_j hR)) (by have := hR.ne; omega) hP0 hlf h1 h8 fun s' S' hL' hlf' => ⟨_, rfl, hk s' S' ?_ hlf'⟩
  rw [set_app, set_app, rdB_set hR] at hL'
  exact hL'
abbrev preM (b5 b4 cF b3 b2 b1 c1 c2 : Nat) (st : DObj) (kd : Int) (m : Ms) (sc : Sl) : List (Nat × DObj) :=
  [(b5, st), (b4, .deferred), (cF, .cells [.int .i64 kd] none false none), (b3, .cells (cellsM m sc) none false none), (b2, .cells (cellsM (0, 0, 0, 0, 0, 0, 0, 0) ⟨none, 0, 0⟩) none false none),
   (b1, .cells [.func (.func 27) #[] #[.pointer (some ⟨c1, 0, none⟩), .pointer (some ⟨c2, 0, none⟩)]] none false none)]
theorem nil_grX {S : St} : GrX encC 2 0 S ⟨none, 0, 0⟩ [] := .inl ⟨rfl, rfl⟩
set_option maxHeartbeats 4000000 in
theorem s29 {W : Nat → Prop} {S0 S : St} {Lb : List (Nat × DObj)} {i j : Nat} (hR : RdI Lb i j) {O : Nat → Prop} {P : St → Prop} {c1 c2 : Nat} {r : Rd} {s : Sl} (hL : Cx W S0 S (rdB Lb i j c1 c2 r s) O P) (hg : ∀ S', Mod W S0 S' → Gl S')
    (hlf : ∀ L, r = some L → ∀ S', P S' → Lf S' s L) {kd : Int} (h1 : 1 ≤ kd) (h2 : kd ≤ 11) {k : Value → St → Prop}
    (hk : ∀ s' sc S', Cx W S0 S' (rdB Lb i j c1 c2 (msgP kd r).2.2 s') (fun c => O c ∨ slO sc c) (fun S => P S ∧ GrX encC 2 0 S sc (msgP kd r).2.1) → (∀ L, (msgP kd r).2.2 = some L → ∀ S', P S' → Lf S' s' L) → k (sv G53 (mv (msgP kd r).1 sc)) S') :
    WC E0 29 [.int .i64 kd, .func (.func 27) #[] #[.pointer (some ⟨c1, 0, none⟩), .pointer (some ⟨c2, 0, none⟩)]] S k := by
  refine w29 kd (.func (.func 27) #[] #[.pointer (some ⟨c1, 0, none⟩), .pointer (some ⟨c2, 0, none⟩)]) ?_
  unfold c29
  dsimp only
  have hfr := hL.fr
  have hS := hL.lt
  have hnx0 := hL.mod.next
  have hL : Cx W S0 S (rdB Lb i j c1 c2 r s) (fun c => O c ∨ slO ⟨none, 0, 0⟩ c) (fun S => P S ∧ GrX encC 2 0 S ⟨none, 0, 0⟩ []) :=
    ⟨hL.h, fun c hc => hc.elim (hL.lt c) fun h => by (obtain ⟨o, h⟩ := h; cases h), fun p hp hc => hc.elim (hL.sep p hp) fun h => by (obtain ⟨o, h⟩ := h; cases h), ⟨hL.p, nil_grX⟩, hfr.and grX_frm⟩
  refine hL.new fun b1 S1 hL hb1 _ => ?_
  refine hL.new fun b2 S2 hL _ _ => ?_
  refine hL.new fun b3 S3 hL _ _ => ?_
  refine hL.st 0 9 rfl (by kernel_rfl) rfl (Nat.le_of_ble_eq_true rfl) rfl rfl fun S4 hL _ => ?_
  refine evC_of (w39 kd ?_)
  unfold c39
  refine hL.new fun cF S5 hL _ _ => ⟨_, rfl, ?_⟩
  refine hL.new fun b4 S6 hL _ _ => ?_
  rintro b5 S7 L rfl rfl hLL hRH
  have hL := hL.record (o := L .ready none)
  generalize (S6.alloc (L .ready none)).2 = S7 at hL ⊢
  generalize hb5 : S6.next = b5 at hL hRH ⊢
  have hL : Cx W S0 S7 (preM b5 b4 cF b3 b2 b1 c1 c2 (L .ready none) kd (msgI kd r 0).1 ⟨none, 0, 0⟩ ++ rdB Lb i j c1 c2 (msgI kd r 0).2.2 s) (fun c => O c ∨ slO ⟨none, 0, 0⟩ c) (fun S => P S ∧ GrX encC 2 0 S ⟨none, 0, 0⟩ (msgI kd r 0).2.1) := hL
  refine WG_of rfl (s52 (kd := kd) (hg S7 hL.mod) h1 h2 (hL.at 2 rfl) (fun t S' => ∃ s sc, Cx W S0 S' (preM b5 b4 cF b3 b2 b1 c1 c2 (L .ready none) kd (msgI kd r t).1 sc ++ rdB Lb i j c1 c2 (msgI kd r t).2.2 s) (fun c => O c ∨ slO sc c) (fun S => P S ∧ GrX encC 2 0 S sc (msgI kd r t).2.1) ∧
    (∀ L, (msgI kd r t).2.2 = some L → ∀ S', P S' → Lf S' s L) ∧ (∀ c, slO sc c → S.next ≤ c)) ?_ ?_ ?_)
  · exact ⟨s, ⟨none, 0, 0⟩, hL, hlf, fun c hc => by obtain ⟨o, hc⟩ := hc; cases hc⟩
  · rintro t ht S' ⟨s, sc, hL, hlf, hs0⟩
    refine hRH _ S' _ ?_
    refine hL.has 0 rfl ?_
    refine hL.has 0 rfl ?_
    refine hL.upd 0 rfl fun S9 hL _ => ?_
    have hsucc := msgI_succ (r := r) ht
    have hrg := fld_range h1 h2 _ (List.getElem_mem ht)
    have hcl0 := fld_claims (r := r) h1 h2 t ht
    generalize (fldK kd)[t] = f at hsucc hrg ⊢
    generalize msgI kd r t = x at hL hlf hsucc hcl0
    obtain ⟨m, cl, rr⟩ := x
    have hL : Cx W S0 S9 (preM b5 b4 cF b3 b2 b1 c1 c2 (L .busy none) kd m sc ++ rdB Lb i j c1 c2 rr s) (fun c => O c ∨ slO sc c) (fun S => P S ∧ GrX encC 2 0 S sc cl) := hL
    have hlf : ∀ L, rr = some L → ∀ S', P S' → Lf S' s L := hlf
    refine ifW_dec (fun hf => ?_) fun hf1 => ?_
    · subst hf
      refine hL.ld 5 rfl (by kernel_rfl) _ rfl ?_
      refine s27p (preM b5 b4 cF b3 b2 b1 c1 c2 (L .busy none) kd m sc) hR hL (fun _ h => h.1) hlf 2 (by omega) (by omega) fun s2 S10 hL hlf2 => ?_
      refine ptrW_of ?_
      have hv := tvR_lt 2 rr
      rw [wrap_i64 (by omega) (by omega)]
      refine hL.st 3 1 rfl (by kernel_rfl) rfl (Nat.le_of_ble_eq_true rfl) rfl rfl fun S11 hL _ => ?_
      refine hL.has 0 rfl ?_
      refine hL.upd 0 rfl fun S12 hL _ => ?_
      refine ⟨fun _ => ⟨s2, sc, ?_, ?_, hs0⟩, fun h => by cases h⟩
      · rw [hsucc]; exact hL
      · rw [hsucc]; exact hlf2
    refine ifW_dec (fun hf => ?_) fun hf2 => ?_
    · subst hf
      refine hL.ld 5 rfl (by kernel_rfl) _ rfl ?_
      refine s27p (preM b5 b4 cF b3 b2 b1 c1 c2 (L .busy none) kd m sc) hR hL (fun _ h => h.1) hlf 4 (by omega) (by omega) fun s2 S10 hL hlf2 => ?_
      refine ptrW_of ?_
      have hv := tvR_lt 4 rr
      rw [wrap_u32 (by omega) (by omega)]
      refine hL.st 3 1 rfl (by kernel_rfl) rfl (Nat.le_of_ble_eq_true rfl) rfl rfl fun S11 hL _ => ?_
      refine hL.has 0 rfl ?_
      refine hL.upd 0 rfl fun S12 hL _ => ?_
      refine ⟨fun _ => ⟨s2, sc, ?_, ?_, hs0⟩, fun h => by cases h⟩
      · rw [hsucc]; exact hL
      · rw [hsucc]; exact hlf2
    refine ifW_dec (fun hf => ?_) fun hf3 => ?_
    · subst hf
      refine hL.ld 5 rfl (by kernel_rfl) _ rfl ?_
      refine s27p (preM b5 b4 cF b3 b2 b1 c1 c2 (L .busy none) kd m sc) hR hL (fun _ h => h.1) hlf 8 (by omega) (by omega) fun s2 S10 hL hlf2 => ?_
      refine ptrW_of ?_
      have hv := tvR_lt 8 rr
      refine hL.st 3 1 rfl (by kernel_rfl) rfl (Nat.le_of_ble_eq_true rfl) rfl rfl fun S11 hL _ => ?_
      refine hL.has 0 rfl ?_
      refine hL.upd 0 rfl fun S12 hL _ => ?_
      refine ⟨fun _ => ⟨s2, sc, ?_, ?_, hs0⟩, fun h => by cases h⟩
      · rw [hsucc]; exact hL
      · rw [hsucc]; exact hlf2
    refine ifW_dec (fun hf => ?_) fun hf4 => ?_
    · subst hf
      refine hL.ld 5 rfl (by kernel_rfl) _ rfl ?_
      refine s27p (preM b5 b4 cF b3 b2 b1 c1 c2 (L .busy none) kd m sc) hR hL (fun _ h => h.1) hlf 1 (by omega) (by omega) fun s2 S10 hL hlf2 => ?_
      refine ptrW_of ?_
      have hv := tvR_lt 1 rr
      rw [wrap_i64 (by omega) (by omega)]
      refine hL.st 3 1 rfl (by kernel_rfl) rfl (Nat.le_of_ble_eq_true rfl) rfl rfl fun S11 hL _ => ?_
      refine hL.has 0 rfl ?_
      refine hL.upd 0 rfl fun S12 hL _ => ?_
      refine ⟨fun _ => ⟨s2, sc, ?_, ?_, hs0⟩, fun h => by cases h⟩
      · rw [hsucc]; exact hL
      · rw [hsucc]; exact hlf2
    refine ifW_dec (fun hf => ?_) fun hf5 => ?_
    · subst hf
      refine hL.ld 5 rfl (by kernel_rfl) _ rfl ?_
      refine s27p (preM b5 b4 cF b3 b2 b1 c1 c2 (L .busy none) kd m sc) hR hL (fun _ h => h.1) hlf 1 (by omega) (by omega) fun s2 S10 hL hlf2 => ?_
      refine ptrW_of ?_
      have hv := tvR_lt 1 rr
      rw [wrap_i64 (by omega) (by omega)]
      refine hL.st 3 1 rfl (by kernel_rfl) rfl (Nat.le_of_ble_eq_true rfl) rfl rfl fun S11 hL _ => ?_
      refine hL.has 0 rfl ?_
      refine hL.upd 0 rfl fun S12 hL _ => ?_
      refine ⟨fun _ => ⟨s2, sc, ?_, ?_, hs0⟩, fun h => by cases h⟩
      · rw [hsucc]; exact hL
      · rw [hsucc]; exact hlf2
    refine ifW_dec (fun hf => ?_) fun hf6 => ?_
    · subst hf
      refine hL.ld 5 rfl (by kernel_rfl) _ rfl ?_
      refine s27p (preM b5 b4 cF b3 b2 b1 c1 c2 (L .busy none) kd m sc) hR hL (fun _ h => h.1) hlf 1 (by omega) (by omega) fun s2 S10 hL hlf2 => ?_
      refine ptrW_of ?_
      have hv := tvR_lt 1 rr
      rw [wrap_i64 (by omega) (by omega)]
      refine hL.st 3 1 rfl (by kernel_rfl) rfl (Nat.le_of_ble_eq_true rfl) rfl rfl fun S11 hL _ => ?_
      refine hL.has 0 rfl ?_
      refine hL.upd 0 rfl fun S12 hL _ => ?_
      refine ⟨fun _ => ⟨s2, sc, ?_, ?_, hs0⟩, fun h => by cases h⟩
      · rw [hsucc]; exact hL
      · rw [hsucc]; exact hlf2
    refine ifW_dec (fun hf => ?_) fun hf7 => ?_
    · subst hf
      refine hL.ld 5 rfl (by kernel_rfl) _ rfl ?_
      refine s27p (preM b5 b4 cF b3 b2 b1 c1 c2 (L .busy none) kd m sc) hR hL (fun _ h => h.1) hlf 1 (by omega) (by omega) fun s2 S10 hL hlf2 => ?_
      refine ptrW_of ?_
      have hv := tvR_lt 1 rr
      rw [sx_eq (by omega)]
      refine hL.st 3 1 rfl (by kernel_rfl) rfl (Nat.le_of_ble_eq_true rfl) rfl rfl fun S11 hL _ => ?_
      refine hL.has 0 rfl ?_
      refine hL.upd 0 rfl fun S12 hL _ => ?_
      refine ⟨fun _ => ⟨s2, sc, ?_, ?_, hs0⟩, fun h => by cases h⟩
      · rw [hsucc]; exact hL
      · rw [hsucc]; exact hlf2
    have hf8 : f = 8 := by omega
    subst hf8
    refine ifW_pos rfl ?_
    refine hL.ld 5 rfl (by kernel_rfl) _ rfl ?_
    refine s27p (preM b5 b4 cF b3 b2 b1 c1 c2 (L .busy none) kd m sc) hR hL (fun _ h => h.1) hlf 1 (by omega) (by omega) fun s2 S10 hL hlf2 => ?_
    have hN := tvR_lt 1 rr
    have e8 : stP (m, cl, rr) 8 = (m, cl ++ (clsP (tvR 1 rr) (tkR 1 rr)).1, (clsP (tvR 1 rr) (tkR 1 rr)).2) := if_pos rfl
    rw [e8] at hsucc
    have hcl0 : cl = [] := hcl0
    subst hcl0
    rw [List.nil_append] at hsucc
    generalize tvR 1 rr = N at hN hsucc ⊢
    generalize tkR 1 rr = r1 at hL hlf2 hsucc
    refine loopW_ind (fun q (n10 : Int) S' => ∃ (u : Nat) (s3 sc3 : Sl), n10 = u ∧ u ≤ N ∧ q = N - u ∧ Cx W S0 S' (preM b5 b4 cF b3 b2 b1 c1 c2 (L .busy none) kd m sc3 ++ rdB Lb i j c1 c2 (clsP u r1).2 s3) (fun c => O c ∨ slO sc3 c) (fun S => P S ∧ GrX encC 2 0 S sc3 (clsP u r1).1) ∧
      (∀ L, (clsP u r1).2 = some L → ∀ S', P S' → Lf S' s3 L) ∧ (∀ c, slO sc3 c → S.next ≤ c)) (m := N) ⟨0, s2, sc, rfl, by omega, rfl, hL, hlf2, hs0⟩ ?_
    rintro Pk q n10 S32 ⟨u, s3, sc3, rfl, hu, rfl, hL, hlf3, hs3⟩ hPk
    refine ifW_dec (fun hlt => ?_) fun hlt => ?_
    · refine ptrW_of ?_
      refine hL.ld 3 rfl (by kernel_rfl) sc3 rfl ?_
      refine hL.ld 5 rfl (by kernel_rfl) _ rfl ?_
      refine s27p (preM b5 b4 cF b3 b2 b1 c1 c2 (L .busy none) kd m sc3) hR hL (fun _ h => h.1) hlf3 2 (by omega) (by omega) fun s4 S33 hL4 hlf4 => ?_
      refine hL4.ld 3 rfl (by kernel_rfl) sc3 rfl ?_
      refine sameV_of ?_
      refine hL4.ld 5 rfl (by kernel_rfl) _ rfl ?_
      refine hL.ld 5 rfl (by kernel_rfl) _ rfl ?_
      refine sameV_of ?_
      refine s27p (preM b5 b4 cF b3 b2 b1 c1 c2 (L .busy none) kd m sc3) hR hL4 (fun _ h => h.1) hlf4 4 (by omega) (by omega) fun s5 S34 hL5 hlf5 => ?_
      refine hL5.ld 3 rfl (by kernel_rfl) sc3 rfl ?_
      refine sameV_of ?_
      have hv2 := tvR_lt 2 (clsP u r1).2
      have hv4 := tvR_lt 4 (tkR 2 (clsP u r1).2)
      rw [wrap_i64 (by omega) (by omega), wrap_u32 (by omega) (by omega)]
      refine hL5.new fun b22 S35 hL6 _ _ => ?_
      refine hL6.ld 4 rfl (by kernel_rfl) sc3 rfl ?_
      refine sameV_of ?_
      refine app_clm (x := ((tvR 2 (clsP u r1).2 : Int), (tvR 4 (tkR 2 (clsP u r1).2) : Int))) hL6.p.2 (hL6.at 0 rfl) (by rw [clsP_len]; omega) fun sc4 S36 g' mm hs' => ?_
      have hno : ∀ c, O c → ¬ slO sc3 c := fun c h1 h2 => by have := hS c h1; have := hs3 c h2; omega
      have hge : b1 < S35.next := (hL6.at 6 rfl).lt
      have hL7 := hL6.op (P' := fun S => P S ∧ GrX encC 2 0 S sc4 (clsP (u + 1) r1).1) (O' := fun c => O c ∨ slO sc4 c) mm (fun _ h => .inr h) (fun c hc hlt => by have := hs3 c hc; omega) ⟨hfr _ _ _ mm.kp hno hL6.p.1, g'⟩ (hfr.and grX_frm)
        (fun c hc => hc.elim (fun h => .inl (.inl h)) fun h => (hs' c h).elim (fun h => .inl (.inr h)) .inr) (fun c hc => hc.elim (fun h => Nat.lt_of_lt_of_le (hL6.lt c (.inl h)) mm.next) fun h => grX_lt g' h)
      refine ptrW_of ?_
      refine hL7.st 4 1 rfl (by kernel_rfl) rfl (Nat.le_of_ble_eq_true rfl) rfl rfl fun S37 hL8 _ => ?_
      rw [wrap_u64 (by omega) (by omega), show (u : Int) + 1 = ((u + 1 : Nat) : Int) from by omega]
      exact hPk _ _ _ (by omega) ⟨u + 1, s5, sc4, rfl, by omega, rfl, hL8.tl 1, hlf5, fun c hc => (hs' c hc).elim (hs3 c) fun h => by omega⟩
    · have hun : u = N := by omega
      subst hun
      refine hL.has 0 rfl ?_
      refine hL.upd 0 rfl fun S38 hL _ => ?_
      refine ⟨fun _ => ⟨s3, sc3, ?_, ?_, hs3⟩, fun h => by cases h⟩
      · rw [hsucc]; exact hL
      · rw [hsucc]; exact hlf3
  · rintro S' ⟨s, sc, hL, hlf, hs0⟩
    rw [msgI_all] at hL hlf
    refine .inl ?_
    refine hL.has 0 rfl ?_
    refine hL.upd 0 rfl fun S41 hL _ => ?_
    refine hL.lda 3 rfl (by kernel_rfl) (mv (msgP kd r).1 sc) rfl ?_
    refine hL.st 4 9 rfl (by kernel_rfl) rfl (Nat.le_of_ble_eq_true rfl) rfl rfl fun S42 hL _ => ?_
    refine hL.has 1 rfl ?_
    refine hL.upd 1 rfl fun S43 hL _ => ?_
    refine hL.lda 4 rfl (by kernel_rfl) (mv (msgP kd r).1 sc) rfl ?_
    exact hk s sc S43 (hL.tl 6) hlf
end
end Go.Proofs.YtgdijpcopdgapaaDoor

/- Tally: a message with nothing but what its kind names. -/
namespace Go.Proofs.YtgdijpcopdgapaaDoor
open Go Go.Proofs.YtgdijpcopdgapaaDoor.D
set_option linter.unusedVariables false
set_option linter.unusedSimpArgs false
noncomputable section

abbrev encI (n : Int) : List Value := [.int .i64 n]
theorem inf3 : E0.inf 3 = some DEnv.i3 := by kernel_rfl
theorem agg3 : aggD DEnv.i3.und = false := by kernel_rfl
theorem s61 {a b : Sl} {l : List Int} {S : St} (ha : SlOf encI 1 S a l) (hb : SlOf encI 1 S b l) (hl : l.length ≤ 1000) {k : Value → St → Prop} (hk : k (.bool true) S) : WC E0 61 [.slice a.a a.len a.cap, .slice b.a b.len b.cap] S k := by
  refine w61 a b ?_
  unfold c61
  have h1 := ha.len
  have h2 := hb.len
  refine ifW_ndec (fun h => by omega) fun _ => ?_
  refine loopW_ind (fun q (n1 : Int) S' => ∃ i : Nat, n1 = i ∧ i ≤ l.length ∧ q = l.length - i ∧ S' = S) (m := l.length) ⟨0, rfl, by omega, rfl, rfl⟩ ?_
  rintro P q n1 S1 ⟨i, rfl, hi, rfl, rfl⟩ hP
  refine ifW_dec (fun hlt => ?_) fun hlt => hk
  refine ha.get1n (n := i) (g := Value.int .i64) inf3 agg3 (by omega) fun b1 o1 hld _ => evV_of (ty := tI) _ (hld _ rfl) ?_
  refine hb.get1n (n := i) (g := Value.int .i64) inf3 agg3 (by omega) fun b2 o2 hld2 _ => evV_of (ty := tI) _ (hld2 _ rfl) ?_
  refine ifW_ndec (fun h => (h rfl).elim) fun _ => ?_
  rw [wrap_succ (by omega)]
  exact hP _ _ _ (by omega) ⟨i + 1, rfl, by omega, rfl, rfl⟩
theorem eq_clm (S : St) (x : Clm) : eqD E0 S 6 95 (sv G94 x) (sv G94 x) = some true := by
  have h1 : eqD E0 S 5 3 (.int .i64 x.1) (.int .i64 x.1) = some true := (show _ = some (decide (x.1 = x.1)) by kernel_rfl).trans (by simp)
  have h2 : eqD E0 S 5 51 (.int .u32 x.2) (.int .u32 x.2) = some true := (show _ = some (decide (x.2 = x.2)) by kernel_rfl).trans (by simp)
  exact (show _ = (eqD E0 S 5 3 (.int .i64 x.1) (.int .i64 x.1)).bind (fun e => cond e ((eqD E0 S 5 51 (.int .u32 x.2) (.int .u32 x.2)).bind fun e => cond e (some true) (some false)) (some false)) by kernel_rfl).trans (by rw [h1, h2]; rfl)
theorem s62 {a b : Sl} {l : List Clm} {S : St} (ha : SlOf encC 2 S a l) (hb : SlOf encC 2 S b l) (hl : l.length ≤ 1000) {k : Value → St → Prop} (hk : k (.bool true) S) : WC E0 62 [.slice a.a a.len a.cap, .slice b.a b.len b.cap] S k := by
  refine w62 a b ?_
  unfold c62
  have h1 := ha.len
  have h2 := hb.len
  refine ifW_ndec (fun h => by omega) fun _ => ?_
  refine loopW_ind (fun q (n1 : Int) S' => ∃ i : Nat, n1 = i ∧ i ≤ l.length ∧ q = l.length - i ∧ S' = S) (m := l.length) ⟨0, rfl, by omega, rfl, rfl⟩ ?_
  rintro P q n1 S1 ⟨i, rfl, hi, rfl, rfl⟩ hP
  refine ifW_dec (fun hlt => ?_) fun hlt => hk
  have hi' : i < l.length := by omega
  refine ha.idxL (f := encC) (sz := 2) (fun _ => rfl) h1 hi' fun b1 o1 cs m ro fz ht _ hv => ?_
  refine ⟨l[i], load_agg ht (by kernel_rfl) hv rfl, ?_⟩
  dsimp only
  refine hb.idxL (f := encC) (sz := 2) (fun _ => rfl) h2 hi' fun b2 o2 cs2 m2 ro2 fz2 ht2 _ hv2 => ?_
  refine ⟨l[i], load_agg ht2 (by kernel_rfl) hv2 rfl, ?_⟩
  refine ⟨true, eq_clm _ _, ?_⟩
  refine ifW_of (fun h => by cases h) fun _ => ?_
  rw [wrap_succ (by omega)]
  exact hP _ _ _ (by omega) ⟨i + 1, rfl, by omega, rfl, rfl⟩
theorem flat_enc (l : List Int) : l.flatMap encI = l.map (Value.int .i64) := by induction l with | nil => rfl | cons x l ih => simp [List.flatMap_cons, ih]
theorem six_sl {S : St} {b : Nat} {l : List Int} (h : At S b (.cells (l.map (Value.int .i64)) none false none)) (hl : l.length = 6) : SlOf encI 1 S ⟨some ⟨b, 0, none⟩, 6, 6⟩ l := by
  refine ⟨hl.symm, fun _ => ⟨b, 0, _, _, _, _, rfl, h, ?_⟩⟩
  rw [List.drop_zero, List.take_of_length_le (by simp)]
  exact (flat_enc l).symm
theorem s53 {m : Ms} {s s' : Sl} {cl : List Clm} {S : St} (h1 : SlOf encC 2 S s cl) (h2 : SlOf encC 2 S s' cl) (hl : cl.length ≤ 1000) {k : Value → St → Prop} (hk : ∀ S', Ext S S' → k (.bool true) S') : WC E0 53 [sv G53 (mv m s), sv G53 (mv m s')] S k := by
  refine w53 (mv m s) (mv m s') ?_
  unfold c53
  have hL := Hld.start noB S
  refine hL.new fun b1 S1 hL _ _ => ?_
  refine hL.new fun b2 S2 hL _ _ => ?_
  iterate 6 (refine ptrW_of ?_; refine hL.ld 1 rfl (by kernel_rfl) _ rfl ?_)
  refine hL.new fun b15 S3 hL _ _ => ?_
  iterate 6 (refine ptrW_of ?_; refine hL.ld 1 rfl (by kernel_rfl) _ rfl ?_)
  refine hL.new fun b28 S4 hL _ _ => ?_
  refine evC_of (s61 (l := [m.1, m.2.1, m.2.2.2.2.1, m.2.2.2.2.2.1, m.2.2.2.2.2.2.1, m.2.2.2.2.2.2.2]) (a := ⟨some ⟨b15, 0, none⟩, 6, 6⟩) (b := ⟨some ⟨b28, 0, none⟩, 6, 6⟩) (six_sl (hL.at 1 rfl) rfl) (six_sl (hL.at 0 rfl) rfl) (by simp) ⟨true, rfl, ?_⟩)
  refine ifW_of (fun _ => ?_) fun h => by cases h
  refine ptrW_of ?_
  refine hL.ld 3 rfl (by kernel_rfl) m.2.2.1 rfl ?_
  refine ptrW_of ?_
  refine hL.ld 2 rfl (by kernel_rfl) m.2.2.1 rfl ?_
  refine ifW_pos rfl ?_
  refine ptrW_of ?_
  refine hL.ld 3 rfl (by kernel_rfl) m.2.2.2.1 rfl ?_
  refine ptrW_of ?_
  refine hL.ld 2 rfl (by kernel_rfl) m.2.2.2.1 rfl ?_
  refine ifW_pos rfl ?_
  refine ptrW_of ?_
  refine hL.ld 3 rfl (by kernel_rfl) s rfl ?_
  refine ptrW_of ?_
  refine hL.ld 2 rfl (by kernel_rfl) s' rfl ?_
  exact evC_of (s62 (Ext.slOf hL.mod h1) (Ext.slOf hL.mod h2) hl ⟨true, rfl, hk _ hL.mod⟩)
def cpM (m : Ms) (f : Int) (y : Ms) : Ms :=
  if f = 1 then (y.1, m.2.1, y.2.2) else if f = 2 then (y.1, y.2.1, m.2.2.1, y.2.2.2) else if f = 3 then (y.1, y.2.1, y.2.2.1, m.2.2.2.1, y.2.2.2.2) else if f = 4 then (y.1, y.2.1, y.2.2.1, y.2.2.2.1, m.2.2.2.2.1, y.2.2.2.2.2)
  else if f = 5 then (y.1, y.2.1, y.2.2.1, y.2.2.2.1, y.2.2.2.2.1, m.2.2.2.2.2.1, y.2.2.2.2.2.2) else if f = 6 then (y.1, y.2.1, y.2.2.1, y.2.2.2.1, y.2.2.2.2.1, y.2.2.2.2.2.1, m.2.2.2.2.2.2.1, y.2.2.2.2.2.2.2)
  else if f = 7 then (y.1, y.2.1, y.2.2.1, y.2.2.2.1, y.2.2.2.2.1, y.2.2.2.2.2.1, y.2.2.2.2.2.2.1, m.2.2.2.2.2.2.2) else y
def cpS (m : Ms) (s : Sl) (y : Ms × Sl) (f : Int) : Ms × Sl := if f = 8 then (y.1, s) else (cpM m f y.1, y.2)
def onlyI (m : Ms) (s : Sl) (i : Nat) : Ms × Sl := ((fldK m.1).take i).foldl (cpS m s) ((m.1, 0, 0, 0, 0, 0, 0, 0), ⟨none, 0, 0⟩)
def onlyP (m : Ms) (s : Sl) : Ms × Sl := (fldK m.1).foldl (cpS m s) ((m.1, 0, 0, 0, 0, 0, 0, 0), ⟨none, 0, 0⟩)
theorem onlyI_succ {m : Ms} {s : Sl} {i : Nat} (hi : i < (fldK m.1).length) : onlyI m s (i + 1) = cpS m s (onlyI m s i) (fldK m.1)[i] := by
  unfold onlyI
  rw [List.take_succ_eq_append_getElem hi, List.foldl_append]
  rfl
theorem onlyI_all (m : Ms) (s : Sl) : onlyI m s (fldK m.1).length = onlyP m s := by unfold onlyI onlyP; rw [List.take_length]
abbrev boxesO (b9 b8 cF b5 b2 b1 : Nat) (st : DObj) (kd : Int) (m : Ms) (s : Sl) (y : Ms × Sl) : List (Nat × DObj) :=
  [(b9, st), (b8, .deferred), (cF, .cells [.int .i64 kd] none false none), (b5, .cells (cellsM y.1 y.2) none false none), (b2, .cells (cellsM (0, 0, 0, 0, 0, 0, 0, 0) ⟨none, 0, 0⟩) none false none), (b1, .cells (cellsM m s) none false none)]
set_option maxHeartbeats 2000000 in
theorem s54 {m : Ms} {s : Sl} {S : St} (g : Gl S) (h1 : 1 ≤ m.1) (h2 : m.1 ≤ 11) {k : Value → St → Prop} (hk : ∀ S', Ext S S' → k (sv G53 (mv (onlyP m s).1 (onlyP m s).2)) S') : WC E0 54 [sv G53 (mv m s)] S k := by
  refine w54 (mv m s) ?_
  unfold c54
  have hL := Hld.start noB S
  refine hL.new fun b1 S1 hL _ _ => ?_
  refine hL.new fun b2 S2 hL _ _ => ?_
  refine ptrW_of ?_
  refine hL.ld 1 rfl (by kernel_rfl) m.1 rfl ?_
  refine hL.new fun b5 S3 hL _ _ => ?_
  refine hL.st 0 9 rfl (by kernel_rfl) rfl (Nat.le_of_ble_eq_true rfl) rfl rfl fun S4 hL _ => ?_
  refine ptrW_of ?_
  refine hL.ld 2 rfl (by kernel_rfl) m.1 rfl ?_
  refine evC_of (w39 m.1 ?_)
  unfold c39
  refine hL.new fun cF S5 hL _ _ => ⟨_, rfl, ?_⟩
  refine hL.new fun b8 S6 hL _ _ => ?_
  rintro b9 S7 L rfl rfl hLL hRH
  have hL := hL.record (o := L .ready none)
  generalize (S6.alloc (L .ready none)).2 = S7 at hL ⊢
  generalize hb9 : S6.next = b9 at hL hRH ⊢
  refine WG_of rfl (s52 (kd := m.1) (g.ext hL.mod) h1 h2 (hL.at 2 rfl) (fun t S' => Hld noB S S' (boxesO b9 b8 cF b5 b2 b1 (L .ready none) m.1 m s (onlyI m s t))) ?_ ?_ ?_)
  · exact hL
  · intro t ht S' hL
    refine hRH _ S' _ ?_
    refine hL.has 0 rfl ?_
    refine hL.has 0 rfl ?_
    refine hL.upd 0 rfl fun S9 hL _ => ?_
    have hsucc := onlyI_succ (s := s) ht
    have hrg := fld_range h1 h2 _ (List.getElem_mem ht)
    generalize (fldK m.1)[t] = f at hsucc hrg ⊢
    generalize onlyI m s t = y at hL hsucc
    obtain ⟨y, ys⟩ := y
    refine ifW_dec (fun hf => ?_) fun hf1 => ?_
    · subst hf
      refine ptrW_of ?_
      refine hL.ld 5 rfl (by kernel_rfl) _ rfl ?_
      refine ptrW_of ?_
      refine hL.st 3 1 rfl (by kernel_rfl) rfl (Nat.le_of_ble_eq_true rfl) rfl rfl fun S10 hL _ => ?_
      refine hL.has 0 rfl ?_
      refine hL.upd 0 rfl fun S11 hL _ => ?_
      exact ⟨fun _ => by rw [hsucc]; exact hL, fun h => by cases h⟩
    refine ifW_dec (fun hf => ?_) fun hf2 => ?_
    · subst hf
      refine ptrW_of ?_
      refine hL.ld 5 rfl (by kernel_rfl) _ rfl ?_
      refine ptrW_of ?_
      refine hL.st 3 1 rfl (by kernel_rfl) rfl (Nat.le_of_ble_eq_true rfl) rfl rfl fun S10 hL _ => ?_
      refine hL.has 0 rfl ?_
      refine hL.upd 0 rfl fun S11 hL _ => ?_
      exact ⟨fun _ => by rw [hsucc]; exact hL, fun h => by cases h⟩
    refine ifW_dec (fun hf => ?_) fun hf3 => ?_
    · subst hf
      refine ptrW_of ?_
      refine hL.ld 5 rfl (by kernel_rfl) _ rfl ?_
      refine ptrW_of ?_
      refine hL.st 3 1 rfl (by kernel_rfl) rfl (Nat.le_of_ble_eq_true rfl) rfl rfl fun S10 hL _ => ?_
      refine hL.has 0 rfl ?_
      refine hL.upd 0 rfl fun S11 hL _ => ?_
      exact ⟨fun _ => by rw [hsucc]; exact hL, fun h => by cases h⟩
    refine ifW_dec (fun hf => ?_) fun hf4 => ?_
    · subst hf
      refine ptrW_of ?_
      refine hL.ld 5 rfl (by kernel_rfl) _ rfl ?_
      refine ptrW_of ?_
      refine hL.st 3 1 rfl (by kernel_rfl) rfl (Nat.le_of_ble_eq_true rfl) rfl rfl fun S10 hL _ => ?_
      refine hL.has 0 rfl ?_
      refine hL.upd 0 rfl fun S11 hL _ => ?_
      exact ⟨fun _ => by rw [hsucc]; exact hL, fun h => by cases h⟩
    refine ifW_dec (fun hf => ?_) fun hf5 => ?_
    · subst hf
      refine ptrW_of ?_
      refine hL.ld 5 rfl (by kernel_rfl) _ rfl ?_
      refine ptrW_of ?_
      refine hL.st 3 1 rfl (by kernel_rfl) rfl (Nat.le_of_ble_eq_true rfl) rfl rfl fun S10 hL _ => ?_
      refine hL.has 0 rfl ?_
      refine hL.upd 0 rfl fun S11 hL _ => ?_
      exact ⟨fun _ => by rw [hsucc]; exact hL, fun h => by cases h⟩
    refine ifW_dec (fun hf => ?_) fun hf6 => ?_
    · subst hf
      refine ptrW_of ?_
      refine hL.ld 5 rfl (by kernel_rfl) _ rfl ?_
      refine ptrW_of ?_
      refine hL.st 3 1 rfl (by kernel_rfl) rfl (Nat.le_of_ble_eq_true rfl) rfl rfl fun S10 hL _ => ?_
      refine hL.has 0 rfl ?_
      refine hL.upd 0 rfl fun S11 hL _ => ?_
      exact ⟨fun _ => by rw [hsucc]; exact hL, fun h => by cases h⟩
    refine ifW_dec (fun hf => ?_) fun hf7 => ?_
    · subst hf
      refine ptrW_of ?_
      refine hL.ld 5 rfl (by kernel_rfl) _ rfl ?_
      refine ptrW_of ?_
      refine hL.st 3 1 rfl (by kernel_rfl) rfl (Nat.le_of_ble_eq_true rfl) rfl rfl fun S10 hL _ => ?_
      refine hL.has 0 rfl ?_
      refine hL.upd 0 rfl fun S11 hL _ => ?_
      exact ⟨fun _ => by rw [hsucc]; exact hL, fun h => by cases h⟩
    refine ifW_dec (fun hf => ?_) fun hf8 => ?_
    · subst hf
      refine ptrW_of ?_
      refine hL.ld 5 rfl (by kernel_rfl) _ rfl ?_
      refine ptrW_of ?_
      refine hL.st 3 1 rfl (by kernel_rfl) rfl (Nat.le_of_ble_eq_true rfl) rfl rfl fun S10 hL _ => ?_
      refine hL.has 0 rfl ?_
      refine hL.upd 0 rfl fun S11 hL _ => ?_
      exact ⟨fun _ => by rw [hsucc]; exact hL, fun h => by cases h⟩
    omega
  · intro S' hL
    rw [onlyI_all] at hL
    refine .inl ?_
    refine hL.has 0 rfl ?_
    refine hL.upd 0 rfl fun S41 hL _ => ?_
    refine hL.lda 3 rfl (by kernel_rfl) (mv (onlyP m s).1 (onlyP m s).2) rfl ?_
    refine hL.st 4 9 rfl (by kernel_rfl) rfl (Nat.le_of_ble_eq_true rfl) rfl rfl fun S42 hL _ => ?_
    refine hL.has 1 rfl ?_
    refine hL.upd 1 rfl fun S43 hL _ => ?_
    refine hL.lda 4 rfl (by kernel_rfl) (mv (onlyP m s).1 (onlyP m s).2) rfl ?_
    exact hk S43 hL.mod
/-- What was taken names nothing but what its kind names. -/
theorem only_msg {k : Int} (h1 : 1 ≤ k) (h2 : k ≤ 11) (r : Rd) (s : Sl) : (msgP k r).1.1 = k ∧ (onlyP (msgP k r).1 s).1 = (msgP k r).1 ∧ ((onlyP (msgP k r).1 s).2 = s ∨ (onlyP (msgP k r).1 s).2 = ⟨none, 0, 0⟩ ∧ (msgP k r).2.1 = []) := by
  rcases kind_case h1 h2 with rfl | rfl | rfl | rfl | rfl | rfl | rfl | rfl | rfl | rfl | rfl
  · exact ⟨rfl, rfl, .inr ⟨rfl, rfl⟩⟩
  · exact ⟨rfl, rfl, .inr ⟨rfl, rfl⟩⟩
  · exact ⟨rfl, rfl, .inr ⟨rfl, rfl⟩⟩
  · exact ⟨rfl, rfl, .inr ⟨rfl, rfl⟩⟩
  · exact ⟨rfl, rfl, .inr ⟨rfl, rfl⟩⟩
  · exact ⟨rfl, rfl, .inr ⟨rfl, rfl⟩⟩
  · exact ⟨rfl, rfl, .inr ⟨rfl, rfl⟩⟩
  · exact ⟨rfl, rfl, .inr ⟨rfl, rfl⟩⟩
  · exact ⟨rfl, rfl, .inr ⟨rfl, rfl⟩⟩
  · exact ⟨rfl, rfl, .inr ⟨rfl, rfl⟩⟩
  · exact ⟨rfl, rfl, .inl rfl⟩
end
end Go.Proofs.YtgdijpcopdgapaaDoor
