/- Parts of the proof, put together. -/
import Derived.Test.YtgdijpcopdgapaaCB
import Derived.Lib.IndexBytes
import Derived.Lib.IndexAny
/- Robots: the base: bytes, strings, boxes and own lists that grow. -/
namespace Go.Proofs.Ytgdijpcopdgapaa
open Go Go.Proofs.Ytgdijpcopdgapaa.D
set_option linter.unusedVariables false
set_option linter.unusedSimpArgs false
noncomputable section

theorem und9 : E0.und 9 = some .string := by kernel_rfl
abbrev strV (l : List UInt8) : Value := .string ⟨l.toArray⟩
theorem load1_at {S : St} {b o : Nat} {cs : List Value} {more : Option Nat} {ro : Bool} {fz : Option (Nat × Nat)} (h : At S b (.cells cs more ro fz)) : S.load1 b o = cs[o]? := by
  unfold St.load1
  rw [h.get]
theorem ofNat_toNat {n : Nat} (h : n < 256) : (UInt8.ofNat n).toNat = n := by
  simp; omega
theorem und64 : E0.und 64 = some (.slice 5) := by kernel_rfl
theorem und5 : E0.und 5 = some (.int .u8) := by kernel_rfl
theorem size5 : E0.size 5 = some 1 := by kernel_rfl
abbrev byV (c : UInt8) : Value := .int .u8 (c.toNat : Int)
theorem byteOf_by (c : UInt8) : byteOfV (byV c) = some c := by
  show some (UInt8.ofNat ((c.toNat : Int)).toNat) = some c
  simp
theorem mapM_by (l : List UInt8) : (l.map byV).mapM byteOfV = some l := by
  induction l with
  | nil => rfl
  | cons c l ih => rw [List.map_cons, List.mapM_cons, byteOf_by, ih]; rfl
theorem conv_str {S : St} {b o cap : Nat} {l : List UInt8} (h : S.loadN b o l.length = some (l.map byV)) (h0 : l ≠ []) : convertD E0 S 64 9 (.slice (some ⟨b, o, none⟩) l.length cap) = some (strV l, S) := by
  have hl : Nat.beq l.length 0 = false := Bool.eq_false_iff.2 fun hh => h0 (List.length_eq_zero_iff.1 (Nat.eq_of_beq_eq_true hh))
  simp only [convertD, und64, und9, und5, hl, cond_false, h, Option.bind_some, mapM_by, Option.map_some]
theorem loadN_of {S : St} {b o n : Nat} {cs vs : List Value} {more : Option Nat} {ro : Bool} {fz : Option (Nat × Nat)} (h : At S b (.cells cs more ro fz)) (hv : (cs.drop o).take n = vs) (hl : vs.length = n) : S.loadN b o n = some vs := by
  subst hv
  simp only [St.loadN, h.get, hl, Nat.beq_refl, cond_true]
theorem inf9 : E0.inf 9 = some DEnv.i9 := by kernel_rfl
theorem bytes9 : DEnv.i9.bytes = 16 := by kernel_rfl
theorem cat_eq {a b : List UInt8} (h : a.length + b.length ≤ 9223372036854775807) : catD ⟨a.toArray⟩ ⟨b.toArray⟩ = some (strV (a ++ b)) := by
  have h1 : decide (((a.length + b.length : Nat) : Int) ≤ 9223372036854775807) = true := decide_eq_true (by omega)
  show cond (decide (((a.length + b.length : Nat) : Int) ≤ 9223372036854775807)) (some (strV (a ++ b))) none = _
  rw [h1]; rfl

/-! ### Digits -/
theorem lt_inex : (4000000000 : Nat) < inex := by decide
theorem inf5 : E0.inf 5 = some DEnv.i5 := by kernel_rfl
theorem agg5 : aggD DEnv.i5.und = false := by kernel_rfl
theorem bytes5 : DEnv.i5.bytes = 1 := by kernel_rfl
abbrev byC (c : UInt8) : List Value := [byV c]
abbrev Bs (S : St) (s : Sl) (l : List UInt8) : Prop := SlOf byC 1 S s l
theorem siz5 : DEnv.i5.size = 1 := by kernel_rfl
theorem zer5 : DEnv.i5.zero = some (.int .u8 0) := by kernel_rfl
theorem tag5 : tagA E0 5 1 = 5 + TB := by kernel_rfl
theorem flat_by (l : List UInt8) : l.flatMap byC = l.map byV := by induction l with | nil => rfl | cons x l ih => simp [List.flatMap_cons, ih]
theorem all_by (v : List UInt8) : (v.map byV).all St.one = true := by
  rw [List.all_eq_true]
  intro x hx
  obtain ⟨c, _, rfl⟩ := List.mem_map.1 hx
  rfl
def GB (S : St) (s : Sl) (l : List UInt8) : Prop :=
  (l = [] ∧ s = ⟨none, 0, 0⟩) ∨ ∃ b mk, (mk = 1 ∨ mk = 5 + TB) ∧ s = ⟨some ⟨b, 0, none⟩, l.length, inex⟩ ∧ At S b (.cells (l.map byV) (some mk) false none)
theorem GB.len {S : St} {s : Sl} {l : List UInt8} (h : GB S s l) : s.len = l.length := by
  rcases h with ⟨rfl, rfl⟩ | ⟨b, mk, _, rfl, _⟩ <;> rfl
theorem GB.of {S : St} {s : Sl} {l : List UInt8} (h : GB S s l) : Bs S s l := by
  rcases h with ⟨rfl, rfl⟩ | ⟨b, mk, _, rfl, hat⟩
  · exact ⟨rfl, fun h => (h rfl).elim⟩
  · refine ⟨rfl, fun _ => ⟨b, 0, _, _, _, _, rfl, hat, ?_⟩⟩
    rw [List.drop_zero, List.take_of_length_le (by simp), flat_by]
theorem GB.lt {S : St} {s : Sl} {l : List UInt8} (h : GB S s l) {c : Nat} (hc : slO s c) : c < S.next := by
  rcases h with ⟨rfl, rfl⟩ | ⟨b, mk, _, rfl, hat⟩
  · obtain ⟨o, hc⟩ := hc; cases hc
  · obtain ⟨o, hc⟩ := hc; cases hc; exact hat.lt
theorem GB.frm {s : Sl} {l : List UInt8} : Frm (slO s) (fun S => GB S s l) := by
  intro F S S' m hF h
  rcases h with ⟨rfl, rfl⟩ | ⟨b, mk, hm, rfl, hat⟩
  · exact .inl ⟨rfl, rfl⟩
  · exact .inr ⟨b, mk, hm, rfl, m.at hat (hF b ⟨0, rfl⟩)⟩
theorem GB.nil {S : St} : GB S ⟨none, 0, 0⟩ [] := .inl ⟨rfl, rfl⟩
theorem GB.append {S : St} {s : Sl} {l : List UInt8} (h : GB S s l) {xt : TypeId} {xd : TypeDesc} {x : Value} {v : List UInt8} (hxt : E0.und xt = some xd) (ha : apK xd = true) (hn : lenOfD x = some v.length) (hx : firstD S 1 v.length x = some (v.map byV)) (hv : v ≠ [])
    (hl : l.length + v.length ≤ 1000000000) {k : Sl → St → Prop} (hk : ∀ s' S', GB S' s' (l ++ v) → Mod (slO s) S S' → (∀ c, slO s' c → slO s c ∨ S.next ≤ c) → k s' S') : evP tS (appendD E0 S 64 xt (.slice s.a s.len s.cap) x) k := by
  have hv0 : ¬ v.length = 0 := fun hh => hv (List.length_eq_zero_iff.1 hh)
  have g0 : Nat.beq v.length 0 = false := Bool.eq_false_iff.2 fun hh => hv0 (Nat.eq_of_beq_eq_true hh)
  have g1 : Nat.beq (cellsOf (.int .u8 0)).length 1 = true := rfl
  have g2 : Nat.blt 0 1 = true := rfl
  have g3 : Nat.beq (v.map byV).length (v.length * 1) = true := by rw [List.length_map, Nat.mul_one, Nat.beq_refl]
  have g6 : Nat.blt 1 TB = true := by decide
  have g7 : Nat.blt 5 TB = true := by decide
  rcases h with ⟨rfl, rfl⟩ | ⟨b, mk, hm, rfl, hat⟩
  · have g4 : Nat.ble ((0 + v.length) * 1) 17592186044416 = true := Nat.ble_eq_true_of_le (by omega)
    have g5 : Nat.ble (0 + v.length) 17592186044416 = true := Nat.ble_eq_true_of_le (by omega)
    refine ⟨⟨some ⟨S.next, 0, none⟩, v.length, inex⟩, (S.alloc (.cells (v.map byV) (some (5 + TB)) false none)).2, ?_, hk _ _ ?_ (alloc_ext.mono fun _ h => h.elim) fun c hc => ?_⟩
    · simp only [appendD, und64, inf5, siz5, bytes5, zer5, tag5, hxt, ha, cond_true, Option.bind_some, hn, hx, g0, g1, g2, g3, g4, g5, g6, g7, Bool.and_true, cond_false]
      rfl
    · exact .inr ⟨S.next, 5 + TB, .inr rfl, by rw [List.nil_append], by rw [List.nil_append]; exact alloc_at⟩
    · obtain ⟨o, hc⟩ := hc; cases hc; exact .inr (Nat.le_refl _)
  · have g4 : Nat.ble ((l.length + v.length) * 1) 17592186044416 = true := Nat.ble_eq_true_of_le (by omega)
    have g5 : Nat.ble (l.length + v.length) 17592186044416 = true := Nat.ble_eq_true_of_le (by omega)
    have g8 : (Nat.beq mk 1 || Nat.beq mk (5 + TB) && Nat.beq 1 1) = true := by rcases hm with rfl | rfl <;> decide
    have g9 : Nat.ble (0 + (l.length + v.length) * 1) (l.map byV).length = false := Bool.eq_false_iff.2 fun hh => by have := Nat.le_of_ble_eq_true hh; simp at this; omega
    have g10 : Nat.ble (0 + l.length * 1) (l.map byV).length = true := Nat.ble_eq_true_of_le (by simp)
    have g11 : ((l.map byV).drop 0).take (l.length * 1) = l.map byV := by rw [List.drop_zero, List.take_of_length_le (by simp)]
    have g12 : Nat.beq inex inex = true := Nat.beq_refl _
    have g13 : Nat.beq 0 0 = true := rfl
    have g14 : l.map byV ++ v.map byV = (l ++ v).map byV := by rw [List.map_append]
    refine ⟨⟨some ⟨S.next, 0, none⟩, l.length + v.length, inex⟩, ((S.upd b .dead).alloc (.cells ((l ++ v).map byV) (some mk) false none)).2, ?_, hk _ _ ?_ ?_ fun c hc => ?_⟩
    · simp only [appendD, und64, inf5, siz5, bytes5, zer5, tag5, hxt, ha, cond_true, Option.bind_some, hn, hx, g0, g1, g2, g3, g4, g5, g6, g7, Bool.and_true, cond_false, g12, hat.get, g8, g9, g10, g11, g13, Bool.not_false, all_by, St.fzOk, Option.map_none, g14]
      rfl
    · exact .inr ⟨S.next, mk, hm, by rw [List.length_append], alloc_at⟩
    · exact ((upd_mod (S := S) (b := b) (o := .dead)).mono fun c h _ => h ▸ ⟨0, rfl⟩).tr alloc_ext
    · obtain ⟨o, hc⟩ := hc; cases hc; exact .inr (Nat.le_refl _)
theorem first_box {S : St} {b : Nat} {c : UInt8} {more : Option Nat} {ro : Bool} {fz : Option (Nat × Nat)} (h : At S b (.cells [byV c] more ro fz)) : firstD S 1 [c].length (.slice (some ⟨b, 0, none⟩) 1 1) = some ([c].map byV) := firstD_box (f := byC) (sz := 1) (fun _ => rfl) (by omega) h
theorem sliceD_s {S : St} {l : List UInt8} {lo hi : Option Value} {a b : Nat} (h1 : optNat (some 0) lo = some a) (h2 : optNat (some l.length) hi = some b) (hab : a ≤ b) (hb : b ≤ l.length) : sliceD E0 S 9 (strV l) lo hi none = some (strV ((l.drop a).take (b - a))) := by
  have hnone : (none : Option Value).isNone = true := rfl
  simp only [sliceD, und9, List.size_toArray, h1, h2, Option.bind_some, Nat.ble_eq_true_of_le hab, Nat.ble_eq_true_of_le hb, hnone, Bool.and_self, cond_true]
end
end Go.Proofs.Ytgdijpcopdgapaa

/- Robots: lines of a text, and rows. -/
namespace Go.Proofs.Ytgdijpcopdgapaa
open Go Go.Proofs.Ytgdijpcopdgapaa.D
set_option linter.unusedVariables false
set_option linter.unusedSimpArgs false
noncomputable section

/-! ### Lines -/
def headN (c : UInt8) : List (List UInt8) → List (List UInt8)
  | [] => [[c]]
  | h :: t => (c :: h) :: t
/-- A text's lines, with their ends. -/
def lnsP : List UInt8 → List (List UInt8)
  | [] => []
  | c :: r => if c = 10 then [10] :: lnsP r else headN c (lnsP r)
theorem lnsP_nl : ∀ {a : List UInt8} (r : List UInt8), (10 : UInt8) ∉ a → lnsP (a ++ 10 :: r) = (a ++ [10]) :: lnsP r
  | [], r, _ => by simp [lnsP]
  | c :: a, r, h => by
    have hc : ¬ c = 10 := fun e => h (by simp [e])
    have := lnsP_nl (a := a) r fun hh => h (by simp [hh])
    show (if c = 10 then [10] :: lnsP (a ++ 10 :: r) else headN c (lnsP (a ++ 10 :: r))) = _
    rw [if_neg hc, this]
    rfl
theorem lnsP_one : ∀ {a : List UInt8}, (10 : UInt8) ∉ a → a ≠ [] → lnsP a = [a]
  | [], _, h => (h rfl).elim
  | [c], h, _ => by
    have hc : ¬ c = 10 := fun e => h (by simp [e])
    show (if c = 10 then [10] :: lnsP [] else headN c (lnsP [])) = _
    rw [if_neg hc]; rfl
  | c :: d :: a, h, _ => by
    have hc : ¬ c = 10 := fun e => h (by simp [e])
    have := lnsP_one (a := d :: a) (fun hh => h (by simp [hh])) (by simp)
    show (if c = 10 then [10] :: lnsP (d :: a) else headN c (lnsP (d :: a))) = _
    rw [if_neg hc, this]
    rfl
theorem ib_cases (c : UInt8) : ∀ l : List UInt8, (Lib.indexByte l c = -1 ∧ c ∉ l) ∨ ∃ a r, l = a ++ c :: r ∧ c ∉ a ∧ Lib.indexByte l c = (a.length : Int)
  | [] => .inl ⟨rfl, by simp⟩
  | b :: l => by
    by_cases hb : b = c
    · subst hb
      exact .inr ⟨[], l, rfl, by simp, by simp [Lib.indexByte]⟩
    · have hbc : (b == c) = false := by simpa using hb
      rcases ib_cases c l with ⟨h1, h2⟩ | ⟨a, r, h1, h2, h3⟩
      · refine .inl ⟨?_, by simp [h2, Ne.symm hb]⟩
        unfold Lib.indexByte
        rw [hbc, h1]
        rfl
      · refine .inr ⟨b :: a, r, by rw [h1]; rfl, by simp [h2, Ne.symm hb], ?_⟩
        unfold Lib.indexByte
        rw [hbc, h3]
        have : ((a.length : Int) == -1) = false := by rw [beq_eq_false_iff_ne]; omega
        rw [this]
        simp
theorem s56 {S : St} {l : List UInt8} {c : UInt8} {k : Value → St → Prop} (hk : k (.int .i64 (Lib.indexByte l c)) S) : WC E0 56 [strV l, byV c] S k := by
  refine WC_prim (E := E0) (f := 56) rfl (show withS idxP [strV l, byV c] S = some (.int .i64 (Lib.indexByte l c), S) from ?_) hk
  have e : ((c.toNat : Int)).toNat.toUInt8 = c := by simp
  show some (Value.int .i64 (Lib.indexByte l ((c.toNat : Int)).toNat.toUInt8), S) = _
  rw [e]
theorem s34 {S : St} {l : List UInt8} {c : UInt8} {k : Value → St → Prop} (hk : k (.int .i64 (Lib.indexByte l c)) S) : WC E0 34 [strV l, byV c] S k := by
  refine w34 _ _ ?_
  unfold c34
  exact evC_of (s56 ⟨_, rfl, hk⟩)
abbrev knownL : List UInt8 := [35, 46, 60, 62, 94, 118]
theorem s37 {S : St} {c : UInt8} {k : Value → St → Prop} (hk : k (.bool (knownL.contains c)) S) : WC E0 37 [byV c] S k := by
  refine w37 _ ?_
  unfold c37
  refine evC_of (s34 (l := knownL) ⟨_, rfl, ?_⟩)
  rw [leI_eq, ← Lib.contains_iff_indexByte]
  exact hk
/-- Where the lines end. -/
def nlB (l : List UInt8) : Bool := l.getLast? == some 10
def trm (l : List UInt8) : List UInt8 := if nlB l then l.dropLast else l
theorem s57 {S : St} {l : List UInt8} {k : Value → St → Prop} (hlen : l.length ≤ 100000000) (hk : k (.bool (nlB l)) S) : WC E0 57 [strV l, strV [10]] S k := by
  refine w57 _ _ ?_
  unfold c57
  refine ifW_dec (fun hle => ?_) fun hle => ?_
  · have hpos : 0 < l.length := by simp at hle; omega
    have hw : wrapI .i64 ((l.length : Int) - (([10] : List UInt8).length : Int)) = ((l.length - 1 : Nat) : Int) := by
      rw [wrap_i64 (by simp; omega) (by simp; omega)]; simp; omega
    rw [hw]
    refine evV_of (ty := tT) _ (sliceD_s (a := l.length - 1) (b := l.length) (natOf_int (k := .i64)) rfl (by omega) (Nat.le_refl _)) ?_
    have e : ((l.drop (l.length - 1)).take (l.length - (l.length - 1)) == [10]) = nlB l := by
      rcases List.eq_nil_or_concat l with rfl | ⟨t, c, rfl⟩
      · simp at hpos
      · unfold nlB
        simp
    rw [e]
    exact hk
  · have h0 : l = [] := List.length_eq_zero_iff.1 (by simp at hle; omega)
    subst h0
    exact hk
theorem sliceD_trm {S : St} {l : List UInt8} (hlen : l.length ≤ 100000000) (h : nlB l = true) : sliceD E0 S 9 (strV l) none (some (.int .i64 (wrapI .i64 ((l.length : Int) - (([10] : List UInt8).length : Int))))) none = some (strV l.dropLast) := by
  have hpos : 0 < l.length := by
    cases l with
    | nil => cases h
    | cons => simp
  have hw : wrapI .i64 ((l.length : Int) - (([10] : List UInt8).length : Int)) = ((l.length - 1 : Nat) : Int) := by
    rw [wrap_i64 (by simp; omega) (by simp; omega)]; simp; omega
  rw [hw]
  have := sliceD_s (S := S) (l := l) (lo := none) (hi := some (.int .i64 ((l.length - 1 : Nat) : Int))) (a := 0) (b := l.length - 1) rfl (natOf_int (k := .i64)) (by omega) (by omega)
  rw [this, List.drop_zero, Nat.sub_zero, List.dropLast_eq_take]
theorem s14 {S : St} {l : List UInt8} {k : Value → St → Prop} (hlen : l.length ≤ 100000000) (hk : k (strV (trm l)) S) : WC E0 14 [strV l, strV [10]] S k := by
  refine w14 _ _ ?_
  unfold c14
  refine evC_of (w35 _ _ ?_)
  unfold c35
  refine evC_of (s57 hlen ⟨_, rfl, ?_⟩)
  refine ifW_of (fun h => ?_) fun h => ?_
  · refine evV_of (ty := tT) l.dropLast (sliceD_trm hlen h) ⟨_, rfl, ?_⟩
    rw [show trm l = l.dropLast from if_pos h] at hk
    exact hk
  · rw [show trm l = l from if_neg (by rw [h]; simp)] at hk
    exact ⟨_, rfl, hk⟩
theorem s36 {S : St} {l : List UInt8} {k : Value → St → Prop} (hlen : l.length ≤ 100000000) (hk : k (.tuple #[strV (trm l), .bool (nlB l)]) S) : WC E0 36 [strV l, strV [10]] S k := by
  refine w36 _ _ ?_
  unfold c36
  refine evC_of (w58 _ _ ?_)
  unfold c58
  refine evC_of (s57 hlen ⟨_, rfl, ?_⟩)
  refine ifW_of (fun h => ?_) fun h => ?_
  · have h : nlB l = false := by simpa using h
    rw [show trm l = l from if_neg (by rw [h]; simp), h] at hk
    exact ⟨(l, false), rfl, hk⟩
  · have h : nlB l = true := by simpa using h
    refine evV_of (ty := tT) l.dropLast (sliceD_trm hlen h) ⟨(l.dropLast, true), rfl, ?_⟩
    rw [show trm l = l.dropLast from if_pos h, h] at hk
    exact hk
/-- A row may be, of so many columns. -/
def rowOk (cols : Nat) (l : List UInt8) : Prop := nlB l = true ∧ (trm l).length = cols ∧ 0 < cols ∧ ∀ c ∈ trm l, knownL.contains c = true
theorem s15 {S : St} {l : List UInt8} {cols : Nat} {k : Value → St → Prop} (hlen : l.length ≤ 100000000) (hcols : cols ≤ 1000) (hk : ∀ n : Int, 0 ≤ n → (n = 0 ↔ rowOk cols l) → k (.int .i64 n) S) : WC E0 15 [strV l, .int .i64 (cols : Int)] S k := by
  refine w15 _ _ ?_
  unfold c15
  refine evC_of (s36 hlen ⟨(trm l, nlB l), rfl, ?_⟩)
  have htl : (trm l).length ≤ l.length := by unfold trm; split <;> simp
  refine loopW_ind (fun q (n : Int) S' => ∃ i : Nat, n = (i : Int) ∧ i ≤ (trm l).length ∧ i ≤ cols ∧ q = (trm l).length - i ∧ (∀ c ∈ (trm l).take i, knownL.contains c = true) ∧ S' = S) (m := (trm l).length) ⟨0, rfl, by omega, by omega, rfl, by simp, rfl⟩ ?_
  rintro P q n S1 ⟨i, rfl, hi, hic, rfl, hkn, rfl⟩ hP
  dsimp only
  refine ifW_dec (fun hlt => ?_) fun hlt => ?_
  · have hi' : i < (trm l).length := by omega
    refine evV_of (ty := tU8) _ (indexD_str und9 hi') ?_
    refine evC_of (s37 ⟨_, rfl, ?_⟩)
    refine ifW_of (fun h => ?_) fun h => ?_
    · have h : knownL.contains (trm l)[i] = false := by rw [Bool.not_eq_true'] at h; exact h
      rw [wrap_succ (by omega)]
      refine hk _ (by omega) ⟨fun h => by omega, fun hr => ?_⟩
      have := hr.2.2.2 _ (List.getElem_mem hi')
      rw [h] at this; cases this
    · have h : knownL.contains (trm l)[i] = true := by rw [Bool.not_eq_false'] at h; exact h
      refine ifW_dec (fun hge => ?_) fun hge => ?_
      · rw [wrap_succ (by omega)]
        refine hk _ (by omega) ⟨fun h => by omega, fun hr => ?_⟩
        have := hr.2.1
        omega
      · rw [wrap_succ (by omega)]
        refine hP _ _ _ (by omega) ⟨i + 1, rfl, by omega, by omega, rfl, fun c hc => ?_, rfl⟩
        rw [List.take_succ_eq_append_getElem hi', List.mem_append, List.mem_singleton] at hc
        rcases hc with hc | rfl
        · exact hkn c hc
        · exact h
  · have e : i = (trm l).length := by omega
    subst e
    rw [List.take_length] at hkn
    intro k2 hk2
    have fin : ∀ t : Bool, (t = false ↔ rowOk cols l) → k2 t S1 := by
      intro t ht
      refine hk2 t S1 (ifW_of (fun h => ?_) fun h => ?_)
      · rw [wrap_succ (by omega)]
        exact hk _ (by omega) ⟨fun h => by omega, fun hr => by rw [ht.2 hr] at h; cases h⟩
      · exact hk 0 (by omega) ⟨fun _ => ht.1 h, fun _ => rfl⟩
    refine ifW_of (fun h => ?_) fun h => ?_
    · refine fin true ⟨(fun h => by cases h), fun hr => ?_⟩
      have := hr.1
      simp [this] at h
    · have hnl : nlB l = true := by simpa using h
      refine ifW_dec (fun hlc => ?_) fun hlc => ?_
      · refine fin true ⟨(fun h => by cases h), fun hr => ?_⟩
        have := hr.2.1
        omega
      · rw [eqI_eq]
        refine fin _ ?_
        rw [decide_eq_false_iff_not]
        exact ⟨fun h0 => ⟨hnl, by omega, by omega, hkn⟩, fun hr => by have := hr.2.1; have := hr.2.2.1; omega⟩
/-- The lines, one by one. -/
theorem s33 {y : Value} {c1 : Nat} {S : St} {s : List UInt8} (hlen : s.length ≤ 1000000) (I J : Nat → St → Prop) {Q : St → Prop}
    (hm : ∀ i S', I i S' → At S' c1 (.cells [strV ((lnsP s).drop i).flatten] none false none))
    (hset : ∀ i S' S'', i < (lnsP s).length → I i S' → D.Mod (fun c => c = c1) S' S'' → At S'' c1 (.cells [strV ((lnsP s).drop (i + 1)).flatten] none false none) → S''.next = S'.next → J i S'') (h0 : I 0 S)
    (hstep : ∀ i (hi : i < (lnsP s).length) S', J i S' → evY E0 tB y [strV (lnsP s)[i]] S' fun t S'' => (t = true → I (i + 1) S'') ∧ (t = false → Q S'')) (hend : ∀ S', I (lnsP s).length S' → Q S') :
    WC E0 33 [y, .pointer (some ⟨c1, 0, none⟩)] S fun _ S' => Q S' := by
  refine w33 y c1 ?_
  unfold c33
  have hpc : ∀ r : List UInt8, r ≠ [] → r.length ≤ 1000000 → ∃ h t, lnsP r = h :: lnsP t ∧ r = h ++ t ∧ ((Lib.indexByte r 10 = -1 ∧ t = []) ∨ Lib.indexByte r 10 = ((h.length - 1 : Nat) : Int) ∧ 0 < h.length) := by
    intro r hr _
    rcases ib_cases 10 r with ⟨h1, h2⟩ | ⟨a, t, h1, h2, h3⟩
    · exact ⟨r, [], by rw [lnsP_one h2 hr]; rfl, by simp, .inl ⟨h1, rfl⟩⟩
    · refine ⟨a ++ [10], t, by rw [h1, lnsP_nl t h2], by rw [h1]; simp, .inr ⟨by rw [h3]; simp, by simp⟩⟩
  have hfl : ∀ n, ∀ r : List UInt8, r.length ≤ n → n ≤ 1000000 → (lnsP r).flatten = r := by
    intro n
    induction n with
    | zero =>
      intro r h _
      have : r = [] := List.length_eq_zero_iff.1 (by omega)
      subst this
      rfl
    | succ n ih =>
      intro r h hn
      by_cases hr : r = []
      · subst hr; rfl
      · obtain ⟨a, t, e1, e2, hor⟩ := hpc r hr (by omega)
        have ha : 0 < a.length := by
          rcases hor with ⟨_, rfl⟩ | ⟨_, h⟩
          · rw [List.append_nil] at e2; subst e2; exact List.length_pos_iff.2 hr
          · exact h
        rw [e1, List.flatten_cons, ih t (by have := congrArg List.length e2; simp at this; omega) (by omega), e2]
  have hdr : ∀ i, ∃ r : List UInt8, (lnsP s).drop i = lnsP r ∧ r.length ≤ s.length := by
    intro i
    induction i with
    | zero => exact ⟨s, rfl, Nat.le_refl _⟩
    | succ i ih =>
      obtain ⟨r, h1, h2⟩ := ih
      by_cases hr : r = []
      · subst hr
        refine ⟨[], ?_, by simp⟩
        rw [← List.drop_drop, h1]; rfl
      · obtain ⟨a, t, e1, e2, _⟩ := hpc r hr (by omega)
        refine ⟨t, ?_, by have := congrArg List.length e2; simp at this; omega⟩
        rw [← List.drop_drop, h1, e1]; rfl
  refine loopW_ind (fun q (x : PUnit) S' => ∃ i : Nat, i ≤ (lnsP s).length ∧ q = (lnsP s).length - i ∧ I i S') (m := (lnsP s).length) ⟨0, by omega, rfl, h0⟩ ?_
  rintro P q x S1 ⟨i, hi, rfl, hI⟩ hP
  have hat := hm i S1 hI
  obtain ⟨r, hr1, hr2⟩ := hdr i
  have hrf : ((lnsP s).drop i).flatten = r := by rw [hr1]; exact hfl s.length r hr2 (by omega)
  rw [hrf] at hat
  refine evV_of (ty := tT) r (load_one hat (by kernel_rfl)) ?_
  refine ifW_dec (fun hlt => ?_) fun hlt => ?_
  · have hr0 : r ≠ [] := by rintro rfl; simp at hlt
    obtain ⟨a, t, e1, e2, hor⟩ := hpc r hr0 (by omega)
    have hil : i < (lnsP s).length := by
      rcases Nat.lt_or_ge i (lnsP s).length with h | h
      · exact h
      · rw [List.drop_of_length_le h] at hr1; rw [← hr1] at e1; cases e1
    have hli : (lnsP s)[i] = a := by
      have := List.drop_eq_getElem_cons hil
      rw [hr1, e1] at this
      exact (List.cons.inj this).1.symm
    have htf : ((lnsP s).drop (i + 1)).flatten = t := by
      rw [← List.drop_drop, hr1, e1]
      exact hfl s.length t (by have := congrArg List.length e2; simp at this; omega) (by omega)
    have go : ∀ S', J i S' → evY E0 tB y [strV a] S' fun (t1 : Bool) (S3 : St) => ifW (!t1) (Q S3) (P PUnit.unit S3) := by
      intro S' hJ
      have := hstep i hil S' hJ
      rw [hli] at this
      refine WV.mono this ?_
      rintro v S3 ⟨t1, rfl, ht1, ht2⟩
      exact ⟨t1, rfl, ifW_of (fun h => ht2 (by simpa using h)) fun h => hP _ _ _ (by omega) ⟨i + 1, by omega, rfl, ht1 (by simpa using h)⟩⟩
    have st : ∀ {K : St → Prop}, (∀ S', J i S' → K S') → evS (storeV E0 S1 9 (.pointer (some ⟨c1, 0, none⟩)) (strV t)) K := by
      intro K hK
      refine ⟨_, store_cells (n := 1) hat (by kernel_rfl) rfl (Nat.le_refl _) rfl, hK _ ?_⟩
      refine hset i S1 _ hil hI upd_mod ?_ rfl
      rw [htf]
      exact upd_at hat
    intro k2 hk2
    refine evV_of (ty := tT) r (load_one hat (by kernel_rfl)) ?_
    refine evC_of (s34 (c := 10) ⟨_, rfl, ?_⟩)
    rcases hor with ⟨h1, h2⟩ | ⟨h1, h2⟩
    · refine ifW_dec (fun h => by rw [h1] at h; omega) fun _ => ?_
      refine evV_of (ty := tT) r (load_one hat (by kernel_rfl)) ?_
      subst h2
      rw [List.append_nil] at e2
      subst e2
      exact st fun S' hJ => hk2 _ _ (go S' hJ)
    · have hal : a.length ≤ r.length := by have := congrArg List.length e2; simp at this; omega
      refine ifW_dec (fun _ => ?_) fun h => by rw [h1] at h; omega
      rw [h1, wrap_succ (by omega), show a.length - 1 + 1 = a.length from by omega]
      refine evV_of (ty := tT) r (load_one hat (by kernel_rfl)) ?_
      have ea : sliceD E0 S1 9 (strV r) none (some (.int .i64 ((a.length : Nat) : Int))) none = some (strV a) := by
        rw [sliceD_s (l := r) (lo := none) (hi := some (.int .i64 ((a.length : Nat) : Int))) (a := 0) (b := a.length) rfl (natOf_int (k := .i64)) (by omega) hal, List.drop_zero, Nat.sub_zero, e2, List.take_left' rfl]
      refine evV_of (ty := tT) a ea ?_
      refine evV_of (ty := tT) r (load_one hat (by kernel_rfl)) ?_
      have et : sliceD E0 S1 9 (strV r) (some (.int .i64 ((a.length : Nat) : Int))) none none = some (strV t) := by
        rw [sliceD_s (l := r) (lo := some (.int .i64 ((a.length : Nat) : Int))) (hi := none) (a := a.length) (b := r.length) (natOf_int (k := .i64)) rfl hal (Nat.le_refl _), List.take_of_length_le (by simp), e2, List.drop_left' rfl]
      refine evV_of (ty := tT) t et ?_
      exact st fun S' hJ => hk2 _ _ (go S' hJ)
  · have hr0 : r = [] := List.length_eq_zero_iff.1 (by omega)
    subst hr0
    have hil : i = (lnsP s).length := by
      have : (lnsP s).drop i = [] := hr1
      rw [List.drop_eq_nil_iff] at this
      omega
    subst hil
    exact hend S1 hI
end
end Go.Proofs.Ytgdijpcopdgapaa

/- Robots: whether robots may be made so. -/
namespace Go.Proofs.Ytgdijpcopdgapaa
open Go Go.Proofs.Ytgdijpcopdgapaa.D
set_option linter.unusedVariables false
set_option linter.unusedSimpArgs false
noncomputable section

theorem join_of {α : Type} {X : α → St → Prop} {Y : (α → St → Prop) → Prop} (I : α → St → Prop) (h1 : ∀ x S, I x S → X x S) (h2 : ∀ k : α → St → Prop, (∀ x S, I x S → k x S) → Y k) : joinW X Y := fun k hk => h2 k fun x S h => hk x S (h1 x S h)
abbrev Cfg := Int × Int × Int × Int × Int × Int
def ruleOk (b p : Int) : Prop := 1 ≤ b ∧ b ≤ p ∧ p ≤ 4294967296
def cfgOk (c : Cfg) : Prop := 1 ≤ c.1 ∧ c.1 ≤ 64 ∧ 1 ≤ c.2.1 ∧ c.2.1 ≤ 4 ∧ 0 ≤ c.2.2.1 ∧ c.2.2.1 ≤ 15 ∧ ruleOk c.2.2.2.1 c.2.2.2.2.1 ∧ 1 ≤ c.2.2.2.2.2 ∧ c.2.2.2.2.2 ≤ 4294967296
abbrev cfgC (c : Cfg) : List Value := [.int .i64 c.1, .int .i64 c.2.1, .int .i64 c.2.2.1, .int .u64 c.2.2.2.1, .int .u64 c.2.2.2.2.1, .int .u64 c.2.2.2.2.2]
theorem s18 {S : St} {r : Int × Int} {k : Value → St → Prop} (hk : ∀ n S', Ext S S' → (n = 0 ↔ ruleOk r.1 r.2) → k (.int .i64 n) S') : WC E0 18 [sv G23 r] S k := by
  refine w18 r ?_
  unfold c18
  refine newW_of fun b S1 _ hat he _ => ?_
  refine ptrW_of (evV_of (ty := tU) r.1 (load_one hat (by kernel_rfl)) ?_)
  refine ifW_dec (fun h => hk _ _ he ⟨fun h => by omega, fun h' => by have := h'.1; omega⟩) fun h1 => ?_
  refine ptrW_of (evV_of (ty := tU) r.1 (load_one hat (by kernel_rfl)) ?_)
  refine ptrW_of (evV_of (ty := tU) r.2 (load_one hat (by kernel_rfl)) ?_)
  refine ifW_dec (fun h => hk _ _ he ⟨fun h => by omega, fun h' => by have := h'.2.1; omega⟩) fun h2 => ?_
  refine ptrW_of (evV_of (ty := tU) r.2 (load_one hat (by kernel_rfl)) ?_)
  refine ifW_dec (fun h => hk _ _ he ⟨fun h => by omega, fun h' => by have := h'.2.2; omega⟩) fun h3 => ?_
  exact hk _ _ he ⟨fun _ => ⟨by omega, by omega, by omega⟩, fun _ => rfl⟩
theorem s30 {S : St} {b p : Int} (h0 : 0 ≤ b) {k : Value → St → Prop} (hk : ∀ n, (n = 0 ↔ ruleOk b p) → k (.int .i64 n) S) : WC E0 30 [.int .u64 b, .int .u64 p] S k := by
  refine w30 _ _ ?_
  unfold c30
  refine ifW_dec (fun h => hk _ ⟨fun h => by omega, fun h' => by have := h'.1; omega⟩) fun h1 => ?_
  refine ifW_dec (fun h => hk _ ⟨fun h => by omega, fun h' => by have := h'.2.1; omega⟩) fun h2 => ?_
  refine ifW_dec (fun h => hk _ ⟨fun h => by omega, fun h' => by have := h'.2.2; omega⟩) fun h3 => ?_
  exact hk _ ⟨fun _ => ⟨by omega, by omega, by omega⟩, fun _ => rfl⟩
theorem s6 {S : St} {c : Cfg} {k : Value → St → Prop} (hk : ∀ n S', Ext S S' → (n = 0 ↔ cfgOk c) → k (.int .i64 n) S') : WC E0 6 [sv G25 c] S k := by
  refine w6 c ?_
  unfold c6
  refine newW_of fun b S1 _ hat he _ => ?_
  have mk : ∀ (P : Prop) (t : Bool) (S2 : St), (t = true ↔ P) → At S2 b (.cells (cfgC c) none false none) → Ext S S2 → (t = true ↔ P) ∧ At S2 b (.cells (cfgC c) none false none) ∧ Ext S S2 := fun _ _ _ h1 h2 h3 => ⟨h1, h2, h3⟩
  refine join_of (fun t S' => (t = true ↔ (c.1 < 1 ∨ 64 < c.1)) ∧ At S' b (.cells (cfgC c) none false none) ∧ Ext S S') (fun t1 S2 ⟨h1, hat, he⟩ => ?_) fun k1 hk1 => ?_
  rotate_left
  · refine ptrW_of (evV_of (ty := tI) c.1 (load_one hat (by kernel_rfl)) ?_)
    refine ifW_dec (fun h => hk1 _ _ ⟨⟨fun _ => .inl h, fun _ => rfl⟩, hat, he⟩) fun h => ?_
    refine ptrW_of (evV_of (ty := tI) c.1 (load_one hat (by kernel_rfl)) ?_)
    exact hk1 _ _ ⟨by rw [ltI_eq, decide_eq_true_iff]; exact ⟨.inr, fun hh => hh.resolve_left h⟩, hat, he⟩
  refine join_of (fun t S' => (t = true ↔ (t1 = true ∨ c.2.1 < 1)) ∧ At S' b (.cells (cfgC c) none false none) ∧ Ext S S') (fun t2 S3 ⟨h2, hat, he⟩ => ?_) fun k1 hk1 => ?_
  rotate_left
  · refine ifW_of (fun h => hk1 _ _ ⟨⟨fun _ => .inl h, fun _ => rfl⟩, hat, he⟩) fun h => ?_
    refine ptrW_of (evV_of (ty := tI) c.2.1 (load_one hat (by kernel_rfl)) ?_)
    exact hk1 _ _ ⟨by rw [ltI_eq, decide_eq_true_iff]; exact ⟨.inr, fun hh => hh.resolve_left (by rw [h]; simp)⟩, hat, he⟩
  refine join_of (fun t S' => (t = true ↔ (t2 = true ∨ 4 < c.2.1)) ∧ At S' b (.cells (cfgC c) none false none) ∧ Ext S S') (fun t3 S4 ⟨h3, hat, he⟩ => ?_) fun k1 hk1 => ?_
  rotate_left
  · refine ifW_of (fun h => hk1 _ _ ⟨⟨fun _ => .inl h, fun _ => rfl⟩, hat, he⟩) fun h => ?_
    refine ptrW_of (evV_of (ty := tI) c.2.1 (load_one hat (by kernel_rfl)) ?_)
    exact hk1 _ _ ⟨by rw [ltI_eq, decide_eq_true_iff]; exact ⟨.inr, fun hh => hh.resolve_left (by rw [h]; simp)⟩, hat, he⟩
  refine join_of (fun t S' => (t = true ↔ (t3 = true ∨ c.2.2.1 < 0)) ∧ At S' b (.cells (cfgC c) none false none) ∧ Ext S S') (fun t4 S5 ⟨h4, hat, he⟩ => ?_) fun k1 hk1 => ?_
  rotate_left
  · refine ifW_of (fun h => hk1 _ _ ⟨⟨fun _ => .inl h, fun _ => rfl⟩, hat, he⟩) fun h => ?_
    refine ptrW_of (evV_of (ty := tI) c.2.2.1 (load_one hat (by kernel_rfl)) ?_)
    exact hk1 _ _ ⟨by rw [ltI_eq, decide_eq_true_iff]; exact ⟨.inr, fun hh => hh.resolve_left (by rw [h]; simp)⟩, hat, he⟩
  refine join_of (fun t S' => (t = true ↔ (t4 = true ∨ 15 < c.2.2.1)) ∧ At S' b (.cells (cfgC c) none false none) ∧ Ext S S') (fun t5 S6 ⟨h5, hat, he⟩ => ?_) fun k1 hk1 => ?_
  rotate_left
  · refine ifW_of (fun h => hk1 _ _ ⟨⟨fun _ => .inl h, fun _ => rfl⟩, hat, he⟩) fun h => ?_
    refine ptrW_of (evV_of (ty := tI) c.2.2.1 (load_one hat (by kernel_rfl)) ?_)
    exact hk1 _ _ ⟨by rw [ltI_eq, decide_eq_true_iff]; exact ⟨.inr, fun hh => hh.resolve_left (by rw [h]; simp)⟩, hat, he⟩
  refine join_of (fun t S' => (t = true ↔ (t5 = true ∨ ¬ ruleOk c.2.2.2.1 c.2.2.2.2.1)) ∧ At S' b (.cells (cfgC c) none false none) ∧ Ext S S') (fun t6 S7 ⟨h6, hat, he⟩ => ?_) fun k1 hk1 => ?_
  rotate_left
  · refine ifW_of (fun h => hk1 _ _ ⟨⟨fun _ => .inl h, fun _ => rfl⟩, hat, he⟩) fun h => ?_
    refine ptrW_of (evV_of (ty := .one (.agg G23)) (c.2.2.2.1, c.2.2.2.2.1) (load_agg (n := 2) hat (by kernel_rfl) rfl rfl) ?_)
    refine evC_of (s18 fun n S' he' hn => ⟨n, rfl, ?_⟩)
    refine hk1 _ _ ⟨?_, he'.at hat, he.tr he'⟩
    rw [eqI_eq, Bool.not_eq_true', decide_eq_false_iff_not, hn]
    exact ⟨.inr, fun hh => hh.resolve_left (by rw [h]; simp)⟩
  refine join_of (fun t S' => (t = true ↔ (t6 = true ∨ c.2.2.2.2.2 < 1)) ∧ At S' b (.cells (cfgC c) none false none) ∧ Ext S S') (fun t7 S8 ⟨h7, hat, he⟩ => ?_) fun k1 hk1 => ?_
  rotate_left
  · refine ifW_of (fun h => hk1 _ _ ⟨⟨fun _ => .inl h, fun _ => rfl⟩, hat, he⟩) fun h => ?_
    refine ptrW_of (evV_of (ty := tU) c.2.2.2.2.2 (load_one hat (by kernel_rfl)) ?_)
    exact hk1 _ _ ⟨by rw [ltI_eq, decide_eq_true_iff]; exact ⟨.inr, fun hh => hh.resolve_left (by rw [h]; simp)⟩, hat, he⟩
  have hall : (t7 = true ∨ 4294967296 < c.2.2.2.2.2) ↔ ¬ cfgOk c := by
    rw [h7, h6, h5, h4, h3, h2, h1]
    unfold cfgOk
    by_cases hr : ruleOk c.2.2.2.1 c.2.2.2.2.1
    · simp only [hr]; simp only [true_and, not_true, false_or, or_false]; omega
    · simp [hr]
  refine ifW_of (fun h => hk _ _ he ⟨fun h => by omega, fun h' => (hall.1 (.inl h) h').elim⟩) fun h => ?_
  refine ptrW_of (evV_of (ty := tU) c.2.2.2.2.2 (load_one hat (by kernel_rfl)) ?_)
  refine ifW_dec (fun h => hk _ _ he ⟨fun h => by omega, fun h' => (hall.1 (.inr h) h').elim⟩) fun h' => ?_
  exact hk _ _ he ⟨fun _ => Classical.byContradiction fun hc => (hall.2 hc).elim (fun e => by rw [h] at e; cases e) h', fun _ => rfl⟩
theorem s9 {S : St} {c : Cfg} (h0 : 0 ≤ c.2.2.2.1) {k : Value → St → Prop} (hk : ∀ t S', Ext S S' → (t = true ↔ cfgOk c) → k (.bool t) S') : WC E0 9 [sv G25 c] S k := by
  refine w9 c ?_
  unfold c9
  refine newW_of fun b S1 _ hat he _ => ?_
  refine join_of (fun t S' => (t = true ↔ (1 ≤ c.1 ∧ c.1 ≤ 64)) ∧ At S' b (.cells (cfgC c) none false none) ∧ Ext S S') (fun t1 S2 ⟨h1, hat, he⟩ => ?_) fun k1 hk1 => ?_
  rotate_left
  · refine ptrW_of (evV_of (ty := tI) c.1 (load_one hat (by kernel_rfl)) ?_)
    refine ifW_dec (fun h => ?_) fun h => hk1 _ _ ⟨⟨(fun h => by cases h), fun h' => (h h'.1).elim⟩, hat, he⟩
    refine ptrW_of (evV_of (ty := tI) c.1 (load_one hat (by kernel_rfl)) ?_)
    exact hk1 _ _ ⟨by rw [leI_eq, decide_eq_true_iff]; exact ⟨fun hh => ⟨h, hh⟩, fun hh => hh.2⟩, hat, he⟩
  refine join_of (fun t S' => (t = true ↔ (t1 = true ∧ 1 ≤ c.2.1)) ∧ At S' b (.cells (cfgC c) none false none) ∧ Ext S S') (fun t2 S3 ⟨h2, hat, he⟩ => ?_) fun k1 hk1 => ?_
  rotate_left
  · refine ifW_of (fun h => ?_) fun h => hk1 _ _ ⟨⟨(fun h => by cases h), fun h' => by rw [h] at h'; cases h'.1⟩, hat, he⟩
    refine ptrW_of (evV_of (ty := tI) c.2.1 (load_one hat (by kernel_rfl)) ?_)
    exact hk1 _ _ ⟨by rw [leI_eq, decide_eq_true_iff]; exact ⟨fun hh => ⟨h, hh⟩, fun hh => hh.2⟩, hat, he⟩
  refine join_of (fun t S' => (t = true ↔ (t2 = true ∧ c.2.1 ≤ 4)) ∧ At S' b (.cells (cfgC c) none false none) ∧ Ext S S') (fun t3 S4 ⟨h3, hat, he⟩ => ?_) fun k1 hk1 => ?_
  rotate_left
  · refine ifW_of (fun h => ?_) fun h => hk1 _ _ ⟨⟨(fun h => by cases h), fun h' => by rw [h] at h'; cases h'.1⟩, hat, he⟩
    refine ptrW_of (evV_of (ty := tI) c.2.1 (load_one hat (by kernel_rfl)) ?_)
    exact hk1 _ _ ⟨by rw [leI_eq, decide_eq_true_iff]; exact ⟨fun hh => ⟨h, hh⟩, fun hh => hh.2⟩, hat, he⟩
  refine join_of (fun t S' => (t = true ↔ (t3 = true ∧ 0 ≤ c.2.2.1)) ∧ At S' b (.cells (cfgC c) none false none) ∧ Ext S S') (fun t4 S5 ⟨h4, hat, he⟩ => ?_) fun k1 hk1 => ?_
  rotate_left
  · refine ifW_of (fun h => ?_) fun h => hk1 _ _ ⟨⟨(fun h => by cases h), fun h' => by rw [h] at h'; cases h'.1⟩, hat, he⟩
    refine ptrW_of (evV_of (ty := tI) c.2.2.1 (load_one hat (by kernel_rfl)) ?_)
    exact hk1 _ _ ⟨by rw [leI_eq, decide_eq_true_iff]; exact ⟨fun hh => ⟨h, hh⟩, fun hh => hh.2⟩, hat, he⟩
  refine join_of (fun t S' => (t = true ↔ (t4 = true ∧ c.2.2.1 ≤ 15)) ∧ At S' b (.cells (cfgC c) none false none) ∧ Ext S S') (fun t5 S6 ⟨h5, hat, he⟩ => ?_) fun k1 hk1 => ?_
  rotate_left
  · refine ifW_of (fun h => ?_) fun h => hk1 _ _ ⟨⟨(fun h => by cases h), fun h' => by rw [h] at h'; cases h'.1⟩, hat, he⟩
    refine ptrW_of (evV_of (ty := tI) c.2.2.1 (load_one hat (by kernel_rfl)) ?_)
    exact hk1 _ _ ⟨by rw [leI_eq, decide_eq_true_iff]; exact ⟨fun hh => ⟨h, hh⟩, fun hh => hh.2⟩, hat, he⟩
  refine join_of (fun t S' => (t = true ↔ (t5 = true ∧ ruleOk c.2.2.2.1 c.2.2.2.2.1)) ∧ At S' b (.cells (cfgC c) none false none) ∧ Ext S S') (fun t6 S7 ⟨h6, hat, he⟩ => ?_) fun k1 hk1 => ?_
  rotate_left
  · refine ifW_of (fun h => ?_) fun h => hk1 _ _ ⟨⟨(fun h => by cases h), fun h' => by rw [h] at h'; cases h'.1⟩, hat, he⟩
    refine ptrW_of (evV_of (ty := tU) c.2.2.2.1 (load_one hat (by kernel_rfl)) ?_)
    refine ptrW_of (evV_of (ty := tU) c.2.2.2.2.1 (load_one hat (by kernel_rfl)) ?_)
    refine evC_of (s30 h0 fun n hn => ⟨n, rfl, ?_⟩)
    refine hk1 _ _ ⟨?_, hat, he⟩
    rw [eqI_eq, decide_eq_true_iff, hn]
    exact ⟨fun hh => ⟨h, hh⟩, fun hh => hh.2⟩
  refine join_of (fun t S' => (t = true ↔ (t6 = true ∧ 1 ≤ c.2.2.2.2.2)) ∧ At S' b (.cells (cfgC c) none false none) ∧ Ext S S') (fun t7 S8 ⟨h7, hat, he⟩ => ?_) fun k1 hk1 => ?_
  rotate_left
  · refine ifW_of (fun h => ?_) fun h => hk1 _ _ ⟨⟨(fun h => by cases h), fun h' => by rw [h] at h'; cases h'.1⟩, hat, he⟩
    refine ptrW_of (evV_of (ty := tU) c.2.2.2.2.2 (load_one hat (by kernel_rfl)) ?_)
    exact hk1 _ _ ⟨by rw [leI_eq, decide_eq_true_iff]; exact ⟨fun hh => ⟨h, hh⟩, fun hh => hh.2⟩, hat, he⟩
  have hall : (t7 = true ∧ c.2.2.2.2.2 ≤ 4294967296) ↔ cfgOk c := by
    rw [h7, h6, h5, h4, h3, h2, h1]
    unfold cfgOk
    simp only [and_assoc]
  refine ifW_of (fun h => ?_) fun h => hk _ _ he ⟨(fun h => by cases h), fun h' => by rw [(hall.2 h').1] at h; cases h⟩
  refine ptrW_of (evV_of (ty := tU) c.2.2.2.2.2 (load_one hat (by kernel_rfl)) ?_)
  refine hk _ _ he ?_
  rw [leI_eq, decide_eq_true_iff, ← hall]
  exact ⟨fun hh => ⟨h, hh⟩, fun hh => hh.2⟩
end
end Go.Proofs.Ytgdijpcopdgapaa

/- Robots: maps' texts (plain law); own lists that grow. -/
namespace Go.Proofs.Ytgdijpcopdgapaa
open Go Go.Proofs.Ytgdijpcopdgapaa.D
set_option linter.unusedVariables false
set_option linter.unusedSimpArgs false
noncomputable section

/-! ### A map's text -/
def hdL (rows : List (List UInt8)) : Nat := (rows.headD []).length
def anyF (a : List UInt8) : Bool := a.any (· != 35)
/-- The document's reader. -/
def par (rows : List (List UInt8)) (row : List UInt8) (free : Bool) : List UInt8 → Option (List (List UInt8))
  | [] => if row ≠ [] then none else if free = true then some rows else none
  | c :: t =>
    if 32 < rows.length + 1 then none
    else if c = 10 then (if row = [] ∨ rows ≠ [] ∧ row.length < hdL rows then none else par (rows ++ [row]) [] free t)
    else if knownL.contains c = false ∨ 32 ≤ row.length ∨ rows ≠ [] ∧ hdL rows ≤ row.length then none
    else par rows (row ++ [c]) (free || c != 35) t
def parP (s : List UInt8) : Option (List (List UInt8)) := par [] [] false s
/-- One line. -/
def lineOk (rows : List (List UInt8)) (a : List UInt8) : Prop := rows.length + 1 ≤ 32 ∧ a ≠ [] ∧ (∀ c ∈ a, knownL.contains c = true) ∧ a.length ≤ 32 ∧ (rows ≠ [] → a.length = hdL rows)
instance (rows : List (List UInt8)) (a : List UInt8) : Decidable (lineOk rows a) := by unfold lineOk; infer_instance
theorem par_chars {rows : List (List UInt8)} (hr : rows.length + 1 ≤ 32) : ∀ (a row : List UInt8) (free : Bool) (t : List UInt8), (10 : UInt8) ∉ a → row.length ≤ 32 → (rows ≠ [] → row.length ≤ hdL rows) →
    par rows row free (a ++ t) = if (∀ c ∈ a, knownL.contains c = true) ∧ row.length + a.length ≤ 32 ∧ (rows ≠ [] → row.length + a.length ≤ hdL rows) then par rows (row ++ a) (free || anyF a) t else none
  | [], row, free, t, _, h1, h2 => by
    rw [if_pos ⟨by simp, by simpa using h1, by simpa using h2⟩]
    simp [anyF]
  | c :: a, row, free, t, hn, h1, h2 => by
    have hc : ¬ c = 10 := fun e => hn (by simp [e])
    have ha : (10 : UInt8) ∉ a := fun h => hn (by simp [h])
    show par rows row free (c :: (a ++ t)) = _
    rw [par, if_neg (by omega), if_neg hc]
    by_cases hb : knownL.contains c = false ∨ 32 ≤ row.length ∨ rows ≠ [] ∧ hdL rows ≤ row.length
    · rw [if_pos hb, if_neg]
      rintro ⟨g1, g2, g3⟩
      rcases hb with hb | hb | ⟨hb, hb'⟩
      · rw [g1 c (by simp)] at hb; cases hb
      · simp at g2; omega
      · have := g3 hb; simp at this; omega
    · rw [if_neg hb]
      have hk : knownL.contains c = true := by
        cases hh : knownL.contains c with
        | true => rfl
        | false => exact (hb (.inl hh)).elim
      have hl : row.length < 32 := by
        rcases Nat.lt_or_ge row.length 32 with h | h
        · exact h
        · exact (hb (.inr (.inl h))).elim
      have hh : rows ≠ [] → row.length < hdL rows := fun h => by
        rcases Nat.lt_or_ge row.length (hdL rows) with h' | h'
        · exact h'
        · exact (hb (.inr (.inr ⟨h, h'⟩))).elim
      rw [par_chars hr a (row ++ [c]) (free || c != 35) t ha (by simp; omega) (fun h => by have := hh h; simp; omega)]
      have e1 : row ++ [c] ++ a = row ++ c :: a := by simp
      have e2 : (free || c != 35 || anyF a) = (free || anyF (c :: a)) := by simp [anyF, Bool.or_assoc]
      rw [e1, e2]
      have e3 : ((∀ x ∈ a, knownL.contains x = true) ∧ (row ++ [c]).length + a.length ≤ 32 ∧ (rows ≠ [] → (row ++ [c]).length + a.length ≤ hdL rows)) ↔ ((∀ x ∈ c :: a, knownL.contains x = true) ∧ row.length + (c :: a).length ≤ 32 ∧ (rows ≠ [] → row.length + (c :: a).length ≤ hdL rows)) := by
        have l1 : (row ++ [c]).length + a.length = row.length + (c :: a).length := by simp; omega
        rw [l1]
        constructor
        · rintro ⟨g1, g2, g3⟩
          exact ⟨fun x hx => by rcases List.mem_cons.1 hx with rfl | hx; exact hk; exact g1 x hx, g2, g3⟩
        · rintro ⟨g1, g2, g3⟩
          exact ⟨fun x hx => g1 x (List.mem_cons_of_mem _ hx), g2, g3⟩
      by_cases hp : (∀ x ∈ a, knownL.contains x = true) ∧ (row ++ [c]).length + a.length ≤ 32 ∧ (rows ≠ [] → (row ++ [c]).length + a.length ≤ hdL rows)
      · rw [if_pos hp, if_pos (e3.1 hp)]
      · rw [if_neg hp, if_neg fun h => hp (e3.2 h)]
theorem par_line {rows : List (List UInt8)} {free : Bool} {a t : List UInt8} (ha : (10 : UInt8) ∉ a) : par rows [] free (a ++ 10 :: t) = if lineOk rows a then par (rows ++ [a]) [] (free || anyF a) t else none := by
  by_cases hr : rows.length + 1 ≤ 32
  · rw [par_chars hr a [] free (10 :: t) ha (by simp) (by simp), List.nil_append]
    simp only [List.length_nil, Nat.zero_add]
    have hin : par rows a (free || anyF a) (10 :: t) = if a = [] ∨ rows ≠ [] ∧ a.length < hdL rows then none else par (rows ++ [a]) [] (free || anyF a) t := by rw [par, if_neg (by omega), if_pos rfl]
    rw [hin]
    by_cases hl : lineOk rows a
    · obtain ⟨_, g1, g2, g3, g4⟩ := hl
      rw [if_pos (show lineOk rows a from ⟨hr, g1, g2, g3, g4⟩), if_pos ⟨g2, g3, fun h => by rw [g4 h]; exact Nat.le_refl _⟩, if_neg]
      rintro (h | ⟨h, h'⟩)
      · exact g1 h
      · rw [g4 h] at h'; omega
    · rw [if_neg hl]
      by_cases hp : (∀ c ∈ a, knownL.contains c = true) ∧ a.length ≤ 32 ∧ (rows ≠ [] → a.length ≤ hdL rows)
      · rw [if_pos hp]
        by_cases hq : a = [] ∨ rows ≠ [] ∧ a.length < hdL rows
        · rw [if_pos hq]
        · exact (hl ⟨hr, fun h => hq (.inl h), hp.1, hp.2.1, fun h => by
            have := hp.2.2 h
            rcases Nat.lt_or_ge a.length (hdL rows) with h' | h'
            · exact (hq (.inr ⟨h, h'⟩)).elim
            · omega⟩).elim
      · rw [if_neg hp]
  · rw [if_neg (fun h : lineOk rows a => hr h.1)]
    cases a with
    | nil => show par rows [] free (10 :: t) = none; rw [par, if_pos (by omega)]
    | cons c a => show par rows [] free (c :: (a ++ 10 :: t)) = none; rw [par, if_pos (by omega)]
theorem par_last {rows : List (List UInt8)} {free : Bool} {a : List UInt8} (ha : (10 : UInt8) ∉ a) (h0 : a ≠ []) : par rows [] free a = none := by
  by_cases hr : rows.length + 1 ≤ 32
  · have := par_chars hr a [] free [] ha (by simp) (by simp)
    rw [List.append_nil] at this
    rw [this]
    split
    · show par rows ([] ++ a) _ [] = none
      rw [par, if_pos (by simpa using h0)]
    · rfl
  · cases a with
    | nil => exact (h0 rfl).elim
    | cons c a => rw [par, if_pos (by omega)]
/-- .. by lines. -/
def parL (rows : List (List UInt8)) (free : Bool) : List (List UInt8) → Option (List (List UInt8))
  | [] => if free = true then some rows else none
  | l :: ls => if nlB l = true ∧ lineOk rows (trm l) then parL (rows ++ [trm l]) (free || anyF (trm l)) ls else none
theorem nl_one {a : List UInt8} : nlB (a ++ [10]) = true ∧ trm (a ++ [10]) = a := by
  have h : nlB (a ++ [10]) = true := by unfold nlB; simp
  exact ⟨h, by unfold trm; rw [if_pos h]; simp⟩
theorem nl_no {a : List UInt8} (h : (10 : UInt8) ∉ a) : nlB a = false := by
  rcases List.eq_nil_or_concat a with rfl | ⟨t, c, rfl⟩
  · rfl
  · unfold nlB
    have : ¬ c = 10 := fun e => h (by simp [e])
    simpa using this
theorem par_lines : ∀ (n : Nat) (s : List UInt8) (rows : List (List UInt8)) (free : Bool), s.length ≤ n → par rows [] free s = parL rows free (lnsP s)
  | 0, s, rows, free, h => by
    have : s = [] := List.length_eq_zero_iff.1 (by omega)
    subst this
    rw [par, if_neg (by simp)]; rfl
  | n + 1, s, rows, free, h => by
    rcases ib_cases 10 s with ⟨_, h2⟩ | ⟨a, t, h1, h2, _⟩
    · by_cases h0 : s = []
      · subst h0
        rw [par, if_neg (by simp)]; rfl
      · rw [par_last h2 h0, lnsP_one h2 h0, parL, if_neg (fun hh => by rw [nl_no h2] at hh; cases hh.1)]
    · rw [h1, par_line h2, lnsP_nl t h2, parL, nl_one.2]
      have e : (nlB (a ++ [10]) = true ∧ lineOk rows a) ↔ lineOk rows a := ⟨fun h => h.2, fun h => ⟨nl_one.1, h⟩⟩
      by_cases hl : lineOk rows a
      · rw [if_pos hl, if_pos (e.2 hl)]
        exact par_lines n t _ _ (by rw [h1] at h; simp at h; omega)
      · rw [if_neg hl, if_neg fun h => hl (e.1 h)]
theorem parP_lines (s : List UInt8) : parP s = parL [] false (lnsP s) := par_lines s.length s [] false (Nat.le_refl _)
/-- What a map is. -/
def mapOk (r : List (List UInt8)) : Prop := r ≠ [] ∧ r.length ≤ 32 ∧ 1 ≤ hdL r ∧ hdL r ≤ 32
theorem parL_ok : ∀ (ls rows : List (List UInt8)) (free : Bool) {r : List (List UInt8)}, parL rows free ls = some r → rows.length ≤ 32 → (rows ≠ [] → 1 ≤ hdL rows ∧ hdL rows ≤ 32) → (free = true → rows ≠ []) → mapOk r
  | [], rows, free, r, h, h1, h2, h3 => by
    rw [parL] at h
    by_cases hf : free = true
    · rw [if_pos hf] at h
      cases h
      exact ⟨h3 hf, h1, h2 (h3 hf)⟩
    · rw [if_neg hf] at h; cases h
  | l :: ls, rows, free, r, h, h1, h2, h3 => by
    rw [parL] at h
    by_cases hl : nlB l = true ∧ lineOk rows (trm l)
    · rw [if_pos hl] at h
      obtain ⟨_, g1, g2, g3, g4, g5⟩ := hl
      refine parL_ok ls _ _ h (by simp; omega) (fun _ => ?_) (fun _ => by simp)
      cases rows with
      | nil =>
        show 1 ≤ (trm l).length ∧ (trm l).length ≤ 32
        exact ⟨List.length_pos_iff.2 g2, g4⟩
      | cons x rows => exact h2 (by simp)
    · rw [if_neg hl] at h; cases h
theorem parP_ok {s : List UInt8} {r : List (List UInt8)} (h : parP s = some r) : mapOk r := by
  rw [parP_lines] at h
  exact parL_ok _ _ _ h (by simp) (by simp) (by simp)
/-! ### Own lists -/
theorem grX_frm {α : Type} {f : α → List Value} {sz : Nat} {s : Sl} {l : List α} : Frm (slO s) (fun S => GrX f sz 0 S s l) := by
  intro F S S' m hF h
  rcases h with h | ⟨b, rest, h1, h2, h3, h4⟩
  · exact .inl h
  · exact .inr ⟨b, rest, h1, h2, m.at h3 (hF b ⟨0, by rw [h2]⟩), h4⟩
theorem grX_lt {α : Type} {f : α → List Value} {sz : Nat} {S : St} {s : Sl} {l : List α} (h : GrX f sz 0 S s l) {c : Nat} (hc : slO s c) : c < S.next := by
  obtain ⟨o, hc⟩ := hc
  rcases h with ⟨_, rfl⟩ | ⟨b, rest, h1, rfl, h3, h4⟩
  · cases hc
  · cases hc; exact h3.lt
/-- Boxes, and an own list that grows. -/
structure CX {α : Type} (W : Nat → Prop) (f : α → List Value) (sz : Nat) (S0 S : St) (L : List (Nat × DObj)) (s : Sl) (l : List α) : Prop where
  cx : Cx W S0 S L (slO s) (fun S' => GrX f sz 0 S' s l)
  own : ∀ c, slO s c → S0.next ≤ c
section
variable {α : Type} {W : Nat → Prop} {f : α → List Value} {sz : Nat} {S0 S : St} {L : List (Nat × DObj)} {s : Sl} {l : List α}
theorem CX.start (W : Nat → Prop) : CX W f sz S S [] ⟨none, 0, 0⟩ [] := ⟨Cx.start W (.inl ⟨rfl, rfl⟩) grX_frm fun c hc => by (obtain ⟨o, hc⟩ := hc; cases hc), fun c hc => by obtain ⟨o, hc⟩ := hc; cases hc⟩
theorem CX.ext (h : CX W f sz S0 S L s l) {S' : St} (e : Ext S S') : CX W f sz S0 S' L s l := ⟨h.cx.ext e, h.own⟩
theorem CX.tl (h : CX W f sz S0 S L s l) (n : Nat) : CX W f sz S0 S (L.drop n) s l := ⟨h.cx.tl n, h.own⟩
theorem CX.new (h : CX W f sz S0 S L s l) {o : DObj} {k : Nat → St → Prop} (hk : ∀ b S', CX W f sz S0 S' ((b, o) :: L) s l → k b S') : newW S o k := h.cx.new fun b S' hL _ _ => hk b S' ⟨hL, h.own⟩
theorem CX.record (h : CX W f sz S0 S L s l) {o : DObj} : CX W f sz S0 (S.alloc o).2 ((S.next, o) :: L) s l := ⟨h.cx.record, h.own⟩
theorem CX.upd (h : CX W f sz S0 S L s l) (i : Nat) {b : Nat} {o o' : DObj} {k : St → Prop} (hi : L[i]? = some (b, o)) (hk : ∀ S', CX W f sz S0 S' (L.set i (b, o')) s l → k S') : updW S b o' k := h.cx.upd i hi fun S' hL _ => hk S' ⟨hL, h.own⟩
theorem CX.st (h : CX W f sz S0 S L s l) (i : Nat) {b o t : Nat} (n : Nat) {cs cs' : List Value} {more : Option Nat} {v : Value} {k : St → Prop} (hi : L[i]? = some (b, .cells cs more false none)) (ht : stOk E0 t n = true) (hn : (cellsOf v).length = n) (ho : o + n ≤ cs.length)
    (hone : (cellsOf v).all St.one = true) (hcs : cs.take o ++ (cellsOf v ++ cs.drop (o + n)) = cs') (hk : ∀ S', CX W f sz S0 S' (L.set i (b, .cells cs' more false none)) s l → k S') : evS (storeV E0 S t (.pointer (some ⟨b, o, none⟩)) v) k :=
  h.cx.st i n hi ht hn ho hone hcs fun S' hL _ => hk S' ⟨hL, h.own⟩
/-- What an append makes of it. -/
theorem CX.step (h : CX W f sz S0 S L s l) {S' : St} {s' : Sl} {l' : List α} (g : GrX f sz 0 S' s' l') (m : Mod (fun b => 0 ≤ b ∧ s.a = some ⟨b, 0, none⟩) S S') (hs : s'.a = s.a ∨ ∃ b, s'.a = some ⟨b, 0, none⟩ ∧ S.next ≤ b) : CX W f sz S0 S' L s' l' := by
  have hs2 : ∀ c, slO s' c → slO s c ∨ S.next ≤ c := fun c hc => by
    obtain ⟨o, e⟩ := hc
    rcases hs with h | ⟨b', h, h'⟩
    · exact .inl ⟨o, by rw [← h]; exact e⟩
    · rw [h] at e
      cases e
      exact .inr h'
  refine ⟨h.cx.op (m.mono fun c hc _ => (⟨0, hc.2⟩ : slO s c)) (fun _ h => h) (fun c hc hlt => by have := h.own c hc; omega) g grX_frm hs2 fun c hc => grX_lt g hc, fun c hc => ?_⟩
  rcases hs2 c hc with hc | hc
  · exact h.own c hc
  · exact Nat.le_trans h.cx.mod.next hc
/-- One is put behind. -/
theorem CX.one (h : CX W f sz S0 S L s l) {st e : TypeId} {d : DInfo} {z : Value} {x : α} (hf : ∀ x, (f x).length = sz) (hsz : 0 < sz) (hst : E0.und st = some (.slice e)) (he : E0.inf e = some d) (htag : tagOk E0 e sz = true) (hds : d.size = sz) (hz : d.zero = some z) (hzl : (cellsOf z).length = sz) (hone : (f x).all St.one = true)
    (hb : d.bytes ≤ 100) (hs1 : sz ≤ 100) (hl : l.length ≤ 100000) {k : Sl → St → Prop} (hk : ∀ s' S', CX W f sz S0 S' L s' (l ++ [x]) → k s' S') : newW S (.cells (f x) none false none) fun b S1 => evP tS (appendD E0 S1 st st (.slice s.a s.len s.cap) (.slice (some ⟨b, 0, none⟩) 1 1)) k := by
  refine h.new fun b S1 hB => ?_
  have h1 : (l.length + 1) * d.bytes ≤ (l.length + 1) * 100 := Nat.mul_le_mul_left _ hb
  have h2 : (l.length + 1) * sz ≤ (l.length + 1) * 100 := Nat.mul_le_mul_left _ hs1
  exact GrX.append (E := E0) (f := f) (sz := sz) (N := 0) hf hsz hB.cx.p hst he hst (by rw [htag]; rfl) hds hz hzl (vs := [x]) rfl (firstD_box (f := f) (sz := sz) hf hsz (hB.cx.at 0 rfl)) (by simpa using hone)
    (by simp only [List.length_singleton]; omega) (by simp only [List.length_singleton]; omega) (by simp) (by simp only [List.length_singleton]; have h := lt_inex; omega)
    (fun s' S' g m hs' => hk s' S' ((hB.step g m hs').tl 1)) (Nat.zero_le _)
end
end
end Go.Proofs.Ytgdijpcopdgapaa

/- Robots: the program's maps. -/
namespace Go.Proofs.Ytgdijpcopdgapaa
open Go Go.Proofs.Ytgdijpcopdgapaa.D
set_option linter.unusedVariables false
set_option linter.unusedSimpArgs false
noncomputable section

abbrev mapC (n c : Nat) (sl : Sl) : List Value := [.int .i64 (n : Int), .int .i64 (c : Int), .slice sl.a sl.len sl.cap, .int .u32 0, .int .i32 0, .int .u32 0, .slice none 0 0, .slice none 0 0]
abbrev MapAt (S : St) (b n c : Nat) (sl : Sl) : Prop := At S b (.cells (mapC n c sl) none false none)
theorem eq29 {S : St} {b o : Nat} : eqD E0 S 6 29 (.pointer (some ⟨b, o, none⟩)) (.pointer none) = some false := by kernel_rfl
theorem s38 {S : St} {b n c : Nat} {sl : Sl} (h : MapAt S b n c sl) (hn : 1 ≤ n) {k : Value → St → Prop} (hk : k (.bool false) S) : WC E0 38 [.pointer (some ⟨b, 0, none⟩)] S k := by
  refine w38 _ ?_
  unfold c38
  refine ⟨false, eq29, ?_⟩
  refine ifW_of (fun h => by cases h) fun _ => ?_
  refine ptrW_of (ptrW_of (evV_of (ty := tI) ((n : Nat) : Int) (load_one h (by kernel_rfl)) ?_))
  rw [eqI_eq, decide_eq_false (by omega)]
  exact hk
theorem s46 {S : St} {b n c : Nat} {sl : Sl} (h : MapAt S b n c sl) (hn : 1 ≤ n) {k : Value → St → Prop} (hk : k (.int .i64 (n : Int)) S) : WC E0 46 [.pointer (some ⟨b, 0, none⟩)] S k := by
  refine w46 _ ?_
  unfold c46
  refine evC_of (s38 h hn ⟨_, rfl, ?_⟩)
  refine ifW_of (fun h => by cases h) fun _ => ?_
  exact ptrW_of (ptrW_of (evV_of (ty := tI) ((n : Nat) : Int) (load_one h (by kernel_rfl)) hk))
theorem s47 {S : St} {b n c : Nat} {sl : Sl} (h : MapAt S b n c sl) (hn : 1 ≤ n) {k : Value → St → Prop} (hk : k (.int .i64 (c : Int)) S) : WC E0 47 [.pointer (some ⟨b, 0, none⟩)] S k := by
  refine w47 _ ?_
  unfold c47
  refine evC_of (s38 h hn ⟨_, rfl, ?_⟩)
  refine ifW_of (fun h => by cases h) fun _ => ?_
  exact ptrW_of (ptrW_of (evV_of (ty := tI) ((c : Nat) : Int) (load_one h (by kernel_rfl)) hk))
theorem mul_le_1024 {n c : Nat} (hn : n ≤ 32) (hc : c ≤ 32) : n * c ≤ 1024 := Nat.mul_le_mul hn hc
theorem s21 {S : St} {b n c : Nat} {sl : Sl} (h : MapAt S b n c sl) (hn : 1 ≤ n) (hn2 : n ≤ 32) (hc : c ≤ 32) {k : Value → St → Prop} (hk : k (.int .i64 ((n * c : Nat) : Int)) S) : WC E0 21 [.pointer (some ⟨b, 0, none⟩)] S k := by
  refine w21 _ ?_
  unfold c21
  refine evC_of (s46 h hn ⟨_, rfl, ?_⟩)
  refine evC_of (s47 h hn ⟨_, rfl, ?_⟩)
  have := mul_le_1024 hn2 hc
  have e : wrapI .i64 ((n : Int) * (c : Int)) = ((n * c : Nat) : Int) := by
    rw [← Int.natCast_mul, wrap_i64 (by omega) (by omega)]
  rw [e]
  exact hk
theorem agg5' : aggD DEnv.i5.und = false := by kernel_rfl
theorem s39 {S : St} {b n c : Nat} {sl : Sl} {kd : List UInt8} (h : MapAt S b n c sl) (hn : 1 ≤ n) (hs : Bs S sl kd) {i : Nat} (hi : i < kd.length) {k : Value → St → Prop} (hk : k (.bool (kd[i] != 35)) S) : WC E0 39 [.pointer (some ⟨b, 0, none⟩), .int .i64 (i : Int)] S k := by
  refine w39 _ _ ?_
  unfold c39
  have hl := hs.len
  refine evC_of (w59 _ _ ?_)
  unfold c59
  refine evC_of (s38 h hn ⟨_, rfl, ?_⟩)
  refine ifW_of (fun _ => ?_) fun h => by cases h
  refine ifW_pos (by omega) ?_
  refine ptrW_of (ptrW_of (evV_of (ty := tS) sl (load_one h (by kernel_rfl)) ⟨_, rfl, ?_⟩))
  have e : ltI (i : Int) (sl.len : Int) = true := by rw [ltI_eq]; exact decide_eq_true (by omega)
  rw [e]
  refine ifW_of (fun _ => ?_) fun h => by cases h
  refine ptrW_of (ptrW_of (evV_of (ty := tS) sl (load_one h (by kernel_rfl)) ?_))
  refine hs.get1n (n := i) (g := byV) inf5 agg5 hi fun b1 o1 hld _ => evV_of (ty := tU8) _ (hld _ rfl) ?_
  have e2 : (!eqI ((kd[i].toNat : Nat) : Int) 35) = (kd[i] != 35) := by
    rw [eqI_eq]
    have : ((kd[i].toNat : Nat) : Int) = 35 ↔ kd[i] = 35 := ⟨fun h => UInt8.toNat_inj.1 (by show kd[i].toNat = 35; omega), fun h => by rw [h]; rfl⟩
    by_cases hh : kd[i] = 35
    · rw [decide_eq_true (this.2 hh), hh]; rfl
    · rw [decide_eq_false fun h => hh (this.1 h)]
      show true = _
      rw [bne, (beq_eq_false_iff_ne).2 hh]; rfl
  rw [e2]
  exact hk
theorem und84 : E0.und 84 = some (.slice 3) := by kernel_rfl
theorem inf3 : E0.inf 3 = some DEnv.i3 := by kernel_rfl
abbrev intC (n : Int) : List Value := [.int .i64 n]
theorem s16 {S : St} {b n c : Nat} {sl : Sl} {kd : List UInt8} (h : MapAt S b n c sl) (hn : 1 ≤ n) (hs : Bs S sl kd) (hkd : kd.length ≤ 1024) {k : Value → St → Prop} (hk : ∀ (s : Sl) S', Ext S S' → (s.len = 0 ↔ anyF kd = false) → k (.slice s.a s.len s.cap) S') : WC E0 16 [.pointer (some ⟨b, 0, none⟩)] S k := by
  refine w16 _ ?_
  unfold c16
  have hsl := hs.len
  refine evC_of (s38 h hn ⟨_, rfl, ?_⟩)
  refine ifW_of (fun h => by cases h) fun _ => ?_
  refine ptrW_of (ptrW_of (evV_of (ty := tS) sl (load_one h (by kernel_rfl)) ?_))
  refine loopW_ind (fun q (x : Sl × Int) S' => ∃ (i : Nat) (l : List Int), x.2 = (i : Int) ∧ i ≤ kd.length ∧ q = kd.length - i ∧ CX noB intC 1 S S' [] x.1 l ∧ l.length ≤ i ∧ (l = [] ↔ anyF (kd.take i) = false)) (m := kd.length) ⟨0, [], rfl, by omega, rfl, CX.start noB, by simp, by simp [anyF]⟩ ?_
  rintro P q ⟨s, n1⟩ S1 ⟨i, l, rfl, hi, rfl, hL, hll, hl0⟩ hP
  dsimp only at hL ⊢
  have he : Ext S S1 := hL.cx.mod
  refine ifW_dec (fun hlt => ?_) fun hlt => ?_
  · have hi' : i < kd.length := by omega
    refine evC_of (s39 (he.at h) hn (he.slOf hs) hi' ⟨_, rfl, ?_⟩)
    have htk : anyF (kd.take (i + 1)) = (anyF (kd.take i) || kd[i] != 35) := by
      rw [List.take_succ_eq_append_getElem hi']
      simp only [anyF, List.any_append, List.any_cons, List.any_nil, Bool.or_false]
    refine ifW_of (fun hc => ?_) fun hc => ?_
    · refine hL.one (f := intC) (x := (i : Int)) (fun _ => rfl) (by omega) und84 inf3 (by kernel_rfl) rfl (by kernel_rfl : DEnv.i3.zero = some (.int .i64 0)) rfl rfl (by decide) (by omega) (by omega) fun s' S2 hL => ?_
      rw [wrap_succ (by omega)]
      exact hP _ _ _ (by omega) ⟨i + 1, l ++ [(i : Int)], rfl, by omega, rfl, hL, by simp; omega, by rw [htk, hc]; simp⟩
    · rw [wrap_succ (by omega)]
      exact hP _ _ _ (by omega) ⟨i + 1, l, rfl, by omega, rfl, hL, by omega, by rw [htk, hc, Bool.or_false]; exact hl0⟩
  · have hi' : i = kd.length := by omega
    subst hi'
    rw [List.take_length] at hl0
    refine hk s S1 he ?_
    rw [GrX.len hL.cx.p, List.length_eq_zero_iff]
    exact hl0
/-! ### A text's map -/
theorem hdL_app {rows : List (List UInt8)} {a : List UInt8} : hdL (rows ++ [a]) = if rows = [] then a.length else hdL rows := by
  cases rows <;> simp [hdL]
theorem trm_nl {l : List UInt8} (h : nlB l = true) : l = trm l ++ [10] := by
  rcases List.eq_nil_or_concat l with rfl | ⟨t, c, rfl⟩
  · cases h
  · have hc : c = 10 := by unfold nlB at h; simpa using h
    subst hc
    rw [List.concat_eq_append] at h ⊢
    rw [nl_one.2]
abbrev boxesM (b7 b6 bC b5 b4 b3 b2 b1 : Nat) (st : DObj) (rest : List UInt8) (n c : Nat) (sl : Sl) : List (Nat × DObj) :=
  [(b7, st), (b6, .deferred), (bC, .cells [strV rest] none false none), (b5, .cells (mapC n c sl) none false none), (b4, .cells [.int .i64 0] none false none), (b3, .cells [.int .i64 0] none false none), (b2, .cells [.int .i64 0] none false none), (b1, .cells [.pointer (some ⟨b5, 0, none⟩)] none false none)]
def colN (rows : List (List UInt8)) : Nat := if rows = [] then 32 else hdL rows
structure IM (S S' : St) (b7 b6 bC b5 b4 b3 b2 b1 : Nat) (st : DObj) (s : List UInt8) (i j : Nat) (rows : List (List UInt8)) (sl : Sl) : Prop where
  cx : Cx noB S S' (boxesM b7 b6 bC b5 b4 b3 b2 b1 st ((lnsP s).drop j).flatten i (colN rows) sl) (slO sl) (fun S' => GB S' sl rows.flatten)
  own : ∀ c, slO sl c → S.next ≤ c
  len : rows.length = i
  le : i ≤ 32
  par : parL rows (anyF rows.flatten) ((lnsP s).drop i) = parP s
  hd : rows ≠ [] → hdL rows ≤ 32
  fl : rows.flatten.length ≤ i * 32
theorem und64' : E0.und 64 = some (.slice 5) := und64
set_option maxHeartbeats 1000000 in
theorem s4 {S : St} {s : List UInt8} {k : Value → St → Prop} (hlen : s.length ≤ 100000)
    (hno : parP s = none → ∀ n1 n2 S', Ext S S' → k (.tuple #[.pointer none, .int .i64 n1, .int .i64 n2, .int .i64 10]) S')
    (hok : ∀ rows, parP s = some rows → ∀ b sl S', Ext S S' → MapAt S' b rows.length (hdL rows) sl → k (.tuple #[.pointer (some ⟨b, 0, none⟩), .int .i64 0, .int .i64 0, .int .i64 0]) S') : WC E0 4 [strV s] S k := by
  refine w4 s ?_
  unfold c4
  have hL := Cx.start (S := S) noB GB.nil GB.frm fun c hc => GB.lt (GB.nil (S := S)) hc
  refine hL.new fun b1 S1 hL _ _ => ?_
  refine hL.new fun b2 S2 hL _ _ => ?_
  refine hL.new fun b3 S3 hL _ _ => ?_
  refine hL.new fun b4 S4 hL _ _ => ?_
  refine ifW_of (fun h0 => ?_) fun h0 => ?_
  · have h0 : s = [] := by simpa using h0
    subst h0
    refine hL.st 3 _ rfl (by kernel_rfl) rfl (Nat.le_of_ble_eq_true rfl) rfl rfl fun S5 hL _ => ?_
    refine hL.st 2 _ rfl (by kernel_rfl) rfl (Nat.le_of_ble_eq_true rfl) rfl rfl fun S6 hL _ => ?_
    refine hL.st 1 _ rfl (by kernel_rfl) rfl (Nat.le_of_ble_eq_true rfl) rfl rfl fun S7 hL _ => ?_
    refine hL.st 0 _ rfl (by kernel_rfl) rfl (Nat.le_of_ble_eq_true rfl) rfl rfl fun S8 hL _ => ?_
    refine hL.ld 3 rfl (by kernel_rfl) (none : Option Addr) rfl ?_
    refine hL.ld 2 rfl (by kernel_rfl) (1 : Int) rfl ?_
    refine hL.ld 1 rfl (by kernel_rfl) (1 : Int) rfl ?_
    refine hL.ld 0 rfl (by kernel_rfl) (10 : Int) rfl ?_
    exact hno rfl _ _ _ hL.mod
  refine hL.new fun b5 S9 hL _ _ => ?_
  refine hL.st 4 _ rfl (by kernel_rfl) rfl (Nat.le_of_ble_eq_true rfl) rfl rfl fun S10 hL _ => ?_
  refine evC_of (w13 _ ?_)
  unfold c13
  refine hL.new fun bC S11 hL _ _ => ?_
  refine ⟨_, rfl, ?_⟩
  refine hL.new fun b6 S12 hL _ _ => ?_
  rintro b7 S13 L rfl rfl hLL hR
  have hL := hL.record (o := L .ready none)
  generalize (S12.alloc (L .ready none)).2 = S13 at hL ⊢
  generalize hb7 : S12.next = b7 at hL hR ⊢
  have hlns : (lnsP s).flatten = s := by
    have : ∀ n, ∀ r : List UInt8, r.length ≤ n → (lnsP r).flatten = r := by
      intro n
      induction n with
      | zero =>
        intro r h
        have : r = [] := List.length_eq_zero_iff.1 (by omega)
        subst this
        rfl
      | succ n ih =>
        intro r h
        rcases ib_cases 10 r with ⟨_, h2⟩ | ⟨a, t, h1, h2, _⟩
        · by_cases hr : r = []
          · subst hr; rfl
          · rw [lnsP_one h2 hr]; simp
        · rw [h1, lnsP_nl t h2, List.flatten_cons, ih t (by rw [h1] at h; simp at h; omega)]; simp
    exact this _ s (Nat.le_refl _)
  have hline : ∀ i (hi : i < (lnsP s).length), (lnsP s)[i].length ≤ 100000 := by
    intro i hi
    have h1 := List.drop_eq_getElem_cons hi
    have h2 : ((lnsP s).take i).flatten ++ ((lnsP s).drop i).flatten = s := by rw [← List.flatten_append, List.take_append_drop, hlns]
    rw [h1, List.flatten_cons] at h2
    have := congrArg List.length h2
    simp at this
    omega
  refine WG_of rfl (s33 (s := s) (by omega) (fun i S' => ∃ rows sl, IM S S' b7 b6 bC b5 b4 b3 b2 b1 (L .ready none) s i i rows sl) (fun i S' => ∃ rows sl, IM S S' b7 b6 bC b5 b4 b3 b2 b1 (L .ready none) s i (i + 1) rows sl)
    (fun i S' ⟨rows, sl, h⟩ => h.cx.at 2 rfl) (fun i S' S'' hi ⟨rows, sl, h⟩ m ha hn => ⟨rows, sl, h.cx.set 2 (o' := .cells [strV ((lnsP s).drop (i + 1)).flatten] none false none) rfl m ha, h.own, h.len, h.le, h.par, h.hd, h.fl⟩) ⟨[], ⟨none, 0, 0⟩, ?_, (fun c hc => by obtain ⟨o, hc⟩ := hc; cases hc), rfl, by omega, by rw [List.drop_zero, parP_lines]; rfl, by simp, by simp⟩ ?_ ?_)
  · rw [List.drop_zero, hlns]
    exact hL
  · rintro i hi S' ⟨rows, sl, h⟩
    obtain ⟨hL, hown, hrl, hi32, hpar, hhd, hfl⟩ := h
    refine hR (lnsP s)[i] S' _ ?_
    have hll := hline i hi
    have hdrop := List.drop_eq_getElem_cons hi
    rw [hdrop] at hpar
    generalize (lnsP s)[i] = l at hll hpar ⊢
    clear hdrop
    have hpl : ∀ X : Prop, (nlB l = true ∧ lineOk rows (trm l) ↔ X) → (¬ X → parP s = none) ∧ (X → parL (rows ++ [trm l]) (anyF (rows ++ [trm l]).flatten) ((lnsP s).drop (i + 1)) = parP s) := by
      intro X hX
      refine ⟨fun hn => ?_, fun hx => ?_⟩
      · rw [← hpar, parL, if_neg fun h => hn (hX.1 h)]
      · rw [← hpar, parL, if_pos (hX.2 hx)]
        congr 1
        simp [anyF]
    refine hL.has 0 rfl ?_
    refine hL.has 0 rfl ?_
    refine hL.upd 0 rfl fun S15 hL _ => ?_
    refine hL.ld 7 rfl (by kernel_rfl) (some ⟨b5, 0, none⟩ : Option Addr) rfl ?_
    refine ptrW_of (ptrW_of ?_)
    refine hL.ld 3 rfl (by kernel_rfl) ((i : Nat) : Int) rfl ?_
    refine ptrW_of (ptrW_of ?_)
    rw [wrap_succ (by omega)]
    refine hL.st 3 _ rfl (by kernel_rfl) rfl (Nat.le_of_ble_eq_true rfl) rfl rfl fun S16 hL _ => ?_
    -- the columns
    refine join_of (fun (_ : PUnit) S17 => Cx noB S S17 (boxesM b7 b6 bC b5 b4 b3 b2 b1 (L .busy none) ((lnsP s).drop (i + 1)).flatten (i + 1) (if rows = [] then min 32 (trm l).length else hdL rows) sl) (slO sl) (fun S' => GB S' sl rows.flatten)) (fun _ S17 hL => ?_) fun k3 hk3 => ?_
    rotate_left
    · refine hL.ld 7 rfl (by kernel_rfl) (some ⟨b5, 0, none⟩ : Option Addr) rfl ?_
      refine ptrW_of (ptrW_of ?_)
      refine hL.ld 3 rfl (by kernel_rfl) ((i + 1 : Nat) : Int) rfl ?_
      refine ifW_dec (fun h1 => ?_) fun h1 => ?_
      · have hr0 : rows = [] := List.length_eq_zero_iff.1 (by omega)
        subst hr0
        refine hL.ld 7 rfl (by kernel_rfl) (some ⟨b5, 0, none⟩ : Option Addr) rfl ?_
        refine evC_of (s14 (by omega) ⟨trm l, rfl, ?_⟩)
        refine hL.ld 7 rfl (by kernel_rfl) (some ⟨b5, 0, none⟩ : Option Addr) rfl ?_
        refine sameV_of ?_
        refine ptrW_of (ptrW_of ?_)
        have em : (bif false then bif decide (32 < ((trm l).length : Int)) then ((trm l).length : Int) else 32 else bif decide (((trm l).length : Int) < 32) then ((trm l).length : Int) else 32) = ((min 32 (trm l).length : Nat) : Int) := by
          by_cases hh : (trm l).length < 32
          · rw [decide_eq_true (show ((trm l).length : Int) < 32 by omega)]; show ((trm l).length : Int) = _; omega
          · rw [decide_eq_false (show ¬ ((trm l).length : Int) < 32 by omega)]; show (32 : Int) = _; omega
        rw [em]
        refine hL.st 3 _ rfl (by kernel_rfl) rfl (Nat.le_of_ble_eq_true rfl) rfl rfl fun S33 hL _ => ?_
        exact hk3 _ _ hL
      · have hr0 : rows ≠ [] := fun e => by rw [e] at hrl; simp at hrl; omega
        refine hk3 _ _ ?_
        rw [if_neg hr0]
        rw [colN, if_neg hr0] at hL
        exact hL
    have hcol : ∀ X : Prop, rowOk (if rows = [] then min 32 (trm l).length else hdL rows) l ∧ i + 1 ≤ 32 ↔ nlB l = true ∧ lineOk rows (trm l) := fun _ => by
      unfold rowOk lineOk
      by_cases hr0 : rows = []
      · rw [if_pos hr0, hrl]
        constructor
        · rintro ⟨⟨g1, g2, g3, g4⟩, g5⟩
          exact ⟨g1, g5, fun e => by rw [e] at g2 g3; simp at g3, g4, by omega, fun h => (h hr0).elim⟩
        · rintro ⟨g1, g5, g2, g3, g4, _⟩
          have := List.length_pos_iff.2 g2
          exact ⟨⟨g1, by omega, by omega, g3⟩, g5⟩
      · rw [if_neg hr0, hrl]
        have hh := hhd hr0
        constructor
        · rintro ⟨⟨g1, g2, g3, g4⟩, g5⟩
          exact ⟨g1, g5, fun e => by rw [e] at g2; simp at g2; omega, g4, by omega, fun _ => g2⟩
        · rintro ⟨g1, g5, g2, g3, g4, g6⟩
          have := List.length_pos_iff.2 g2
          have := g6 hr0
          exact ⟨⟨g1, by omega, by omega, g3⟩, g5⟩
    have hcol := hcol True
    obtain ⟨hpn, hpy⟩ := hpl _ hcol.symm
    have hcl : (if rows = [] then min 32 (trm l).length else hdL rows) ≤ 1000 := by
      split
      · omega
      · rename_i h; have := hhd h; omega
    have hcn : colN (rows ++ [trm l]) = if rows = [] then (trm l).length else hdL rows := by
      rw [colN, if_neg (by simp), hdL_app]
    generalize hcc : (if rows = [] then min 32 (trm l).length else hdL rows) = cols at hcol hpn hpy hcl hL
    -- it goes wrong
    have badF : ∀ {S22 : St} {n3 : Int}, parP s = none → Cx noB S S22 [(b7, L .done (some Code.ret)), (b6, .deferred), (bC, .cells [strV ((lnsP s).drop (i + 1)).flatten] none false none), (b5, .cells (mapC (i + 1) cols sl) none false none), (b4, .cells [.int .i64 10] none false none), (b3, .cells [.int .i64 n3] none false none), (b2, .cells [.int .i64 ((i + 1 : Nat) : Int)] none false none), (b1, .cells [.pointer none] none false none)] (slO sl) (fun S' => GB S' sl rows.flatten) →
        hasW S22 b7 (L .done (some Code.ret)) (updW S22 b7 (L .exhausted (some Code.ret)) fun S47 => hasW S47 b6 .deferred (updW S47 b6 .dead fun S48 => evV tP (loadV E0 S48 29 (.pointer (some ⟨b1, 0, none⟩))) fun p19 => evV tI (loadV E0 S48 3 (.pointer (some ⟨b2, 0, none⟩))) fun n20 => evV tI (loadV E0 S48 3 (.pointer (some ⟨b3, 0, none⟩))) fun n21 => evV tI (loadV E0 S48 30 (.pointer (some ⟨b4, 0, none⟩))) fun n22 => k (.tuple #[.pointer p19, .int .i64 n20, .int .i64 n21, .int .i64 n22]) S48)) := by
      intro S22 n3 hp hL
      refine hL.has 0 rfl ?_
      refine hL.upd 0 rfl fun S47 hL _ => ?_
      refine hL.has 1 rfl ?_
      refine hL.upd 1 rfl fun S48 hL _ => ?_
      refine hL.ld 7 rfl (by kernel_rfl) (none : Option Addr) rfl ?_
      refine hL.ld 6 rfl (by kernel_rfl) ((i + 1 : Nat) : Int) rfl ?_
      refine hL.ld 5 rfl (by kernel_rfl) n3 rfl ?_
      refine hL.ld 4 rfl (by kernel_rfl) (10 : Int) rfl ?_
      exact hno hp _ _ _ hL.mod
    refine hL.ld 7 rfl (by kernel_rfl) (some ⟨b5, 0, none⟩ : Option Addr) rfl ?_
    refine ptrW_of (ptrW_of ?_)
    refine hL.ld 3 rfl (by kernel_rfl) ((i + 1 : Nat) : Int) rfl ?_
    refine ifW_dec (fun h1 => ?_) fun h1 => ?_
    · refine hL.ld 7 rfl (by kernel_rfl) (some ⟨b5, 0, none⟩ : Option Addr) rfl ?_
      refine ptrW_of (ptrW_of ?_)
      refine hL.ld 3 rfl (by kernel_rfl) ((i + 1 : Nat) : Int) rfl ?_
      refine hL.st 7 _ rfl (by kernel_rfl) rfl (Nat.le_of_ble_eq_true rfl) rfl rfl fun S18 hL _ => ?_
      refine hL.ld 3 rfl (by kernel_rfl) ((i + 1 : Nat) : Int) rfl ?_
      refine sameV_of ?_
      refine hL.st 6 _ rfl (by kernel_rfl) rfl (Nat.le_of_ble_eq_true rfl) rfl rfl fun S19 hL _ => ?_
      refine hL.st 5 _ rfl (by kernel_rfl) rfl (Nat.le_of_ble_eq_true rfl) rfl rfl fun S20 hL _ => ?_
      refine hL.st 4 _ rfl (by kernel_rfl) rfl (Nat.le_of_ble_eq_true rfl) rfl rfl fun S21 hL _ => ?_
      refine hL.has 0 rfl ?_
      refine hL.upd 0 rfl fun S22 hL _ => ?_
      exact ⟨(fun h => by cases h), fun _ => .inr (.inl (badF (hpn fun h => by omega) hL))⟩
    refine hL.ld 7 rfl (by kernel_rfl) (some ⟨b5, 0, none⟩ : Option Addr) rfl ?_
    refine ptrW_of (ptrW_of ?_)
    refine hL.ld 3 rfl (by kernel_rfl) ((cols : Nat) : Int) rfl ?_
    refine evC_of (s15 (by omega) hcl fun n9 hn9 hr9 => ⟨n9, rfl, ?_⟩)
    refine ifW_dec (fun h2 => ?_) fun h2 => ?_
    · refine hL.ld 7 rfl (by kernel_rfl) (some ⟨b5, 0, none⟩ : Option Addr) rfl ?_
      refine ptrW_of (ptrW_of ?_)
      refine hL.ld 3 rfl (by kernel_rfl) ((i + 1 : Nat) : Int) rfl ?_
      refine hL.st 7 _ rfl (by kernel_rfl) rfl (Nat.le_of_ble_eq_true rfl) rfl rfl fun S18 hL _ => ?_
      refine hL.ld 3 rfl (by kernel_rfl) ((i + 1 : Nat) : Int) rfl ?_
      refine sameV_of ?_
      refine hL.st 6 _ rfl (by kernel_rfl) rfl (Nat.le_of_ble_eq_true rfl) rfl rfl fun S19 hL _ => ?_
      refine hL.st 5 _ rfl (by kernel_rfl) rfl (Nat.le_of_ble_eq_true rfl) rfl rfl fun S20 hL _ => ?_
      refine hL.st 4 _ rfl (by kernel_rfl) rfl (Nat.le_of_ble_eq_true rfl) rfl rfl fun S21 hL _ => ?_
      refine hL.has 0 rfl ?_
      refine hL.upd 0 rfl fun S22 hL _ => ?_
      exact ⟨(fun h => by cases h), fun _ => .inr (.inl (badF (hpn fun h => by have := hr9.2 h.1; omega) hL))⟩
    have hrow : rowOk cols l := hr9.1 (by omega)
    obtain ⟨g1, g2, g3, g4⟩ := hrow
    have hx := hpy ⟨⟨g1, g2, g3, g4⟩, by omega⟩
    have hc32 : cols ≤ 32 := by
      rw [← hcc]
      split
      · omega
      · rename_i h; exact hhd h
    have hce : colN (rows ++ [trm l]) = cols := by
      rw [hcn]
      by_cases hr0 : rows = []
      · rw [if_pos hr0]; exact g2
      · rw [if_neg hr0]; rw [if_neg hr0] at hcc; exact hcc
    have hfe : (rows ++ [trm l]).flatten = rows.flatten ++ trm l := by simp
    refine hL.ld 7 rfl (by kernel_rfl) (some ⟨b5, 0, none⟩ : Option Addr) rfl ?_
    refine hL.ld 7 rfl (by kernel_rfl) (some ⟨b5, 0, none⟩ : Option Addr) rfl ?_
    refine ptrW_of (ptrW_of ?_)
    refine hL.ld 3 rfl (by kernel_rfl) sl rfl ?_
    refine hL.ld 7 rfl (by kernel_rfl) (some ⟨b5, 0, none⟩ : Option Addr) rfl ?_
    refine ptrW_of (ptrW_of ?_)
    refine hL.ld 3 rfl (by kernel_rfl) ((cols : Nat) : Int) rfl ?_
    have hlt := trm_nl g1
    have hsl : ∀ S', sliceD E0 S' 9 (strV l) none (some (.int .i64 ((cols : Nat) : Int))) none = some (strV (trm l)) := fun S' => by
      rw [sliceD_s (l := l) (lo := none) (hi := some (.int .i64 ((cols : Nat) : Int))) (a := 0) (b := cols) rfl (natOf_int (k := .i64)) (by omega) (by rw [hlt, ← g2]; simp), List.drop_zero, Nat.sub_zero]
      have e : (trm l ++ [10]).take cols = trm l := by rw [← g2, List.take_left' rfl]
      rw [← hlt] at e
      rw [e]
    refine evV_of (ty := tT) (trm l) (hsl _) ?_
    refine GB.append hL.p und9 rfl rfl (show firstD _ 1 (trm l).length (strV (trm l)) = some ((trm l).map byV) from ?_) (fun e => by rw [e] at g2; simp at g2; omega) (by omega) fun s' S29 g' m hs' => ?_
    · show some ((bytesOfS ⟨(trm l).toArray⟩).take (trm l).length) = _
      congr 1
      exact List.take_of_length_le (by simp [bytesOfS])
    have hnx := hL.mod.next
    have hL := hL.op m (fun _ h => h) (fun c hc hlt => by have := hown c hc; omega) g' GB.frm hs' (fun c hc => GB.lt g' hc)
    refine hL.ld 7 rfl (by kernel_rfl) (some ⟨b5, 0, none⟩ : Option Addr) rfl ?_
    refine sameV_of ?_
    refine ptrW_of (ptrW_of ?_)
    refine hL.st 3 _ rfl (by kernel_rfl) rfl (Nat.le_of_ble_eq_true rfl) rfl rfl fun S30 hL _ => ?_
    refine hL.has 0 rfl ?_
    refine hL.upd 0 rfl fun S31 hL _ => ?_
    refine ⟨fun _ => ⟨rows ++ [trm l], s', ?_, fun c hc => (hs' c hc).elim (hown c) fun h => by omega, by simp; omega, by omega, hx, ?_, ?_⟩, fun h => by cases h⟩
    · rw [hce, hfe]
      exact hL
    · intro _
      rw [colN, if_neg (by simp)] at hce
      omega
    · rw [hfe, List.length_append]; omega
  · rintro S' ⟨rows, sl, h⟩
    obtain ⟨hL, hown, hrl, hi32, hpar, hhd, hfl⟩ := h
    rw [List.drop_length, parL] at hpar
    have hi1 : 1 ≤ (lnsP s).length := by
      rcases Nat.eq_zero_or_pos (lnsP s).length with h | h
      · have h2 := hlns
        rw [List.length_eq_zero_iff.1 h] at h2
        rw [← h2] at h0
        cases h0
      · exact h
    have hr0 : rows ≠ [] := fun e => by rw [e] at hrl; simp at hrl; omega
    have hc : colN rows = hdL rows := if_neg hr0
    refine .inl ?_
    refine hL.has 0 rfl ?_
    refine hL.upd 0 rfl fun S35 hL _ => ?_
    refine hL.ld 7 rfl (by kernel_rfl) (some ⟨b5, 0, none⟩ : Option Addr) rfl ?_
    have hmap : MapAt S35 b5 (lnsP s).length (colN rows) sl := hL.at 3 rfl
    refine evC_of (s16 hmap hi1 (GB.of hL.p) (by omega) fun s3 S36 e36 hs3 => ⟨_, rfl, ?_⟩)
    have hL := hL.ext e36
    refine ifW_dec (fun hz => ?_) fun hz => ?_
    · have hf : anyF rows.flatten = false := hs3.1 (by omega)
      rw [hf, if_neg (by simp)] at hpar
      refine hL.st 7 _ rfl (by kernel_rfl) rfl (Nat.le_of_ble_eq_true rfl) rfl rfl fun S37 hL _ => ?_
      refine hL.st 6 _ rfl (by kernel_rfl) rfl (Nat.le_of_ble_eq_true rfl) rfl rfl fun S38 hL _ => ?_
      refine hL.st 5 _ rfl (by kernel_rfl) rfl (Nat.le_of_ble_eq_true rfl) rfl rfl fun S39 hL _ => ?_
      refine hL.st 4 _ rfl (by kernel_rfl) rfl (Nat.le_of_ble_eq_true rfl) rfl rfl fun S40 hL _ => ?_
      refine hL.has 1 rfl ?_
      refine hL.upd 1 rfl fun S41 hL _ => ?_
      refine hL.ld 7 rfl (by kernel_rfl) (none : Option Addr) rfl ?_
      refine hL.ld 6 rfl (by kernel_rfl) (0 : Int) rfl ?_
      refine hL.ld 5 rfl (by kernel_rfl) (0 : Int) rfl ?_
      refine hL.ld 4 rfl (by kernel_rfl) (10 : Int) rfl ?_
      exact hno hpar.symm _ _ _ hL.mod
    · have hf : anyF rows.flatten = true := by
        cases h : anyF rows.flatten with
        | true => rfl
        | false => exact (hz (by have := hs3.2 h; omega)).elim
      rw [hf, if_pos rfl] at hpar
      refine hL.ld 7 rfl (by kernel_rfl) (some ⟨b5, 0, none⟩ : Option Addr) rfl ?_
      refine hL.st 7 _ rfl (by kernel_rfl) rfl (Nat.le_of_ble_eq_true rfl) rfl rfl fun S42 hL _ => ?_
      refine hL.st 6 _ rfl (by kernel_rfl) rfl (Nat.le_of_ble_eq_true rfl) rfl rfl fun S43 hL _ => ?_
      refine hL.st 5 _ rfl (by kernel_rfl) rfl (Nat.le_of_ble_eq_true rfl) rfl rfl fun S44 hL _ => ?_
      refine hL.st 4 _ rfl (by kernel_rfl) rfl (Nat.le_of_ble_eq_true rfl) rfl rfl fun S45 hL _ => ?_
      refine hL.has 1 rfl ?_
      refine hL.upd 1 rfl fun S46 hL _ => ?_
      refine hL.ld 7 rfl (by kernel_rfl) (some ⟨b5, 0, none⟩ : Option Addr) rfl ?_
      refine hL.ld 6 rfl (by kernel_rfl) (0 : Int) rfl ?_
      refine hL.ld 5 rfl (by kernel_rfl) (0 : Int) rfl ?_
      refine hL.ld 4 rfl (by kernel_rfl) (0 : Int) rfl ?_
      have hm : MapAt S46 b5 (lnsP s).length (colN rows) sl := hL.at 3 rfl
      rw [hc, ← hrl] at hm
      exact hok rows hpar.symm b5 sl S46 hL.mod hm
end
end Go.Proofs.Ytgdijpcopdgapaa

/- Robots: the document's maps. -/
namespace Go.Proofs.Ytgdijpcopdgapaa
open Go Go.Proofs.Ytgdijpcopdgapaa.D
set_option linter.unusedVariables false
set_option linter.unusedSimpArgs false
noncomputable section

abbrev strC (l : List UInt8) : List Value := [strV l]
theorem und86 : E0.und 86 = some (.slice 9) := by kernel_rfl
theorem inf9' : E0.inf 9 = some DEnv.i9 := by kernel_rfl
theorem agg9 : aggD DEnv.i9.und = false := by kernel_rfl
theorem by_eq {c : UInt8} {n : Nat} (hn : n < 256) : ((c.toNat : Nat) : Int) = (n : Int) ↔ c = UInt8.ofNat n := by
  rw [Int.ofNat_inj]
  constructor
  · intro h
    apply UInt8.toNat_inj.1
    rw [h, ofNat_toNat hn]
  · intro h
    rw [h, ofNat_toNat hn]
theorem s17 {S : St} {c : UInt8} {k : Value → St → Prop} (hk : k (.bool (knownL.contains c)) S) : WC E0 17 [byV c] S k := by
  refine w17 _ ?_
  unfold c17
  have e : ∀ n : Nat, n < 256 → (eqI ((c.toNat : Nat) : Int) (n : Int) = (c == UInt8.ofNat n)) := fun n hn => by
    rw [eqI_eq]
    by_cases h : c = UInt8.ofNat n
    · rw [decide_eq_true ((by_eq hn).2 h), h, beq_self_eq_true]
    · rw [decide_eq_false fun h' => h ((by_eq hn).1 h'), beq_eq_false_iff_ne.2 h]
  have e1 : eqI ((c.toNat : Nat) : Int) 35 = (c == 35) := e 35 (by omega)
  have e2 : eqI ((c.toNat : Nat) : Int) 46 = (c == 46) := e 46 (by omega)
  have e3 : eqI ((c.toNat : Nat) : Int) 60 = (c == 60) := e 60 (by omega)
  have e4 : eqI ((c.toNat : Nat) : Int) 62 = (c == 62) := e 62 (by omega)
  have e5 : eqI ((c.toNat : Nat) : Int) 94 = (c == 94) := e 94 (by omega)
  have e6 : eqI ((c.toNat : Nat) : Int) 118 = (c == 118) := e 118 (by omega)
  rw [e1, e2, e3, e4, e5, e6]
  have hc : knownL.contains c = (c == 35 || (c == 46 || (c == 60 || (c == 62 || (c == 94 || (c == 118)))))) := by
    simp only [knownL, List.contains_cons, List.contains_nil, Bool.or_false]
  rw [hc] at hk
  refine ifW_of (fun h => ?_) fun h1 => ?_
  · rw [h] at hk; simpa using hk
  refine ifW_of (fun h => ?_) fun h2 => ?_
  · rw [h] at hk; simpa using hk
  refine ifW_of (fun h => ?_) fun h3 => ?_
  · rw [h] at hk; simpa using hk
  refine ifW_of (fun h => ?_) fun h4 => ?_
  · rw [h] at hk; simpa using hk
  refine ifW_of (fun h => ?_) fun h5 => ?_
  · rw [h] at hk; simpa using hk
  rw [h1, h2, h3, h4, h5] at hk
  simpa using hk
theorem hd_get {rows : List (List UInt8)} (h : 0 < rows.length) : hdL rows = rows[0].length := by
  cases rows with
  | nil => simp at h
  | cons => rfl
/-- The first row's length. -/
theorem rd_hd {S S' : St} {sl : Sl} {rows : List (List UInt8)} {L : List (Nat × DObj)} (hL : CX noB strC 1 S S' L sl rows) (h : 0 < rows.length) {k : List UInt8 → Prop} (hk : ∀ l : List UInt8, l.length = hdL rows → k l) : idxW sl.a sl.len 0 fun (b19 b20 : Nat) => evV tT (loadV E0 S' 9 (.pointer (some ⟨b19, b20 + Int.toNat 0 * 1, none⟩))) k :=
  SlOf.get1n (hL.cx.p.of fun _ => rfl) (n := 0) (g := strV) inf9' agg9 h fun b1 o1 hld _ => evV_of (ty := tT) _ (hld _ rfl) (hk _ (hd_get h).symm)
set_option maxHeartbeats 1000000 in
theorem s5 {S : St} {s : List UInt8} {k : Value → St → Prop} (hlen : s.length ≤ 100000)
    (hno : parP s = none → ∀ n1 n2 S', Ext S S' → k (.tuple #[.pointer none, .int .i64 n1, .int .i64 n2, .int .i64 10]) S')
    (hok : ∀ rows, parP s = some rows → ∀ b sl S', Ext S S' → At S' b (.cells [.slice sl.a sl.len sl.cap] none false none) → SlOf strC 1 S' sl rows → k (.tuple #[.pointer (some ⟨b, 0, none⟩), .int .i64 0, .int .i64 0, .int .i64 0]) S') : WC E0 5 [strV s] S k := by
  refine w5 s ?_
  unfold c5
  refine CX.new (f := strC) (sz := 1) (CX.start noB) fun b1 S1 hL => ?_
  refine ifW_of (fun h0 => ?_) fun h0 => ?_
  · have h0 : s = [] := by simpa using h0
    subst h0
    exact hno rfl _ _ _ hL.cx.mod
  refine loopW_ind (fun q (x : List UInt8 × Bool × Int) S' => ∃ (i : Nat) (rows : List (List UInt8)) (sl : Sl), x.2.2 = (i : Int) ∧ i ≤ s.length ∧ q = s.length - i ∧ CX noB strC 1 S S' [(b1, .cells [.slice sl.a sl.len sl.cap] none false none)] sl rows ∧ par rows x.1 x.2.1 (s.drop i) = parP s ∧ rows.length ≤ i ∧ x.1.length ≤ i) (m := s.length) ⟨0, [], ⟨none, 0, 0⟩, rfl, by omega, rfl, hL, rfl, by simp, by simp⟩ ?_
  rintro P q ⟨row, free, n0⟩ S2 ⟨i, rows, sl, rfl, hi, rfl, hL, hpar, hrl, hwl⟩ hP
  dsimp only at hL hpar hwl ⊢
  have hsl : sl.len = rows.length := GrX.len hL.cx.p
  refine ifW_dec (fun hlt => ?_) fun hlt => ?_
  · have hi' : i < s.length := by omega
    rw [List.drop_eq_getElem_cons hi', par] at hpar
    refine ptrW_of (ptrW_of ?_)
    refine hL.cx.ld 0 rfl (by kernel_rfl) sl rfl ?_
    have e1 : wrapI .i64 ((sl.len : Int) + 1) = ((rows.length + 1 : Nat) : Int) := by rw [hsl, wrap_succ (by omega)]
    have e2 : wrapI .i64 ((row.length : Int) + 1) = ((row.length + 1 : Nat) : Int) := wrap_succ (by omega)
    rw [e1, e2]
    refine ifW_dec (fun h1 => ?_) fun h1 => ?_
    · rw [if_pos (by omega)] at hpar
      exact hno hpar.symm _ _ _ hL.cx.mod
    rw [if_neg (by omega)] at hpar
    refine evV_of (ty := tU8) _ (indexD_str und9 hi') ?_
    have e10 : ((s[i].toNat : Nat) : Int) = 10 ↔ s[i] = 10 := by_eq (n := 10) (by omega)
    refine ifW_dec (fun h10 => ?_) fun h10 => ?_
    · rw [if_pos (e10.1 h10)] at hpar
      refine join_of (fun t S' => (t = true ↔ (row = [] ∨ rows ≠ [] ∧ row.length < hdL rows)) ∧ S' = S2) (fun t S3 hS => ?_) fun k2 hk2 => ?_
      · obtain ⟨ht, rfl⟩ := hS
        refine ifW_of (fun h => ?_) fun h => ?_
        · rw [if_pos (ht.1 h)] at hpar
          exact hno hpar.symm _ _ _ hL.cx.mod
        · have hh : ¬ (row = [] ∨ rows ≠ [] ∧ row.length < hdL rows) := fun h' => by rw [ht.2 h'] at h; cases h
          rw [if_neg hh] at hpar
          refine ptrW_of (ptrW_of ?_)
          refine hL.cx.ld 0 rfl (by kernel_rfl) sl rfl ?_
          refine hL.one (f := strC) (x := row) (fun _ => rfl) (by omega) und86 inf9' (by kernel_rfl) rfl (by kernel_rfl : DEnv.i9.zero = some (.string ⟨#[]⟩)) rfl rfl (by rw [bytes9]; omega) (by omega) (by omega) fun s' S5 hL => ?_
          refine ptrW_of (ptrW_of ?_)
          refine hL.st 0 _ rfl (by kernel_rfl) rfl (Nat.le_of_ble_eq_true rfl) rfl rfl fun S6 hL => ?_
          rw [wrap_succ (by omega)]
          exact hP _ _ _ (by omega) ⟨i + 1, rows ++ [row], s', rfl, by omega, rfl, hL, hpar, by simp; omega, by simp⟩
      · refine ifW_dec (fun h => hk2 _ _ ⟨⟨fun _ => .inl (List.length_eq_zero_iff.1 (by omega)), fun _ => rfl⟩, rfl⟩) fun h => ?_
        have hr0 : row ≠ [] := fun e => h (by rw [e]; rfl)
        refine ifW_dec (fun h2 => ?_) fun h2 => ?_
        · have hrp : 0 < rows.length := by omega
          refine ptrW_of (ptrW_of ?_)
          refine hL.cx.ld 0 rfl (by kernel_rfl) sl rfl ?_
          refine rd_hd hL hrp fun l hl => ?_
          refine hk2 _ _ ⟨?_, rfl⟩
          rw [ltI_eq, decide_eq_true_iff, hl]
          exact ⟨fun h => .inr ⟨List.length_pos_iff.1 hrp, by omega⟩, fun h => by rcases h with h | h; exact (hr0 h).elim; have := h.2; omega⟩
        · have hrz : rows = [] := List.length_eq_zero_iff.1 (by omega)
          exact hk2 _ _ ⟨⟨(fun h => by cases h), fun h => by rcases h with h | h; exact (hr0 h).elim; exact (h.1 hrz).elim⟩, rfl⟩
    · rw [if_neg fun h => h10 (e10.2 h)] at hpar
      refine join_of (fun t S' => (t = true ↔ (knownL.contains s[i] = false ∨ 32 ≤ row.length ∨ rows ≠ [] ∧ hdL rows ≤ row.length)) ∧ S' = S2) (fun t S3 hS => ?_) fun k2 hk2 => ?_
      · obtain ⟨ht, rfl⟩ := hS
        refine ifW_of (fun h => ?_) fun h => ?_
        · rw [if_pos (ht.1 h)] at hpar
          exact hno hpar.symm _ _ _ hL.cx.mod
        · have hh : ¬ (knownL.contains s[i] = false ∨ 32 ≤ row.length ∨ rows ≠ [] ∧ hdL rows ≤ row.length) := fun h' => by rw [ht.2 h'] at h; cases h
          rw [if_neg hh] at hpar
          refine join_of (fun t S' => t = (free || s[i] != 35) ∧ S' = S3) (fun t S4 hS => ?_) fun k3 hk3 => ?_
          · obtain ⟨rfl, rfl⟩ := hS
            rw [wrap_succ (by omega)]
            refine evV_of (ty := tT) [s[i]] ?_ ?_
            · rw [sliceD_s (l := s) (lo := some (.int .i64 (i : Int))) (hi := some (.int .i64 ((i + 1 : Nat) : Int))) (a := i) (b := i + 1) (natOf_int (k := .i64)) (natOf_int (k := .i64)) (by omega) (by omega), show i + 1 - i = 1 from by omega]
              rw [List.drop_eq_getElem_cons hi']
              rfl
            refine evV_of (ty := tT) (row ++ [s[i]]) (cat_eq (by simp; omega)) ?_
            exact hP _ _ _ (by omega) ⟨i + 1, rows, sl, rfl, by omega, rfl, hL, hpar, by omega, by simp; omega⟩
          · refine ifW_of (fun h => hk3 _ _ ⟨by rw [h]; rfl, rfl⟩) fun h => ?_
            refine evV_of (ty := tU8) _ (indexD_str und9 hi') ?_
            refine hk3 _ _ ⟨?_, rfl⟩
            rw [h, Bool.false_or, eqI_eq]
            have e35 : ((s[i].toNat : Nat) : Int) = 35 ↔ s[i] = 35 := by_eq (n := 35) (by omega)
            by_cases hh : s[i] = 35
            · rw [decide_eq_true (e35.2 hh), hh]; rfl
            · rw [decide_eq_false fun h => hh (e35.1 h)]
              show true = _
              rw [bne, (beq_eq_false_iff_ne).2 hh]; rfl
      · refine evV_of (ty := tU8) _ (indexD_str und9 hi') ?_
        refine evC_of (s17 ⟨_, rfl, ?_⟩)
        refine ifW_of (fun h => hk2 _ _ ⟨⟨fun _ => .inl (by simpa using h), fun _ => rfl⟩, rfl⟩) fun h => ?_
        have hkn : ¬ knownL.contains s[i] = false := fun e => by rw [e] at h; cases h
        refine ifW_dec (fun h32 => hk2 _ _ ⟨⟨fun _ => .inr (.inl (by omega)), fun _ => rfl⟩, rfl⟩) fun h32 => ?_
        refine ifW_dec (fun h2 => ?_) fun h2 => ?_
        · have hrp : 0 < rows.length := by omega
          refine ptrW_of (ptrW_of ?_)
          refine hL.cx.ld 0 rfl (by kernel_rfl) sl rfl ?_
          refine rd_hd hL hrp fun l hl => ?_
          refine hk2 _ _ ⟨?_, rfl⟩
          rw [leI_eq, decide_eq_true_iff, hl]
          exact ⟨fun h => .inr (.inr ⟨List.length_pos_iff.1 hrp, by omega⟩), fun h => by rcases h with h | h | h; exact (hkn h).elim; omega; have := h.2; omega⟩
        · have hrz : rows = [] := List.length_eq_zero_iff.1 (by omega)
          exact hk2 _ _ ⟨⟨(fun h => by cases h), fun h => by rcases h with h | h | h; exact (hkn h).elim; omega; exact (h.1 hrz).elim⟩, rfl⟩
  · have hi' : i = s.length := by omega
    subst hi'
    rw [List.drop_length, par] at hpar
    refine ifW_of (fun h => ?_) fun h => ?_
    · rw [if_pos (by simpa using h)] at hpar
      refine ptrW_of (ptrW_of ?_)
      refine hL.cx.ld 0 rfl (by kernel_rfl) sl rfl ?_
      exact hno hpar.symm _ _ _ hL.cx.mod
    · rw [if_neg (by simpa using h)] at hpar
      refine ifW_of (fun h => ?_) fun h => ?_
      · rw [if_neg (by simpa using h)] at hpar
        exact hno hpar.symm _ _ _ hL.cx.mod
      · rw [if_pos (by simpa using h)] at hpar
        exact hok rows hpar.symm b1 sl S2 hL.cx.mod (hL.cx.at 0 rfl) (hL.cx.p.of fun _ => rfl)
/-- How many cells the document's map has. -/
theorem s27 {S : St} {b : Nat} {sl : Sl} {rows : List (List UInt8)} (hat : At S b (.cells [.slice sl.a sl.len sl.cap] none false none)) (hs : SlOf strC 1 S sl rows) (hm : mapOk rows) {k : Value → St → Prop} (hk : k (.int .i64 ((rows.length * hdL rows : Nat) : Int)) S) : WC E0 27 [.pointer (some ⟨b, 0, none⟩)] S k := by
  refine w27 _ ?_
  unfold c27
  have hp : 0 < rows.length := List.length_pos_iff.2 hm.1
  have hl := hs.len
  refine ptrW_of (ptrW_of (evV_of (ty := tS) sl (load_one hat (by kernel_rfl)) ?_))
  refine ptrW_of (ptrW_of (evV_of (ty := tS) sl (load_one hat (by kernel_rfl)) ?_))
  refine hs.get1n (n := 0) (g := strV) inf9' agg9 hp fun b1 o1 hld _ => evV_of (ty := tT) _ (hld _ rfl) ?_
  have := mul_le_1024 hm.2.1 hm.2.2.2
  rw [← hd_get hp, hl, ← Int.natCast_mul, wrap_i64 (by omega) (by omega)]
  exact hk
end
end Go.Proofs.Ytgdijpcopdgapaa

/- Robots: maps of numbers; small functions; a search. -/
namespace Go.Proofs.Ytgdijpcopdgapaa
open Go Go.Proofs.Ytgdijpcopdgapaa.D
set_option linter.unusedVariables false
set_option linter.unusedSimpArgs false
noncomputable section

theorem idx_lit {b o len : Nat} {i : Int} {k : Nat → Nat → Prop} (h0 : 0 ≤ i) (h1 : i < (len : Int)) (hk : k b o) : idxW (some ⟨b, o, none⟩) len i k := ⟨b, o, rfl, h0, h1, hk⟩
/-! ### Maps of numbers -/
def isK (n : Int) : Value → Bool
  | .int .i64 m => decide (m = n)
  | _ => false
theorem isK_int {n m : Int} : isK n (.int .i64 m) = decide (m = n) := rfl
/-- A map: what it has of each number. -/
def MapFn (S : St) (b : Nat) (f : Int → Option Value) : Prop := ∃ es clock, At S b (.map es clock) ∧ (∀ e ∈ es, ∃ n : Int, e.key = .int .i64 n) ∧ ∀ n : Int, ((es.find? fun e => isK n e.key).map (·.val)) = f n
theorem MapFn.nil {S : St} {b : Nat} {clock : Nat} (h : At S b (.map [] clock)) : MapFn S b fun _ => none := ⟨[], clock, h, by simp, fun n => rfl⟩
theorem MapFn.mod {S S' : St} {b : Nat} {f : Int → Option Value} {F : Nat → Prop} (h : MapFn S b f) (m : D.Mod F S S') (hF : ¬ F b) : MapFn S' b f := by
  obtain ⟨es, clock, h1, h2⟩ := h
  exact ⟨es, clock, m.at h1 hF, h2⟩
theorem MapFn.ext {S S' : St} {b : Nat} {f : Int → Option Value} (h : MapFn S b f) (e : Ext S S') : MapFn S' b f := h.mod e fun h => h
theorem keyEq_int {S : St} {kt : TypeId} {n m : Int} : keyEq E0 S kt (.int .i64 n) (.int .i64 m) = some (decide (n = m)) := by
  simp only [keyEq]
  have : kindEq .i64 .i64 = true := rfl
  rw [this, cond_true]
theorem findD_int {S : St} {kt : TypeId} {n : Int} : ∀ (es : List MapEntry) (i : Nat), (∀ e ∈ es, ∃ m : Int, e.key = .int .i64 m) →
    (findD E0 S kt (.int .i64 n) es i = some none ∧ es.find? (fun e => isK n e.key) = none) ∨ ∃ (j : Nat) (en : MapEntry), findD E0 S kt (.int .i64 n) es i = some (some (i + j, en)) ∧ es.find? (fun e => isK n e.key) = some en ∧ es[j]? = some en ∧ (∀ j' < j, ∀ e, es[j']? = some e → e.key ≠ .int .i64 n) ∧ en.key = .int .i64 n
  | [], i, _ => .inl ⟨rfl, rfl⟩
  | e :: es, i, h => by
    obtain ⟨m, hm⟩ := h e (by simp)
    have hs : findD E0 S kt (.int .i64 n) (e :: es) i = (keyEq E0 S kt (.int .i64 n) e.key).bind fun b => cond b (some (some (i, e))) (findD E0 S kt (.int .i64 n) es (i + 1)) := rfl
    rw [hs, hm, keyEq_int, Option.bind_some]
    by_cases hnm : n = m
    · subst hnm
      refine .inr ⟨0, e, ?_, ?_, rfl, by omega, hm⟩
      · rw [decide_eq_true rfl]; rfl
      · rw [List.find?_cons, hm, isK_int, decide_eq_true rfl]
    · have h0 : ¬ e.key = .int .i64 n := by rw [hm]; intro e; cases e; exact hnm rfl
      have h00 : isK n e.key = false := by rw [hm, isK_int]; exact decide_eq_false fun e => hnm e.symm
      rw [decide_eq_false hnm, cond_false, List.find?_cons, h00]
      rcases findD_int es (i + 1) (fun e he => h e (List.mem_cons_of_mem _ he)) with ⟨h1, h2⟩ | ⟨j, en, h1, h2, h3, h4, h5⟩
      · exact .inl ⟨h1, h2⟩
      · refine .inr ⟨j + 1, en, by rw [h1, show i + 1 + j = i + (j + 1) from by omega], h2, by simpa using h3, fun j' hj' e' he' => ?_, h5⟩
        cases j' with
        | zero => simp at he'; subst he'; exact h0
        | succ j' => exact h4 j' (by omega) e' (by simpa using he')
theorem lookup_fn {S : St} {b : Nat} {f : Int → Option Value} (h : MapFn S b f) {t kt e : TypeId} (ht : E0.und t = some (.map kt e)) (hk : ∀ n : Int, keyType E0 kt (.int .i64 n) = true) {z : Value} (hz : E0.zero e = some z) {n : Int} : lookupD E0 S t (.map (some b)) (.int .i64 n) false = some ((f n).getD z) := by
  obtain ⟨es, clock, h1, h2, h3⟩ := h
  simp only [lookupD, ht, hk, cond_true, h1.get]
  rw [← h3 n]
  rcases findD_int (S := S) (kt := kt) (n := n) es 0 h2 with ⟨g1, g2⟩ | ⟨j, en, g1, g2, _⟩
  · rw [g1, g2]; simp only [Option.bind_some, hz]; rfl
  · rw [g1, g2]; simp only [Option.bind_some]; rfl
theorem lookup_ok {S : St} {b : Nat} {f : Int → Option Value} (h : MapFn S b f) {t kt e : TypeId} (ht : E0.und t = some (.map kt e)) (hk : ∀ n : Int, keyType E0 kt (.int .i64 n) = true) {z : Value} (hz : E0.zero e = some z) {n : Int} : lookupD E0 S t (.map (some b)) (.int .i64 n) true = some (.tuple #[(f n).getD z, .bool (f n).isSome]) := by
  obtain ⟨es, clock, h1, h2, h3⟩ := h
  simp only [lookupD, ht, hk, cond_true, h1.get]
  rw [← h3 n]
  rcases findD_int (S := S) (kt := kt) (n := n) es 0 h2 with ⟨g1, g2⟩ | ⟨j, en, g1, g2, _⟩
  · rw [g1, g2]; simp only [Option.bind_some, hz]; rfl
  · rw [g1, g2]; simp only [Option.bind_some]; rfl
theorem find_modify {n m : Int} {v : Value} : ∀ {es : List MapEntry} {j : Nat} {en : MapEntry}, es[j]? = some en → (∀ j' < j, ∀ e, es[j']? = some e → e.key ≠ .int .i64 n) → en.key = .int .i64 n →
    ((es.modify j fun e => { e with key := .int .i64 n, val := v }).find? fun e => isK m e.key).map (·.val) = if m = n then some v else (es.find? fun e => isK m e.key).map (·.val)
  | [], j, en, h, _, _ => by simp at h
  | e :: es, 0, en, h, _, hk => by
    simp at h; subst h
    rw [List.modify_zero_cons, List.find?_cons, List.find?_cons]
    by_cases hmn : m = n
    · subst hmn; rw [isK_int, decide_eq_true rfl, if_pos rfl]; rfl
    · rw [isK_int, decide_eq_false fun e => hmn e.symm, hk, isK_int, decide_eq_false fun e => hmn e.symm, if_neg hmn]
  | e :: es, j + 1, en, h, hp, hk => by
    have h0 := hp 0 (by omega) e rfl
    rw [List.modify_succ_cons, List.find?_cons, List.find?_cons]
    cases hem : isK m e.key with
    | true =>
      have hmn : ¬ m = n := fun e' => by
        subst e'
        unfold isK at hem
        split at hem
        · rename_i q hq
          exact h0 (by rw [hq, of_decide_eq_true hem])
        · cases hem
      rw [if_neg hmn]
    | false =>
      exact find_modify (by simpa using h) (fun j' hj' e' he' => hp (j' + 1) (by omega) e' (by simpa using he')) hk
theorem update_fn {S : St} {b : Nat} {f : Int → Option Value} (h : MapFn S b f) {t kt e : TypeId} (ht : E0.und t = some (.map kt e)) (hk : ∀ n : Int, keyType E0 kt (.int .i64 n) = true) {n : Int} {v : Value} {K : St → Prop}
    (hK : ∀ S', MapFn S' b (fun m => if m = n then some v else f m) → D.Mod (fun c => c = b) S S' → S'.next = S.next → K S') : evS (mapUpdateD E0 S t (.map (some b)) (.int .i64 n) v) K := by
  obtain ⟨es, clock, h1, h2, h3⟩ := h
  rcases findD_int (S := S) (kt := kt) (n := n) es 0 h2 with ⟨g1, g2⟩ | ⟨j, en, g1, g2, g3, g4, g5⟩
  · refine ⟨S.upd b (.map (es ++ [{ key := .int .i64 n, val := v, born := clock }]) (clock + 1)), ?_, hK _ ⟨_, _, upd_at h1, fun e he => ?_, fun m => ?_⟩ upd_mod rfl⟩
    · simp only [mapUpdateD, ht, hk, cond_true, mapPut, h1.get, g1, Option.bind_some]
    · rcases List.mem_append.1 he with he | he
      · exact h2 e he
      · simp at he; subst he; exact ⟨n, rfl⟩
    · rw [List.find?_append]
      show _ = if m = n then some v else f m
      by_cases hm : m = n
      · subst hm
        rw [g2, if_pos rfl, Option.none_or, List.find?_cons, isK_int, decide_eq_true rfl]; rfl
      · rw [if_neg hm, ← h3 m]
        rw [List.find?_cons, isK_int, decide_eq_false fun e => hm e.symm]
        simp
  · refine ⟨S.upd b (.map (es.modify j fun e => { e with key := .int .i64 n, val := v }) clock), ?_, hK _ ⟨_, _, upd_at h1, fun e he => ?_, fun m => ?_⟩ upd_mod rfl⟩
    · have hsb : Instr.sameBits 10000 en.key (.int .i64 n) = true := by rw [g5]; simp [Instr.sameBits]
      rw [Nat.zero_add] at g1
      simp only [mapUpdateD, ht, hk, cond_true, mapPut, h1.get, g1, Option.bind_some, hsb]
    · rw [List.mem_iff_getElem?] at he
      obtain ⟨i, hi⟩ := he
      rw [List.getElem?_modify] at hi
      by_cases hij : j = i
      · subst hij; simp [g3] at hi; subst hi; exact ⟨n, rfl⟩
      · simp [hij] at hi; exact h2 e (List.mem_iff_getElem?.2 ⟨i, hi⟩)
    · rw [find_modify g3 g4 g5, h3 m]
theorem und106 : E0.und 106 = some (.map 3 3) := by kernel_rfl
theorem key3 (n : Int) : keyType E0 3 (.int .i64 n) = true := by kernel_rfl
theorem zero3 : E0.zero 3 = some (.int .i64 0) := by kernel_rfl
/-! ### Small functions -/
def knownN (n : Int) : Prop := 0 ≤ n ∧ n < 1024
instance (n : Int) : Decidable (knownN n) := by unfold knownN; infer_instance
theorem s40 {S : St} {n : Int} {k : Value → St → Prop} (hk : k (.bool (decide (knownN n))) S) : WC E0 40 [.int .i64 n] S k := by
  refine w40 _ ?_
  unfold c40
  refine ifW_dec (fun h => ?_) fun h => ?_
  · rw [ltI_eq]
    rw [show decide (n < 1024) = decide (knownN n) from decide_eq_decide.2 ⟨fun h' => ⟨h, h'⟩, fun h' => h'.2⟩]
    exact hk
  · rw [show decide (knownN n) = false from decide_eq_false fun h' => h h'.1] at hk
    exact hk
theorem s51 {S : St} {n : Int} {k : Value → St → Prop} (hk : k (.bool (decide (knownN n))) S) : WC E0 51 [.int .i64 n] S k := by
  refine w51 _ ?_
  unfold c51
  refine ifW_dec (fun h => ?_) fun h => ?_
  · rw [ltI_eq]
    rw [show decide (n < 1024) = decide (knownN n) from decide_eq_decide.2 ⟨fun h' => ⟨h, h'⟩, fun h' => h'.2⟩]
    exact hk
  · rw [show decide (knownN n) = false from decide_eq_false fun h' => h h'.1] at hk
    exact hk
def cmpN (x y : Int) : Int := if x < y then -1 else if y < x then 1 else 0
theorem s62 {S : St} {x y : Int} {k : Value → St → Prop} (hk : k (.int .i64 (cmpN x y)) S) : WC E0 62 [.int .i64 x, .int .i64 y] S k := by
  refine w62 _ _ ?_
  unfold c62
  have hnan : ∀ z : Int, (!eqI z z) = false := fun z => by rw [eqI_eq, decide_eq_true rfl]; rfl
  refine evC_of (w69 _ ?_)
  unfold c69
  refine ⟨false, by rw [hnan]; rfl, ?_⟩
  refine evC_of (w69 _ ?_)
  unfold c69
  refine ⟨false, by rw [hnan]; rfl, ?_⟩
  refine ifW_of (fun h => by cases h) fun _ => ifW_of (fun h => by cases h) fun _ => ?_
  refine ifW_dec (fun h => ?_) fun h => ?_
  · rw [cmpN, if_pos h] at hk; exact hk
  rw [cmpN, if_neg h] at hk
  refine ifW_dec (fun h2 => ?_) fun h2 => ?_
  · rw [if_pos h2] at hk; exact hk
  · rw [if_neg h2] at hk; exact hk
abbrev Clm := Int × Int
abbrev clmC (c : Clm) : List Value := [.int .i64 c.1, .int .u32 c.2]
theorem s61 {S : St} {x : Clm} {n : Int} {k : Value → St → Prop} (hk : ∀ S', Ext S S' → k (.int .i64 (cmpN x.1 n)) S') : WC E0 61 [sv G131 x, .int .i64 n] S k := by
  refine w61 _ _ ?_
  unfold c61
  refine newW_of fun b S1 _ hat he _ => ?_
  refine ptrW_of (evV_of (ty := tI) x.1 (load_one hat (by kernel_rfl)) ?_)
  exact evC_of (s62 ⟨_, rfl, hk _ he⟩)
/-! ### A search -/
theorem half_eq {a b : Nat} (h : a + b ≤ 1000000) : wrapI .i64 (Int.fdiv (wrapI .u64 (wrapI .i64 ((a : Int) + (b : Int)))) ((2 : Int) ^ min (Int.toNat 1) 64)) = (((a + b) / 2 : Nat) : Int) := by
  rw [wrap_i64 (n := (a : Int) + (b : Int)) (by omega) (by omega), wrap_u64 (by omega) (by omega)]
  have e : ((2 : Int) ^ min (Int.toNat 1) 64) = 2 := by decide
  rw [e, Int.fdiv_eq_ediv_of_nonneg _ (by omega), wrap_i64 (by omega) (by omega)]
  omega
theorem ldAgg132 : ldAgg E0 132 2 = true := by kernel_rfl
theorem slOf_getA {α : Type} {f : α → List Value} {sz : Nat} (hf : ∀ x, (f x).length = sz) {S : St} {s : Sl} {l : List α} (h : SlOf f sz S s l) {t : Nat} (ht : ldAgg E0 t sz = true) {n : Nat} (hn : n < l.length) {k : Nat → Nat → Prop}
    (hk : ∀ b o, loadV E0 S t (.pointer (some ⟨b, o + (n : Int).toNat * sz, none⟩)) = some (.agg (f l[n]).toArray) → k b o) : idxW s.a s.len (n : Int) k := by
  refine h.idx hf (i := (n : Int)) (by omega) (by omega) fun b o cs more ro fz hat _ hc => hk b o ?_
  exact load_agg hat ht hc (hf _)
end
end Go.Proofs.Ytgdijpcopdgapaa
