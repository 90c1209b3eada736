/- Parts of the proof, put together. -/
import Derived.Test.YtfopfocedlbihaaDoorLA
import Derived.Test.YtfopfocedlbihaaDoorCB
import Derived.Laws.Bits64
/- Orders: names, parts, and what may be. -/
namespace Go.Proofs.YtfopfocedlbihaaDoor
open Go Go.Proofs.YtfopfocedlbihaaDoor.D
set_option linter.unusedVariables false
set_option linter.unusedSimpArgs false
noncomputable section

theorem und9 : E0.und 9 = some .string := by kernel_rfl
abbrev strV (l : List UInt8) : Value := .string ⟨l.toArray⟩
abbrev cellsO (y : Ord) : List Value := [.int .i64 y.1, .int .i64 y.2.1, .int .i64 y.2.2.1, .int .i64 y.2.2.2.1, .int .i64 y.2.2.2.2.1, .int .u64 y.2.2.2.2.2]
def powT : List Int := Lib.pow10Tab
/-- The package's variables as they are laid. -/
abbrev tabN : List (List UInt8) := [[], [99, 114, 111, 119, 100, 101, 100], [117, 110, 104, 101, 108, 100], [117, 110, 107, 110, 111, 119, 110], [99, 108, 97, 105, 109, 115], [98, 111, 117, 110, 100, 115], [115, 104, 101, 108, 102], [102, 108, 105, 103, 104, 116, 115]]
structure Gl (S : St) : Prop where
  names : ∃ more ro fz, At S 0 (.cells (tabN.map strV) more ro fz)
  pow : ∃ more ro fz, At S 4 (.cells (powT.map (Value.int .u64)) more ro fz)
theorem Gl.ext {S S' : St} (g : Gl S) (e : Ext S S') : Gl S' := by
  obtain ⟨⟨a1, a2, a3, a4⟩, b1, b2, b3, b4⟩ := g
  exact ⟨⟨a1, a2, a3, e.at a4⟩, b1, b2, b3, e.at b4⟩
theorem load1_at {S : St} {b o : Nat} {cs : List Value} {more : Option Nat} {ro : Bool} {fz : Option (Nat × Nat)} (h : At S b (.cells cs more ro fz)) : S.load1 b o = cs[o]? := by
  unfold St.load1
  rw [h.get]
theorem s96 {S : St} {n a b : Int} {k : Value → St → Prop} (hk : k (.bool (decide (a ≤ n ∧ n ≤ b))) S) : WC E0 96 [.int .i64 n, .int .i64 a, .int .i64 b] S k := by
  refine w96 n a b ?_
  unfold c96
  refine ifW_dec (fun h => ?_) fun h => ?_
  · rw [leI_eq]
    rw [show decide (a ≤ n ∧ n ≤ b) = decide (n ≤ b) by simp [h]] at hk
    exact hk
  · rw [show decide (a ≤ n ∧ n ≤ b) = false by simp; omega] at hk
    exact hk
theorem not_of {t : Bool} {p : Prop} (ht : t = true ↔ p) (h : t = false) : ¬ p := fun hp => by rw [ht.2 hp] at h; cases h
end
end Go.Proofs.YtfopfocedlbihaaDoor

/- Orders: numbers as texts. -/
namespace Go.Proofs.YtfopfocedlbihaaDoor
open Go Go.Proofs.YtfopfocedlbihaaDoor.D
set_option linter.unusedVariables false
set_option linter.unusedSimpArgs false
noncomputable section

theorem und92 : E0.und 92 = some (.slice 5) := by kernel_rfl
theorem und5 : E0.und 5 = some (.int .u8) := by kernel_rfl
theorem und168 : E0.und 168 = some (.array 24 5) := by kernel_rfl
theorem size5 : E0.size 5 = some 1 := by kernel_rfl
abbrev byV (c : UInt8) : Value := .int .u8 (c.toNat : Int)
theorem byteOf_by (c : UInt8) : byteOfV (byV c) = some c := by
  show some (UInt8.ofNat ((c.toNat : Int)).toNat) = some c
  simp
theorem mapM_by (l : List UInt8) : (l.map byV).mapM byteOfV = some l := by
  induction l with
  | nil => rfl
  | cons c l ih => rw [List.map_cons, List.mapM_cons, byteOf_by, ih]; rfl
theorem conv_str {S : St} {b o cap : Nat} {l : List UInt8} (h : S.loadN b o l.length = some (l.map byV)) (h0 : l ≠ []) : convertD E0 S 92 9 (.slice (some ⟨b, o, none⟩) l.length cap) = some (strV l, S) := by
  have hl : Nat.beq l.length 0 = false := Bool.eq_false_iff.2 fun hh => h0 (List.length_eq_zero_iff.1 (Nat.eq_of_beq_eq_true hh))
  simp only [convertD, und92, und9, und5, hl, cond_false, h, Option.bind_some, mapM_by, Option.map_some]
theorem loadN_of {S : St} {b o n : Nat} {cs vs : List Value} {more : Option Nat} {ro : Bool} {fz : Option (Nat × Nat)} (h : At S b (.cells cs more ro fz)) (hv : (cs.drop o).take n = vs) (hl : vs.length = n) : S.loadN b o n = some vs := by
  subst hv
  simp only [St.loadN, h.get, hl, Nat.beq_refl, cond_true]
theorem digVs_dec {u : Nat} : digVs u (Lib.nDigits u) = (dec u).map byV := by
  unfold digVs
  show _ = (Lib.decDigits u).map byV
  rw [Lib.decDigits_eq, List.map_map]
  refine List.map_congr_left fun t ht => ?_
  unfold digV
  have : u / 10 ^ (Lib.nDigits u - 1 - t) % 10 < 10 := Nat.mod_lt _ (by omega)
  show Value.int .u8 _ = byV (Lib.dg u (Lib.nDigits u - 1 - t))
  unfold Lib.dg
  rw [byV, ofNat_toNat (by omega)]
theorem s95 {S : St} {u : Nat} {k : Value → St → Prop} (h : u < 18446744073709551616) (hk : k (.int .i64 ((Lib.bitLen u : Nat) : Int)) S) : WC E0 95 [.int .u64 (u : Int)] S k := by
  refine WC_prim (E := E0) (f := 95) rfl (show withS lenP [.int .u64 (u : Int)] S = some (.int .i64 ((Lib.bitLen u : Nat) : Int), S) from ?_) hk
  have h1 : decide ((0 : Int) ≤ (u : Int)) = true := by simp
  have h2 : decide ((u : Int) ≤ 18446744073709551615) = true := decide_eq_true (by omega)
  simp only [withS, lenP, h1, h2, Bool.and_self, cond_true, Option.map_some, Int.toNat_natCast]
theorem s118 {S : St} {i : Nat} {k : Value → St → Prop} (h : i < 100) (hk : k (strV (dec i)) S) : WC E0 118 [.int .i64 (i : Int)] S k := by
  refine WC_prim (E := E0) (f := 118) rfl (show withS smallP [.int .i64 (i : Int)] S = some (strV (dec i), S) from ?_) hk
  have h1 : decide ((0 : Int) ≤ (i : Int)) = true := by simp
  have h2 : decide ((i : Int) < 100) = true := decide_eq_true (by omega)
  simp only [withS, smallP, h1, h2, Bool.and_self, cond_true, Option.map_some, Int.toNat_natCast]
theorem s120 {S : St} {b o n cap u : Nat} {cs : List Value} {more : Option Nat} {k : Value → St → Prop} (hat : At S b (.cells cs more false none)) (hn : 0 < n) (ho : o + n ≤ cs.length) (hb : ∀ v ∈ (cs.drop o).take n, isB v = true) (hu : u < 10 ^ n) (hu64 : u < 18446744073709551616) (hn2 : n < 4611686018427387904)
    (hk : k (.tuple #[]) (S.upd b (.cells (cs.take o ++ (digVs u n ++ cs.drop (o + n))) more false none))) : WC E0 120 [.slice (some ⟨b, o, none⟩) n cap, .int .u64 (u : Int)] S k := by
  obtain ⟨m, rfl⟩ : ∃ m, n = m + 1 := ⟨n - 1, by omega⟩
  refine WC_prim (E := E0) (f := 120) rfl (show fmtP [.slice (some ⟨b, o, none⟩) (m + 1) cap, .int .u64 (u : Int)] S = some (.tuple #[], _) from ?_) hk
  have hld : S.loadN b o (m + 1) = some ((cs.drop o).take (m + 1)) := loadN_of hat rfl (by simp; omega)
  have hall : ((cs.drop o).take (m + 1)).all isB = true := List.all_eq_true.2 hb
  have h1 : decide ((0 : Int) ≤ (u : Int)) = true := by simp
  have h2 : Nat.blt u (10 ^ (m + 1)) = true := Nat.blt_eq.mpr hu
  have h3 : Nat.blt u 18446744073709551616 = true := Nat.blt_eq.mpr hu64
  have h4 : Nat.blt (m + 1) 4611686018427387904 = true := Nat.blt_eq.mpr hn2
  have hdl : (digVs u (m + 1)).length = m + 1 := by simp [digVs]
  have hone : (digVs u (m + 1)).all St.one = true := List.all_eq_true.2 fun v hv => by
    obtain ⟨t, _, rfl⟩ := List.mem_map.1 hv
    rfl
  have h5 : Nat.ble (o + (m + 1)) cs.length = true := Nat.ble_eq_true_of_le ho
  have hst : S.storeN b o (digVs u (m + 1)) = some (S.upd b (.cells (cs.take o ++ (digVs u (m + 1) ++ cs.drop (o + (m + 1)))) more false none)) := by
    simp only [St.storeN, hat.get, Bool.not_false, Bool.true_and, h5, hone, St.fzOk, Bool.and_self, cond_true, hdl]
  simp only [fmtP, hld, Option.bind_some, hall, Int.toNat_natCast, h1, h2, h3, h4, Bool.and_self, cond_true, hst, Option.map_some]
theorem pow_get {i : Nat} (h : i < 20) : (powT.map (Value.int .u64))[0 + i * 1]? = some (.int .u64 ((10 ^ i : Nat) : Int)) := by
  have hl : i < powT.length := by show i < Lib.pow10Tab.length; rw [Lib.pow10Tab_length]; exact h
  have := Lib.pow10Tab_at i h
  rw [Nat.zero_add, Nat.mul_one, List.getElem?_map, List.getElem?_eq_getElem hl, Option.map_some]
  rw [List.getD_eq_getElem?_getD, List.getElem?_eq_getElem (show i < Lib.pow10Tab.length from hl)] at this
  rw [← this]
  rfl
theorem s119 {S : St} {u : Nat} {k : Value → St → Prop} (g : Gl S) (h1 : 1 ≤ u) (h2 : u < 18446744073709551616) (hk : k (.int .i64 ((Lib.nDigits u : Nat) : Int)) S) : WC E0 119 [.int .u64 (u : Int)] S k := by
  refine w119 _ ?_
  unfold c119
  refine evC_of (s95 h2 ⟨_, rfl, ?_⟩)
  obtain ⟨e1, e2⟩ := Lib.numDigits_eq u h1 h2
  have hbl : Lib.bitLen u ≤ 64 := Lib.bitLen_le u 64 (Nat.le_refl _) h2
  refine evC_of (w147 _ ?_)
  unfold c147
  refine ⟨rfl, _, rfl, ?_⟩
  have hl : ∀ z : Int, z = 262144 → Int.fdiv (wrapI .i64 (((Lib.bitLen u : Nat) : Int) * 78913)) z = ((Lib.l10 (Lib.bitLen u) : Nat) : Int) := by
    rintro z rfl
    rw [wrap_i64 (by omega) (by omega)]
    unfold Lib.l10
    rw [Int.fdiv_eq_ediv_of_nonneg _ (by omega)]
    omega
  rw [hl _ (by decide)]
  generalize Lib.l10 (Lib.bitLen u) = q at e1 e2
  obtain ⟨more, ro, fz, hat⟩ := g.pow
  refine ⟨4, 0, rfl, by omega, by omega, ?_⟩
  refine evV_of (ty := tU) (((10 ^ q : Nat) : Int)) ((load_one hat (by kernel_rfl)).trans (pow_get (by omega))) ?_
  refine evC_of (w148 _ ?_)
  unfold c148
  rw [leI_eq]
  refine ifW_dec (fun h => ?_) fun h => ?_
  · refine ⟨_, rfl, ?_⟩
    rw [if_pos (by omega)] at e1
    rw [wrap_i64 (by omega) (by omega), show (q : Int) + 1 = ((Lib.nDigits u : Nat) : Int) by omega]
    exact hk
  · refine ⟨_, rfl, ?_⟩
    rw [if_neg (by omega)] at e1
    rw [wrap_i64 (by omega) (by omega), show (q : Int) + 0 = ((Lib.nDigits u : Nat) : Int) by omega]
    exact hk
theorem sliceD_arr {E : Env} {S : St} {t e sz n : Nat} {b o lo hi : Nat} (ht : E.und t = some (.array n e)) (he : E.size e = some sz) {vl vh : Option Value} (hl : optNat (some 0) vl = some lo) (hh : optNat (some n) vh = some hi) (h1 : lo ≤ hi) (h2 : hi ≤ n) (h3 : n < inex) (h4 : lo < n) :
    sliceD E S t (.pointer (some ⟨b, o, none⟩)) vl vh none = some (.slice (some ⟨b, o + lo * sz, none⟩) (hi - lo) (n - lo)) := by
  have hne : Nat.beq n lo = false := Bool.eq_false_iff.2 fun hh => by have := Nat.eq_of_beq_eq_true hh; omega
  have hm : optNat (some n) (none : Option Value) = some n := rfl
  simp only [sliceD, ht, he, Option.bind_some, hm, Option.isNone_none, cond_true, hh, hl, Nat.ble_eq_true_of_le (Nat.le_refl n), Nat.ble_eq_true_of_le h2, Nat.ble_eq_true_of_le h1, Nat.blt_eq.mpr h3, Bool.and_self, hne, cond_false]
abbrev z24 : List Value := List.replicate 24 (.int .u8 0)
theorem z24_isB (o n : Nat) : ∀ v ∈ (z24.drop o).take n, isB v = true := by
  intro v hv
  have := List.mem_of_mem_drop (List.mem_of_mem_take hv)
  rw [List.eq_of_mem_replicate this]
  rfl
theorem nD20 {u : Nat} (h1 : 1 ≤ u) (h2 : u < 18446744073709551616) : Lib.nDigits u ≤ 20 := by
  have := Lib.numDigits_eq u h1 h2; split at this <;> omega
theorem s99 {S : St} {u : Nat} {k : Value → St → Prop} (g : Gl S) (hu : u < 18446744073709551616) (hk : ∀ S', Ext S S' → k (strV (dec u)) S') : WC E0 99 [.int .u64 (u : Int), .int .i64 10] S k := by
  refine w99 _ _ ?_
  unfold c99
  refine ifW_pos rfl ?_
  refine ifW_dec (fun h => ?_) fun h => ?_
  · rw [wrap_i64 (by omega) (by omega)]
    exact evC_of (s118 (by omega) ⟨_, rfl, hk S (Mod.refl _ _)⟩)
  have hL := Hld.start noB S
  refine hL.new fun b1 S2 hL _ _ => ?_
  have h20 := nD20 (u := u) (by omega) hu
  refine evC_of (s119 (g.ext hL.mod) (by omega) hu ⟨_, rfl, ?_⟩)
  have hpos := Lib.nDigits_pos u
  have hdl := Lib.decDigits_length u
  have hsl : ∀ S', sliceD E0 S' 168 (.pointer (some ⟨b1, 0, none⟩)) none (some (.int .i64 ((Lib.nDigits u : Nat) : Int))) none = some (.slice (some ⟨b1, 0, none⟩) (Lib.nDigits u) 24) := fun S' => by
    have := sliceD_arr (S := S') (b := b1) (o := 0) (lo := 0) (hi := Lib.nDigits u) (vl := none) (vh := some (.int .i64 ((Lib.nDigits u : Nat) : Int))) und168 size5 rfl (natOf_int (k := .i64)) (by omega) (by omega) (by decide) (by omega)
    simpa using this
  have hat : At S2 b1 (.cells z24 none false none) := hL.at 0 rfl
  refine evV_of (ty := tS) ⟨some ⟨b1, 0, none⟩, Lib.nDigits u, 24⟩ (hsl S2) ?_
  refine evC_of (s120 (n := Lib.nDigits u) hat (by omega) (by simp; omega) (z24_isB _ _) (Lib.lt_pow_nDigits u) hu (by omega) ⟨PUnit.unit, rfl, ?_⟩)
  have hL2 := hL.set 0 rfl (upd_mod (S := S2) (b := b1)) (upd_at (o' := .cells (z24.take 0 ++ (digVs u (Lib.nDigits u) ++ z24.drop (0 + Lib.nDigits u))) none false none) hat)
  have hat2 : At _ b1 (.cells (z24.take 0 ++ (digVs u (Lib.nDigits u) ++ z24.drop (0 + Lib.nDigits u))) none false none) := hL2.at 0 rfl
  generalize S2.upd b1 _ = S3 at hL2 hat2 ⊢
  refine evV_of (ty := tS) ⟨some ⟨b1, 0, none⟩, Lib.nDigits u, 24⟩ (hsl S3) ?_
  refine ⟨dec u, S3, ?_, hk S3 hL2.mod⟩
  have hld : S3.loadN b1 0 (dec u).length = some ((dec u).map byV) := loadN_of hat2 (by
    rw [digVs_dec]
    simp only [List.take_zero, List.nil_append, List.drop_zero]
    rw [List.take_append_of_le_length (by simp)]
    rw [List.take_of_length_le (by simp)]) (by simp)
  have := conv_str (cap := 24) hld (dec_ne u)
  rw [show (dec u).length = Lib.nDigits u from hdl] at this
  exact this
theorem s64 {S : St} {u : Int} {k : Value → St → Prop} (g : Gl S) (h0 : 0 ≤ u) (hu : u < 18446744073709551616) (hk : ∀ S', Ext S S' → k (strV (dec u.toNat)) S') : WC E0 64 [.int .u64 u, .int .i64 10] S k := by
  refine w64 _ _ ?_
  unfold c64
  have := s99 (S := S) (u := u.toNat) (k := fun v S' => ∃ x, v = tT.enc x ∧ k (strV x) S') g (by omega) fun S' e => ⟨_, rfl, hk S' e⟩
  rw [show ((u.toNat : Nat) : Int) = u by omega] at this
  exact evC_of this
theorem s100 {S : St} {i : Int} {k : Value → St → Prop} (g : Gl S) (hi : i64 i) (hk : ∀ S', Ext S S' → k (strV (Lib.itoa i)) S') : WC E0 100 [.int .i64 i, .int .i64 10] S k := by
  refine w100 _ _ ?_
  unfold c100
  unfold i64 at hi
  refine ifW_pos rfl ?_
  intro k2 hk2
  have key : ¬ (0 ≤ i ∧ i < 100) → k2 false S := by
    intro hn
    refine hk2 _ _ ?_
    refine ifW_of (fun h => by cases h) fun _ => ?_
    have hL := Hld.start noB S
    refine hL.new fun b1 S2 hL _ _ => ?_
    have hat : At S2 b1 (.cells z24 none false none) := hL.at 0 rfl
    intro k1 hk1
    have hu1 : 1 ≤ i.natAbs := by omega
    have hu64 : i.natAbs < 18446744073709551616 := by omega
    have h20 := nD20 hu1 hu64
    have hpos := Lib.nDigits_pos i.natAbs
    have hdl := Lib.decDigits_length i.natAbs
    have key2 : k1 ((i.natAbs : Nat) : Int) S2 := by
      refine hk1 _ _ ?_
      generalize hu : i.natAbs = u at hu1 hu64 h20 hpos hdl
      refine evC_of (s119 (g.ext hL.mod) hu1 hu64 ⟨_, rfl, ?_⟩)
      rw [wrap_i64 (n := 1 + ((Lib.nDigits u : Nat) : Int)) (by omega) (by omega), show 1 + ((Lib.nDigits u : Nat) : Int) = ((Lib.nDigits u + 1 : Nat) : Int) by omega]
      have hsl : ∀ S', sliceD E0 S' 168 (.pointer (some ⟨b1, 0, none⟩)) (some (.int .i64 1)) (some (.int .i64 ((Lib.nDigits u + 1 : Nat) : Int))) none = some (.slice (some ⟨b1, 1, none⟩) (Lib.nDigits u) 23) := fun S' => by
        have := sliceD_arr (S := S') (b := b1) (o := 0) (lo := 1) (hi := Lib.nDigits u + 1) (vl := some (.int .i64 1)) (vh := some (.int .i64 ((Lib.nDigits u + 1 : Nat) : Int))) und168 size5 rfl (natOf_int (k := .i64)) (by omega) (by omega) (by decide) (by omega)
        simpa using this
      refine evV_of (ty := tS) ⟨some ⟨b1, 1, none⟩, Lib.nDigits u, 23⟩ (hsl S2) ?_
      refine evC_of (s120 (n := Lib.nDigits u) hat (by omega) (by simp; omega) (z24_isB _ _) (Lib.lt_pow_nDigits u) hu64 (by omega) ⟨PUnit.unit, rfl, ?_⟩)
      have hL2 := hL.set 0 rfl (upd_mod (S := S2) (b := b1)) (upd_at (o' := .cells (z24.take 1 ++ (digVs u (Lib.nDigits u) ++ z24.drop (1 + Lib.nDigits u))) none false none) hat)
      have hat2 : At _ b1 (.cells (z24.take 1 ++ (digVs u (Lib.nDigits u) ++ z24.drop (1 + Lib.nDigits u))) none false none) := hL2.at 0 rfl
      generalize S2.upd b1 _ = S3 at hL2 hat2 ⊢
      rw [digVs_dec] at hat2 hL2
      have e24 : z24.take 1 ++ ((dec u).map byV ++ z24.drop (1 + Lib.nDigits u)) = Value.int .u8 0 :: ((dec u).map byV ++ z24.drop (1 + Lib.nDigits u)) := rfl
      rw [e24] at hat2 hL2
      refine ifW_dec (fun hneg => ?_) fun hneg => ?_
      · refine ⟨b1, 0, rfl, by omega, by omega, ?_⟩
        refine ⟨S3.upd b1 (.cells (Value.int .u8 45 :: ((dec u).map byV ++ z24.drop (1 + Lib.nDigits u))) none false none), store_cells (n := 1) hat2 (by kernel_rfl) rfl (Nat.le_add_left 1 _) rfl, ?_⟩
        have hL3 := hL2.set 0 rfl (upd_mod (S := S3) (b := b1)) (upd_at (o' := .cells (Value.int .u8 45 :: ((dec u).map byV ++ z24.drop (1 + Lib.nDigits u))) none false none) hat2)
        have hat3 : At _ b1 (.cells (Value.int .u8 45 :: ((dec u).map byV ++ z24.drop (1 + Lib.nDigits u))) none false none) := hL3.at 0 rfl
        generalize S3.upd b1 _ = S4 at hL3 hat3 ⊢
        have hsl0 : sliceD E0 S4 168 (.pointer (some ⟨b1, 0, none⟩)) none (some (.int .i64 ((Lib.nDigits u + 1 : Nat) : Int))) none = some (.slice (some ⟨b1, 0, none⟩) (Lib.nDigits u + 1) 24) := by
          have := sliceD_arr (S := S4) (b := b1) (o := 0) (lo := 0) (hi := Lib.nDigits u + 1) (vl := none) (vh := some (.int .i64 ((Lib.nDigits u + 1 : Nat) : Int))) und168 size5 rfl (natOf_int (k := .i64)) (by omega) (by omega) (by decide) (by omega)
          simpa using this
        refine evV_of (ty := tS) ⟨some ⟨b1, 0, none⟩, Lib.nDigits u + 1, 24⟩ hsl0 ?_
        have hit : Lib.itoa i = 45 :: dec u := by unfold Lib.itoa; rw [if_pos hneg, hu]
        rw [hit] at hk
        refine ⟨45 :: dec u, S4, ?_, hk S4 hL3.mod⟩
        have hld : S4.loadN b1 0 (45 :: dec u).length = some ((45 :: dec u).map byV) := loadN_of hat3 (by
          simp only [List.drop_zero, List.length_cons, List.take_succ_cons, List.map_cons]
          rw [List.take_append_of_le_length (by simp), List.take_of_length_le (by simp)]
          rfl) (by simp)
        have := conv_str (cap := 24) hld (by simp)
        rw [show (45 :: dec u).length = Lib.nDigits u + 1 by rw [List.length_cons]; exact congrArg (· + 1) hdl] at this
        exact this
      · have hsl3 := hsl S3
        refine evV_of (ty := tS) ⟨some ⟨b1, 1, none⟩, Lib.nDigits u, 23⟩ hsl3 ?_
        have hit : Lib.itoa i = dec u := by unfold Lib.itoa; rw [if_neg hneg, show i.toNat = u by omega]
        rw [hit] at hk
        refine ⟨dec u, S3, ?_, hk S3 hL2.mod⟩
        have hld : S3.loadN b1 1 (dec u).length = some ((dec u).map byV) := loadN_of hat2 (by
          simp only [List.drop_succ_cons, List.drop_zero]
          rw [List.take_append_of_le_length (by simp), List.take_of_length_le (by simp)]) (by simp)
        have := conv_str (cap := 23) hld (dec_ne u)
        rw [show (dec u).length = Lib.nDigits u from hdl] at this
        exact this
    refine ifW_dec (fun hneg => ?_) fun hneg => ?_
    · have e : wrapI .u64 (0 - wrapI .u64 i) = ((i.natAbs : Nat) : Int) := by
        simp only [wrapI_eq, wrapD_eq, IntKind.wrap_u64]
        omega
      rw [e]
      exact key2
    · have e : wrapI .u64 i = ((i.natAbs : Nat) : Int) := by
        rw [wrap_u64 (by omega) (by omega)]
        omega
      rw [e]
      exact key2
  refine ifW_dec (fun h0 => ?_) fun h0 => key (by omega)
  by_cases h100 : i < 100
  · rw [ltI_eq, decide_eq_true h100]
    refine hk2 _ _ ?_
    refine ifW_of (fun _ => ?_) fun h => by cases h
    have hit : Lib.itoa i = dec i.toNat := by unfold Lib.itoa; rw [if_neg (by omega)]
    rw [hit] at hk
    have := s118 (S := S) (i := i.toNat) (k := fun v S' => ∃ x, v = tT.enc x ∧ k (strV x) S') (by omega) ⟨_, rfl, hk S (Mod.refl _ _)⟩
    rw [show ((i.toNat : Nat) : Int) = i by omega] at this
    exact evC_of this
  · rw [ltI_eq, decide_eq_false h100]
    exact key (by omega)
theorem s29 {S : St} {i : Int} {k : Value → St → Prop} (g : Gl S) (hi : i64 i) (hk : ∀ S', Ext S S' → k (strV (Lib.itoa i)) S') : WC E0 29 [.int .i64 i] S k := by
  refine w29 _ ?_
  unfold c29
  refine evC_of (w65 _ ?_)
  unfold c65
  exact evC_of (s100 g hi fun S' e => ⟨_, rfl, _, rfl, hk S' e⟩)
end
end Go.Proofs.YtfopfocedlbihaaDoor

/- Orders: a script's text. -/
namespace Go.Proofs.YtfopfocedlbihaaDoor
open Go Go.Proofs.YtfopfocedlbihaaDoor.D
set_option linter.unusedVariables false
set_option linter.unusedSimpArgs false
noncomputable section

/-! ### A builder -/
theorem inf5 : E0.inf 5 = some DEnv.i5 := by kernel_rfl
theorem siz5 : DEnv.i5.size = 1 := by kernel_rfl
theorem byt5 : DEnv.i5.bytes = 1 := by kernel_rfl
theorem zer5 : DEnv.i5.zero = some (.int .u8 0) := by kernel_rfl
theorem tag5 : tagA E0 5 1 = 5 + TB := by kernel_rfl
abbrev mB : Nat := 94 + 2 * TB
/-- A builder's box, and its bytes' block; l: what was written. -/
def Bl (S : St) (b : Nat) (g : Option Nat) (l : List UInt8) : Prop :=
  match g with
  | none => l = [] ∧ At S b (.cells [.pointer none, .slice none 0 0] (some mB) false none)
  | some c => c ≠ b ∧ l ≠ [] ∧ At S b (.cells [.pointer (some ⟨b, 0, none⟩), .slice (some ⟨c, 0, none⟩) l.length inex] (some mB) false none) ∧ At S c (.cells (l.map enc8) (some (5 + TB)) false none)
def blO (b : Nat) (g : Option Nat) (c : Nat) : Prop := c = b ∨ g = some c
theorem Bl.frm {b : Nat} {g : Option Nat} {l : List UInt8} : Frm (blO b g) (fun S => Bl S b g l) := by
  intro F S S' m hF h
  cases g with
  | none => exact ⟨h.1, m.at h.2 (hF b (.inl rfl))⟩
  | some c => exact ⟨h.1, h.2.1, m.at h.2.2.1 (hF b (.inl rfl)), m.at h.2.2.2 (hF c (.inr rfl))⟩
theorem Bl.lt {S : St} {b : Nat} {g : Option Nat} {l : List UInt8} (h : Bl S b g l) {c : Nat} (hc : blO b g c) : c < S.next := by
  cases g with
  | none =>
    rcases hc with rfl | hc
    · exact h.2.lt
    · cases hc
  | some d =>
    rcases hc with rfl | hc
    · exact h.2.2.1.lt
    · cases hc; exact h.2.2.2.lt
theorem bytesOfS_str (v : List UInt8) : bytesOfS (bar v) = v.map enc8 := rfl
theorem all_enc8 (v : List UInt8) : (v.map enc8).all St.one = true := by
  rw [List.all_eq_true]
  intro x hx
  obtain ⟨c, _, rfl⟩ := List.mem_map.1 hx
  rfl
theorem app_bytes0 {S : St} {v : List UInt8} (hv : v ≠ []) (hl : v.length ≤ 1000000000) : appendD E0 S 92 9 (.slice none 0 0) (strV v) = some (.slice (some ⟨S.next, 0, none⟩) v.length inex, (S.alloc (.cells (v.map enc8) (some (5 + TB)) false none)).2) := by
  have hv0 : ¬ v.length = 0 := fun hh => hv (List.length_eq_zero_iff.1 hh)
  have g0 : Nat.beq v.length 0 = false := Bool.eq_false_iff.2 fun hh => hv0 (Nat.eq_of_beq_eq_true hh)
  have g1 : Nat.beq (cellsOf (.int .u8 0)).length 1 = true := rfl
  have g2 : Nat.blt 0 1 = true := rfl
  have g3 : Nat.beq (v.map enc8).length (v.length * 1) = true := by rw [List.length_map, Nat.mul_one, Nat.beq_refl]
  have g4 : Nat.ble ((0 + v.length) * 1) 17592186044416 = true := Nat.ble_eq_true_of_le (by omega)
  have g5 : Nat.ble (0 + v.length) 17592186044416 = true := Nat.ble_eq_true_of_le (by omega)
  have g6 : Nat.blt 1 TB = true := by decide
  have g7 : Nat.blt 5 TB = true := by decide
  have hn : lenOfD (strV v) = some v.length := rfl
  have hx : firstD S 1 v.length (strV v) = some (v.map enc8) := by
    show some ((v.map enc8).take v.length) = _
    rw [List.take_of_length_le (by simp)]
  have ha : apK .string = true := rfl
  simp only [appendD, und92, und9, inf5, siz5, byt5, zer5, tag5, ha, cond_true, Option.bind_some, hn, hx, g0, g1, g2, g3, g4, g5, g6, g7, Bool.and_true, cond_false]
theorem app_bytes1 {S : St} {v l : List UInt8} {c : Nat} (hat : At S c (.cells (l.map enc8) (some (5 + TB)) false none)) (hv : v ≠ []) (hl : l.length + v.length ≤ 1000000000) :
    appendD E0 S 92 9 (.slice (some ⟨c, 0, none⟩) l.length inex) (strV v) = some (.slice (some ⟨S.next, 0, none⟩) (l.length + v.length) inex, ((S.upd c .dead).alloc (.cells ((l ++ v).map enc8) (some (5 + TB)) false none)).2) := by
  have hv0 : ¬ v.length = 0 := fun hh => hv (List.length_eq_zero_iff.1 hh)
  have g0 : Nat.beq v.length 0 = false := Bool.eq_false_iff.2 fun hh => hv0 (Nat.eq_of_beq_eq_true hh)
  have g1 : Nat.beq (cellsOf (.int .u8 0)).length 1 = true := rfl
  have g2 : Nat.blt 0 1 = true := rfl
  have g3 : Nat.beq (v.map enc8).length (v.length * 1) = true := by rw [List.length_map, Nat.mul_one, Nat.beq_refl]
  have g4 : Nat.ble ((l.length + v.length) * 1) 17592186044416 = true := Nat.ble_eq_true_of_le (by omega)
  have g5 : Nat.ble (l.length + v.length) 17592186044416 = true := Nat.ble_eq_true_of_le (by omega)
  have g6 : Nat.blt 1 TB = true := by decide
  have g7 : Nat.blt 5 TB = true := by decide
  have hn : lenOfD (strV v) = some v.length := rfl
  have hx : firstD S 1 v.length (strV v) = some (v.map enc8) := by
    show some ((v.map enc8).take v.length) = _
    rw [List.take_of_length_le (by simp)]
  have ha : apK .string = true := rfl
  have g8 : (Nat.beq (5 + TB) 1 || Nat.beq (5 + TB) (5 + TB) && Nat.beq 1 1) = true := by decide
  have g9 : Nat.ble (0 + (l.length + v.length) * 1) (l.map enc8).length = false := Bool.eq_false_iff.2 fun hh => by have := Nat.le_of_ble_eq_true hh; simp at this; omega
  have g10 : Nat.ble (0 + l.length * 1) (l.map enc8).length = true := Nat.ble_eq_true_of_le (by simp)
  have g11 : ((l.map enc8).drop 0).take (l.length * 1) = l.map enc8 := by rw [List.drop_zero, List.take_of_length_le (by simp)]
  have g12 : Nat.beq inex inex = true := Nat.beq_refl _
  have g13 : Nat.beq 0 0 = true := rfl
  have g14 : l.map enc8 ++ v.map enc8 = (l ++ v).map enc8 := by rw [List.map_append]
  simp only [appendD, und92, und9, inf5, siz5, byt5, zer5, ha, cond_true, Option.bind_some, hn, hx, g0, g1, g2, g3, g4, g5, g6, g7, Bool.and_true, cond_false, g12, hat.get, g8, g9, g10, g11, g13, Bool.not_false, all_enc8, St.fzOk, Option.map_none, g14]
theorem s39 {S : St} {b : Nat} {g : Option Nat} {l v : List UInt8} {k : Value → St → Prop} (h : Bl S b g l) (hv : v ≠ []) (hl : l.length + v.length ≤ 1000000000)
    (hk : ∀ g' S', Bl S' b g' (l ++ v) → Mod (blO b g) S S' → (∀ c, blO b g' c → blO b g c ∨ S.next ≤ c) → k (.tuple #[.int .i64 (v.length : Int), .nilIface]) S') : WC E0 39 [.pointer (some ⟨b, 0, none⟩), strV v] S k := by
  refine w39 _ _ ?_
  unfold c39
  cases g with
  | none =>
    obtain ⟨rfl, hb⟩ := h
    have hc : ccP 94 [.pointer (some ⟨b, 0, none⟩)] S = some (.tuple #[], S.upd b (.cells [.pointer (some ⟨b, 0, none⟩), .slice none 0 0] (some mB) false none)) := by
      have e : Nat.beq mB (94 + 2 * TB) = true := Nat.beq_refl _
      simp only [ccP, hb.get, e, cond_true]
    refine evC_of (WC_prim (E := E0) (f := 75) rfl hc ⟨PUnit.unit, rfl, ?_⟩)
    have hb1 := upd_at (o' := .cells [.pointer (some ⟨b, 0, none⟩), .slice none 0 0] (some mB) false none) hb
    have m1 : Mod (fun c => c = b) S (S.upd b (.cells [.pointer (some ⟨b, 0, none⟩), .slice none 0 0] (some mB) false none)) := upd_mod
    have n1 : (S.upd b (.cells [.pointer (some ⟨b, 0, none⟩), .slice none 0 0] (some mB) false none)).next = S.next := rfl
    generalize S.upd b (.cells [.pointer (some ⟨b, 0, none⟩), .slice none 0 0] (some mB) false none) = S1 at hb1 m1 n1 ⊢
    refine ptrW_of (ptrW_of ?_)
    refine evV_of (ty := tS) ⟨none, 0, 0⟩ (load_one hb1 (by kernel_rfl)) ?_
    refine ⟨⟨some ⟨S1.next, 0, none⟩, v.length, inex⟩, _, app_bytes0 hv (by simpa using hl), ?_⟩
    refine ptrW_of (ptrW_of ?_)
    have e2 : Ext S1 (S1.alloc (.cells (v.map enc8) (some (5 + TB)) false none)).2 := alloc_ext
    have a2 : At (S1.alloc (.cells (v.map enc8) (some (5 + TB)) false none)).2 S1.next _ := alloc_at
    have n2 : (S1.alloc (.cells (v.map enc8) (some (5 + TB)) false none)).2.next = S1.next + 1 := rfl
    generalize (S1.alloc (.cells (v.map enc8) (some (5 + TB)) false none)).2 = S2 at e2 a2 n2 ⊢
    have hb2 := e2.at hb1
    have hne : S1.next ≠ b := by have := hb1.lt; omega
    refine ⟨_, store_cells (n := 1) hb2 (by kernel_rfl) rfl (Nat.le_refl _) rfl, ?_⟩
    refine hk (some S1.next) _ ⟨hne, by simpa using hv, upd_at hb2, ?_⟩ ?_ ?_
    · rw [List.nil_append]
      exact Mod.at upd_mod a2 hne
    · exact ((m1.tr e2).trans upd_mod fun c hc _ => hc).mono fun c hc _ => .inl hc
    · intro c hc
      rcases hc with rfl | hc
      · exact .inl (.inl rfl)
      · cases hc; exact .inr (by omega)
  | some d =>
    obtain ⟨hdb, hl0, hb, hd⟩ := h
    have hc : ccP 94 [.pointer (some ⟨b, 0, none⟩)] S = some (.tuple #[], S) := by
      have e : Nat.beq mB (94 + 2 * TB) = true := Nat.beq_refl _
      simp only [ccP, hb.get, e, cond_true, Nat.beq_refl]
    refine evC_of (WC_prim (E := E0) (f := 75) rfl hc ⟨PUnit.unit, rfl, ?_⟩)
    refine ptrW_of (ptrW_of ?_)
    refine evV_of (ty := tS) ⟨some ⟨d, 0, none⟩, l.length, inex⟩ (load_one hb (by kernel_rfl)) ?_
    refine ⟨⟨some ⟨S.next, 0, none⟩, l.length + v.length, inex⟩, _, app_bytes1 hd hv hl, ?_⟩
    refine ptrW_of (ptrW_of ?_)
    have m1 : Mod (fun c => c = d) S ((S.upd d .dead).alloc (.cells ((l ++ v).map enc8) (some (5 + TB)) false none)).2 := (upd_mod (o := .dead)).tr alloc_ext
    have a2 : At ((S.upd d .dead).alloc (.cells ((l ++ v).map enc8) (some (5 + TB)) false none)).2 S.next _ := alloc_at
    generalize ((S.upd d .dead).alloc (.cells ((l ++ v).map enc8) (some (5 + TB)) false none)).2 = S2 at m1 a2 ⊢
    have hb2 := m1.at hb (fun h => hdb h.symm)
    have hne : S.next ≠ b := by have := hb.lt; omega
    refine ⟨_, store_cells (n := 1) hb2 (by kernel_rfl) rfl (Nat.le_refl _) rfl, ?_⟩
    refine hk (some S.next) _ ⟨hne, by simp [hv], ?_, ?_⟩ ?_ ?_
    · rw [List.length_append]; exact upd_at hb2
    · exact Mod.at upd_mod a2 hne
    · exact ((m1.mono (F' := blO b (some d)) fun c hc _ => .inr (by rw [hc])).trans upd_mod fun c hc _ => .inl hc)
    · intro c hc
      rcases hc with rfl | hc
      · exact .inl (.inl rfl)
      · cases hc; exact .inr (Nat.le_refl _)
theorem map_dec8 (l : List UInt8) : (l.map enc8).map dec8 = l := by
  rw [List.map_map]
  conv => rhs; rw [← List.map_id l]
  exact List.map_congr_left fun c _ => dec8_enc c
theorem s40 {S : St} {b : Nat} {g : Option Nat} {l : List UInt8} {k : Value → St → Prop} (h : Bl S b g l) (hl : l.length ≤ 1000000000) (hk : ∀ S', Mod (blO b g) S S' → k (strV l) S') : WC E0 40 [.pointer (some ⟨b, 0, none⟩)] S k := by
  have e : Nat.beq mB (94 + 2 * TB) = true := Nat.beq_refl _
  cases g with
  | none =>
    obtain ⟨rfl, hb⟩ := h
    exact WC_prim (E := E0) (f := 40) rfl (show strP 94 5 [.pointer (some ⟨b, 0, none⟩)] S = some (.string ⟨#[]⟩, S) by simp only [strP, hb.get, e, cond_true]) (hk S (Mod.refl _ _))
  | some d =>
    obtain ⟨hdb, hl0, hb, hd⟩ := h
    obtain ⟨n, hn⟩ : ∃ n, l.length = n + 1 := ⟨l.length - 1, by have : l.length ≠ 0 := fun hh => hl0 (List.length_eq_zero_iff.1 hh); omega⟩
    rw [hn] at hb
    have ht : (l.map enc8).take (n + 1) = l.map enc8 := List.take_of_length_le (by simp [hn])
    have hi : (l.map enc8).all isB = true := by
      rw [List.all_eq_true]
      intro x hx
      obtain ⟨c, _, rfl⟩ := List.mem_map.1 hx
      have := c.toNat_lt
      simp only [isB, enc8, Bool.and_eq_true, decide_eq_true_eq]
      omega
    have g1 : Nat.blt 5 TB = true := by decide
    have g2 : Nat.ble (n + 1) (l.map enc8).length = true := Nat.ble_eq_true_of_le (by simp [hn])
    have g3 : Nat.ble (n + 1) 17592186044416 = true := Nat.ble_eq_true_of_le (by omega)
    refine WC_prim (E := E0) (f := 40) rfl (show strP 94 5 [.pointer (some ⟨b, 0, none⟩)] S = some (strV l, S.upd d .dead) from ?_) (hk _ (upd_mod.mono fun c hc _ => .inr (by rw [hc])))
    simp only [strP, hb.get, e, cond_true, hd.get, Nat.beq_refl, g1, g2, g3, Bool.and_self, ht, hi, map_dec8]
end
end Go.Proofs.YtfopfocedlbihaaDoor
