/- Parts of the proof, put together. -/
import Derived.Test.YtabbbfdlgmoniaaDoorCA
import Derived.Test.YtabbbfdlgmoniaaDoorOE
/- The conditions of functions (printed by GenDen.lean). -/
namespace Go.Proofs.YtabbbfdlgmoniaaDoor
open Go Go.Proofs.YtabbbfdlgmoniaaDoor.D
set_option linter.unusedVariables false
noncomputable section

/-! 10 wagonway/wagonwaylaw23.OrderAny -/
noncomputable def h10 : Hn := (.n .no (.n .no (.n .no (.n .no (.n (.n .no (.n (.n .no .no (some ⟨[0, 3, 4, 23], [(24, .sc (.int .i64))], false⟩)) .no none) none) .no none) none) none) none) none)
def c10 (b_0 : Sl) (S : St) (k : Value → St → Prop) : Prop :=
  evC E0 tB 18 [] S fun (t1 : Bool) (S1 : St) =>
    ifW (ltI 2000 (↑b_0.len : Int)) (k (.bool t1) S1)
      (ifW (!t1) (k (.bool t1) S1)
        (evC E0 tS 38 [.slice b_0.a b_0.len b_0.cap] S1 fun (s1 : Sl) (S2 : St) =>
          loopW
            (fun (k1 : Int → St → Prop) (n1 : Int) (S3 : St) =>
              ifW (ltI n1 (↑s1.len : Int))
                (idxW s1.a s1.len n1 fun (b1 b2 : Nat) =>
                  evV (TT.one (Ty.agg G23)) (loadV E0 S3 24 (.pointer (some ⟨b1, b2 + Int.toNat n1 * 6, none⟩))) fun (x1 : Int × Int × Int × Int × Int × Int) =>
                    evC E0 tI 15 [sv G23 x1] S3 fun (n2 : Int) (S4 : St) =>
                      ifW (!eqI n2 0) (k (.bool false) S4)
                        (idxW s1.a s1.len n1 fun (b3 b4 : Nat) =>
                          ptrW (some ⟨b3, b4 + Int.toNat n1 * 6, none⟩) fun (b5 b6 : Nat) =>
                            evV tI (loadV E0 S4 3 (.pointer (some ⟨b5, b6 + 0, none⟩))) fun (n3 : Int) =>
                              idxW b_0.a b_0.len (wrapI .i64 (4 * n1)) fun (b7 b8 : Nat) =>
                                evV tU8 (loadV E0 S4 5 (.pointer (some ⟨b7, b8 + Int.toNat (wrapI .i64 (4 * n1)) * 1, none⟩))) fun (n4 : Int) =>
                                  needW true (ifW (!eqI n3 (wrapI .i64 (Int.tmod (wrapI .i64 n4) 9 + 1))) (k (.bool false) S4) (k1 (wrapI .i64 (n1 + 1)) S4))))
                (evC E0 (TT.tup [Ty.sc Sc.str, Ty.sc (Sc.int .i64)]) 19 [.slice s1.a s1.len s1.cap] S3 fun (x2 : List UInt8 × Int) (S5 : St) =>
                  evC E0 (TT.tup [Ty.sc Sc.sl, Ty.sc (Sc.int .i64), Ty.sc (Sc.int .i64)]) 21 [.string { data := List.toArray x2.1 }] S5 fun (x3 : Sl × Int × Int) (S6 : St) =>
                    ifW t1
                      (ifW (eqI x2.2 0)
                        (ifW (eqI x3.2.2 0)
                          (evC E0 tB 23 [.slice s1.a s1.len s1.cap, .slice x3.1.a x3.1.len x3.1.cap] S6 fun (t2 : Bool) (S7 : St) =>
                            ifW t2 (needW true (k (.bool (eqI (↑s1.len : Int) (wrapI .i64 (Int.tdiv (↑b_0.len : Int) 4)))) S7)) (k (.bool false) S7))
                          (k (.bool false) S6))
                        (k (.bool false) S6))
                      (k (.bool false) S6)))
            0 S2))
theorem w10 (b_0 : Sl) {S : St} {k : Value → St → Prop} (h : c10 b_0 S k) : WC E0 10 [.slice b_0.a b_0.len b_0.cap] S k :=
  WC_den h10 rfl (by kernel_rfl) (by kernel_rfl : Tryd.f10.body = some (bodyOf Tryd.f10)) (by rw [show (denF E0 h10 Tryd.f10 (bodyOf Tryd.f10) [.slice b_0.a b_0.len b_0.cap] S k) = c10 b_0 S k by kernel_rfl]; exact h)

end
end Go.Proofs.YtabbbfdlgmoniaaDoor

/- Orders: a script of bytes. -/
namespace Go.Proofs.YtabbbfdlgmoniaaDoor
open Go Go.Proofs.YtabbbfdlgmoniaaDoor.D
set_option linter.unusedVariables false
set_option linter.unusedSimpArgs false
noncomputable section

theorem agg5 : aggD DEnv.i5.und = false := by kernel_rfl
abbrev u8V (n : Int) : Value := .int .u8 n
abbrev Bs (S : St) (s : Sl) (l : List Int) : Prop := SlOf (fun n => [u8V n]) 1 S s l
def bothP (x2 x3 : Int) : Int := orI .i64 (wrapI .i64 (wrapI .i64 x2 * ((2 ^ min (Int.toNat 8) 64 : Nat) : Int))) (wrapI .i64 x3)
def updO (x1 x2 x3 : Int) (c : Int) (y : Ord) : Ord :=
  if c = 114 then (y.1, Int.tmod (wrapI .i64 x1) 64, y.2.2)
  else if c = 100 then (y.1, y.2.1, y.2.2.1, y.2.2.2.1, y.2.2.2.2.1, wrapI .u64 (bothP x2 x3))
  else if c = 112 then (y.1, y.2.1, wrapI .i64 (wrapI .i64 x1 + 1), y.2.2.2)
  else if c = 97 then (y.1, y.2.1, y.2.2.1, wrapI .i64 x2, y.2.2.2.2)
  else if c = 119 then (y.1, y.2.1, y.2.2.1, y.2.2.2.1, max 1 (wrapI .i64 x3), y.2.2.2.2.2)
  else if c = 99 then (y.1, y.2.1, Int.tmod (bothP x2 x3) 1024, y.2.2.2)
  else if c = 101 then (y.1, y.2.1, Int.tmod (wrapI .i64 x2) 16, y.2.2.2)
  else (y.1, y.2.1, wrapI .i64 (Int.tmod (wrapI .i64 x2) 16 - 1), y.2.2.2)
def kindP (x0 : Int) : Int := wrapI .i64 (Int.tmod (wrapI .i64 x0) 9 + 1)
def foldO (x0 x1 x2 x3 : Int) (i : Nat) : Ord := ((partsB (kindP x0)).take i).foldl (fun y c => updO x1 x2 x3 (c.toNat : Int) y) (kindP x0, 0, 0, 0, 0, 0)
def ofP (x0 x1 x2 x3 : Int) : Ord := foldO x0 x1 x2 x3 (partsB (kindP x0)).length
theorem foldO_succ {x0 x1 x2 x3 : Int} {i : Nat} (hi : i < (partsB (kindP x0)).length) : foldO x0 x1 x2 x3 (i + 1) = updO x1 x2 x3 ((partsB (kindP x0))[i].toNat : Int) (foldO x0 x1 x2 x3 i) := by
  unfold foldO
  rw [List.take_succ_eq_append_getElem hi, List.foldl_append]
  rfl
theorem foldO_zero {x0 x1 x2 x3 : Int} : foldO x0 x1 x2 x3 0 = (kindP x0, 0, 0, 0, 0, 0) := by unfold foldO; rw [List.take_zero]; rfl
abbrev boxesO (b14 b13 c1 b10 b5 b2 b1 : Nat) (st : DObj) (b : Sl) (kd both : Int) (y : Ord) : List (Nat × DObj) :=
  [(b14, st), (b13, .deferred), (c1, .cells [.int .i64 kd] none false none), (b10, .cells [.int .i64 both] none false none), (b5, .cells (cellsO y) none false none),
   (b2, .cells [.int .i64 0, .int .i64 0, .int .i64 0, .int .i64 0, .int .i64 0, .int .u64 0] none false none), (b1, .cells [.slice b.a b.len b.cap] none false none)]

def refA (K x1 : Int) : Ord := if K = 1 ∨ 6 ≤ K then (K, Int.tmod (wrapI .i64 x1) 64, 0, 0, 0, 0) else (K, 0, wrapI .i64 (wrapI .i64 x1 + 1), 0, 0, 0)
def bothR (x2 x3 : Int) : Int := wrapI .i64 (wrapI .i64 (wrapI .i64 x2 * 256) + wrapI .i64 x3)
def refB (x2 x3 : Int) (y : Ord) : Ord :=
  if y.1 = 1 then (y.1, y.2.1, y.2.2.1, y.2.2.2.1, y.2.2.2.2.1, wrapI .u64 (bothR x2 x3))
  else if y.1 = 5 then (y.1, y.2.1, y.2.2.1, wrapI .i64 x2, (if wrapI .i64 x3 = 0 then 1 else wrapI .i64 x3), y.2.2.2.2.2)
  else if y.1 = 7 then (y.1, y.2.1, Int.tmod (bothR x2 x3) 1024, y.2.2.2)
  else if y.1 = 8 then (y.1, y.2.1, Int.tmod (wrapI .i64 x2) 16, y.2.2.2)
  else if y.1 = 9 then (y.1, y.2.1, wrapI .i64 (Int.tmod (wrapI .i64 x2) 16 - 1), y.2.2.2)
  else y
theorem or_bytes {a b : Nat} (ha : a < 256) (hb : b < 256) : orI .i64 ((a * 256 : Nat) : Int) (b : Int) = ((a * 256 + b : Nat) : Int) := by
  have h1 : (BitVec.ofInt 64 ((a * 256 : Nat) : Int) ||| BitVec.ofInt 64 (b : Int)).toNat = a * 256 + b := by
    rw [BitVec.toNat_or, BitVec.ofInt_natCast, BitVec.ofInt_natCast, BitVec.toNat_ofNat, BitVec.toNat_ofNat, Nat.mod_eq_of_lt (by omega), Nat.mod_eq_of_lt (by omega)]
    have := Nat.two_pow_add_eq_or_of_lt (i := 8) hb a
    rw [show 2 ^ 8 * a = a * 256 from by omega] at this
    exact this.symm
  show IntKind.i64.wrap ((BitVec.ofInt 64 ((a * 256 : Nat) : Int) ||| BitVec.ofInt 64 (b : Int)).toNat : Int) = _
  rw [h1]
  refine (if_neg ?_).trans ?_
  · have hm : (((a * 256 + b : Nat) : Int) % 2 ^ 64) < 2 ^ 63 := by omega
    intro h
    have h2 := of_decide_eq_true ((Bool.and_eq_true _ _).mp h).2
    exact absurd (show (2 : Int) ^ 63 ≤ ((a * 256 + b : Nat) : Int) % 2 ^ 64 from h2) (by omega)
  · show (((a * 256 + b : Nat) : Int) % 2 ^ 64) = _
    omega
theorem both_eq {x2 x3 : Int} (h2 : 0 ≤ x2 ∧ x2 < 256) (h3 : 0 ≤ x3 ∧ x3 < 256) : bothP x2 x3 = bothR x2 x3 := by
  obtain ⟨a, rfl⟩ := Int.eq_ofNat_of_zero_le h2.1
  obtain ⟨b, rfl⟩ := Int.eq_ofNat_of_zero_le h3.1
  unfold bothP bothR
  have e : ((2 ^ min (Int.toNat 8) 64 : Nat) : Int) = 256 := by decide
  rw [e, wrap_i64 (n := (a : Int)) (by omega) (by omega), wrap_i64 (n := (b : Int)) (by omega) (by omega), wrap_i64 (n := (a : Int) * 256) (by omega) (by omega), wrap_i64 (by omega) (by omega)]
  have := or_bytes (a := a) (b := b) (by omega) (by omega)
  rw [show ((a * 256 : Nat) : Int) = (a : Int) * 256 from by omega] at this
  rw [this]; omega
theorem kind_range {x0 : Int} (h : 0 ≤ x0 ∧ x0 < 256) : 1 ≤ kindP x0 ∧ kindP x0 ≤ 9 := by
  unfold kindP
  rw [wrap_i64 (n := x0) (by omega) (by omega), Int.tmod_eq_emod_of_nonneg h.1, wrap_i64 (by omega) (by omega)]
  omega
theorem ref_eq {x0 x1 x2 x3 : Int} (h0 : 0 ≤ x0 ∧ x0 < 256) (h1 : 0 ≤ x1 ∧ x1 < 256) (h2 : 0 ≤ x2 ∧ x2 < 256) (h3 : 0 ≤ x3 ∧ x3 < 256) : ofP x0 x1 x2 x3 = refB x2 x3 (refA (kindP x0) x1) := by
  have hk := kind_range h0
  unfold ofP foldO
  rw [List.take_length]
  generalize kindP x0 = K at hk
  have hw : max 1 (wrapI .i64 x3) = if wrapI .i64 x3 = 0 then 1 else wrapI .i64 x3 := by
    rw [wrap_i64 (by omega) (by omega)]; split <;> omega
  have hcase : K = 1 ∨ K = 2 ∨ K = 3 ∨ K = 4 ∨ K = 5 ∨ K = 6 ∨ K = 7 ∨ K = 8 ∨ K = 9 := by omega
  rcases hcase with rfl | rfl | rfl | rfl | rfl | rfl | rfl | rfl | rfl <;> simp [partsB, updO, refA, refB, both_eq h2 h3, hw]
def fourP (c : List Int) : Ord := ofP (c.getD 0 0) (c.getD 1 0) (c.getD 2 0) (c.getD 3 0)
def ordP (l : List Int) (n : Nat) : List Ord := (List.range n).map fun i => fourP ((l.drop (4 * i)).take 4)
theorem ordP_succ {l : List Int} {n : Nat} : ordP l (n + 1) = ordP l n ++ [fourP ((l.drop (4 * n)).take 4)] := by simp [ordP, List.range_succ]
theorem ordP_len {l : List Int} {n : Nat} : (ordP l n).length = n := by simp [ordP]
theorem four_at {l : List Int} {n : Nat} (hn : 4 * n + 3 < l.length) : fourP ((l.drop (4 * n)).take 4) = ofP l[4 * n] l[4 * n + 1] l[4 * n + 2] l[4 * n + 3] := by
  have h : ∀ i, i < 4 → ((l.drop (4 * n)).take 4).getD i 0 = l.getD (4 * n + i) 0 := by
    intro i hi
    rw [List.getD_eq_getElem?_getD, List.getD_eq_getElem?_getD, List.getElem?_take_of_lt hi, List.getElem?_drop]
  have g : ∀ i (hi : i < l.length), l.getD i 0 = l[i] := fun i hi => by simp [hi]
  unfold fourP
  rw [h 0 (by omega), h 1 (by omega), h 2 (by omega), h 3 (by omega), g _ (by omega), g _ (by omega), g _ (by omega), g _ (by omega)]
  rfl

theorem s82 {b : Sl} {x0 x1 x2 x3 : Int} {S : St} {k : Value → St → Prop} (hb : Bs S b [x0, x1, x2, x3]) (hk : ∀ S', Ext S S' → k (sv G23 (ofP x0 x1 x2 x3)) S') : WC E0 82 [.slice b.a b.len b.cap] S k := by
  refine w82 b ?_
  unfold c82
  have hL := Hld.start noB S
  refine hL.new fun b1 S1 hL _ _ => ?_
  refine hL.new fun b2 S1 hL _ _ => ?_
  (first | refine hL.ld 0 rfl (by kernel_rfl) _ rfl ?_ | refine hL.ld 1 rfl (by kernel_rfl) _ rfl ?_ | refine hL.ld 2 rfl (by kernel_rfl) _ rfl ?_ | refine hL.ld 3 rfl (by kernel_rfl) _ rfl ?_ | refine hL.ld 4 rfl (by kernel_rfl) _ rfl ?_ | refine hL.ld 5 rfl (by kernel_rfl) _ rfl ?_ | refine hL.ld 6 rfl (by kernel_rfl) _ rfl ?_ | refine hL.ld 7 rfl (by kernel_rfl) _ rfl ?_ | refine hL.lda 0 rfl (by kernel_rfl) _ rfl ?_ | refine hL.lda 1 rfl (by kernel_rfl) _ rfl ?_ | refine hL.lda 2 rfl (by kernel_rfl) _ rfl ?_ | refine hL.lda 3 rfl (by kernel_rfl) _ rfl ?_ | refine hL.lda 4 rfl (by kernel_rfl) _ rfl ?_ | refine hL.lda 5 rfl (by kernel_rfl) _ rfl ?_ | refine hL.lda 6 rfl (by kernel_rfl) _ rfl ?_ | refine hL.lda 7 rfl (by kernel_rfl) _ rfl ?_)
  refine (hL.mod.slOf hb fun _ _ _ _ h => h).get1n (n := 0) (g := u8V) inf5 agg5 (by simp) fun b3 o3 hld hlt => evV_of _ (hld _ rfl) ⟨rfl, ?_⟩
  refine hL.new fun b5 S1 hL _ _ => ?_
  (first | refine hL.st 0 _ rfl (by kernel_rfl) rfl (Nat.le_of_ble_eq_true rfl) rfl rfl fun S2 hL hn2 => ?_ | refine hL.st 1 _ rfl (by kernel_rfl) rfl (Nat.le_of_ble_eq_true rfl) rfl rfl fun S2 hL hn2 => ?_ | refine hL.st 2 _ rfl (by kernel_rfl) rfl (Nat.le_of_ble_eq_true rfl) rfl rfl fun S2 hL hn2 => ?_ | refine hL.st 3 _ rfl (by kernel_rfl) rfl (Nat.le_of_ble_eq_true rfl) rfl rfl fun S2 hL hn2 => ?_ | refine hL.st 4 _ rfl (by kernel_rfl) rfl (Nat.le_of_ble_eq_true rfl) rfl rfl fun S2 hL hn2 => ?_ | refine hL.st 5 _ rfl (by kernel_rfl) rfl (Nat.le_of_ble_eq_true rfl) rfl rfl fun S2 hL hn2 => ?_ | refine hL.st 6 _ rfl (by kernel_rfl) rfl (Nat.le_of_ble_eq_true rfl) rfl rfl fun S2 hL hn2 => ?_ | refine hL.st 7 _ rfl (by kernel_rfl) rfl (Nat.le_of_ble_eq_true rfl) rfl rfl fun S2 hL hn2 => ?_)
  refine hL.new fun b10 S3 hL _ _ => ?_
  (first | refine hL.ld 0 rfl (by kernel_rfl) _ rfl ?_ | refine hL.ld 1 rfl (by kernel_rfl) _ rfl ?_ | refine hL.ld 2 rfl (by kernel_rfl) _ rfl ?_ | refine hL.ld 3 rfl (by kernel_rfl) _ rfl ?_ | refine hL.ld 4 rfl (by kernel_rfl) _ rfl ?_ | refine hL.ld 5 rfl (by kernel_rfl) _ rfl ?_ | refine hL.ld 6 rfl (by kernel_rfl) _ rfl ?_ | refine hL.ld 7 rfl (by kernel_rfl) _ rfl ?_ | refine hL.lda 0 rfl (by kernel_rfl) _ rfl ?_ | refine hL.lda 1 rfl (by kernel_rfl) _ rfl ?_ | refine hL.lda 2 rfl (by kernel_rfl) _ rfl ?_ | refine hL.lda 3 rfl (by kernel_rfl) _ rfl ?_ | refine hL.lda 4 rfl (by kernel_rfl) _ rfl ?_ | refine hL.lda 5 rfl (by kernel_rfl) _ rfl ?_ | refine hL.lda 6 rfl (by kernel_rfl) _ rfl ?_ | refine hL.lda 7 rfl (by kernel_rfl) _ rfl ?_)
  refine (hL.mod.slOf hb fun _ _ _ _ h => h).get1n (n := 2) (g := u8V) inf5 agg5 (by simp) fun b3 o3 hld hlt => evV_of _ (hld _ rfl) ⟨rfl, ?_⟩
  (first | refine hL.ld 0 rfl (by kernel_rfl) _ rfl ?_ | refine hL.ld 1 rfl (by kernel_rfl) _ rfl ?_ | refine hL.ld 2 rfl (by kernel_rfl) _ rfl ?_ | refine hL.ld 3 rfl (by kernel_rfl) _ rfl ?_ | refine hL.ld 4 rfl (by kernel_rfl) _ rfl ?_ | refine hL.ld 5 rfl (by kernel_rfl) _ rfl ?_ | refine hL.ld 6 rfl (by kernel_rfl) _ rfl ?_ | refine hL.ld 7 rfl (by kernel_rfl) _ rfl ?_ | refine hL.lda 0 rfl (by kernel_rfl) _ rfl ?_ | refine hL.lda 1 rfl (by kernel_rfl) _ rfl ?_ | refine hL.lda 2 rfl (by kernel_rfl) _ rfl ?_ | refine hL.lda 3 rfl (by kernel_rfl) _ rfl ?_ | refine hL.lda 4 rfl (by kernel_rfl) _ rfl ?_ | refine hL.lda 5 rfl (by kernel_rfl) _ rfl ?_ | refine hL.lda 6 rfl (by kernel_rfl) _ rfl ?_ | refine hL.lda 7 rfl (by kernel_rfl) _ rfl ?_)
  refine (hL.mod.slOf hb fun _ _ _ _ h => h).get1n (n := 3) (g := u8V) inf5 agg5 (by simp) fun b3 o3 hld hlt => evV_of _ (hld _ rfl) ?_
  repeat (first | refine ptrW_of ?_ | refine sameV_of ?_ | refine hL.new fun bk S' hL hbk hnk => ?_ | (first | refine hL.ld 0 rfl (by kernel_rfl) _ rfl ?_ | refine hL.ld 1 rfl (by kernel_rfl) _ rfl ?_ | refine hL.ld 2 rfl (by kernel_rfl) _ rfl ?_ | refine hL.ld 3 rfl (by kernel_rfl) _ rfl ?_ | refine hL.ld 4 rfl (by kernel_rfl) _ rfl ?_ | refine hL.ld 5 rfl (by kernel_rfl) _ rfl ?_ | refine hL.ld 6 rfl (by kernel_rfl) _ rfl ?_ | refine hL.ld 7 rfl (by kernel_rfl) _ rfl ?_ | refine hL.lda 0 rfl (by kernel_rfl) _ rfl ?_ | refine hL.lda 1 rfl (by kernel_rfl) _ rfl ?_ | refine hL.lda 2 rfl (by kernel_rfl) _ rfl ?_ | refine hL.lda 3 rfl (by kernel_rfl) _ rfl ?_ | refine hL.lda 4 rfl (by kernel_rfl) _ rfl ?_ | refine hL.lda 5 rfl (by kernel_rfl) _ rfl ?_ | refine hL.lda 6 rfl (by kernel_rfl) _ rfl ?_ | refine hL.lda 7 rfl (by kernel_rfl) _ rfl ?_) | (first | refine hL.st 0 _ rfl (by kernel_rfl) rfl (Nat.le_of_ble_eq_true rfl) rfl rfl fun S' hL hn' => ?_ | refine hL.st 1 _ rfl (by kernel_rfl) rfl (Nat.le_of_ble_eq_true rfl) rfl rfl fun S' hL hn' => ?_ | refine hL.st 2 _ rfl (by kernel_rfl) rfl (Nat.le_of_ble_eq_true rfl) rfl rfl fun S' hL hn' => ?_ | refine hL.st 3 _ rfl (by kernel_rfl) rfl (Nat.le_of_ble_eq_true rfl) rfl rfl fun S' hL hn' => ?_ | refine hL.st 4 _ rfl (by kernel_rfl) rfl (Nat.le_of_ble_eq_true rfl) rfl rfl fun S' hL hn' => ?_ | refine hL.st 5 _ rfl (by kernel_rfl) rfl (Nat.le_of_ble_eq_true rfl) rfl rfl fun S' hL hn' => ?_ | refine hL.st 6 _ rfl (by kernel_rfl) rfl (Nat.le_of_ble_eq_true rfl) rfl rfl fun S' hL hn' => ?_ | refine hL.st 7 _ rfl (by kernel_rfl) rfl (Nat.le_of_ble_eq_true rfl) rfl rfl fun S' hL hn' => ?_) | (first | refine hL.has 0 rfl ?_ | refine hL.has 1 rfl ?_ | refine hL.has 2 rfl ?_ | refine hL.has 3 rfl ?_ | refine hL.has 4 rfl ?_ | refine hL.has 5 rfl ?_ | refine hL.has 6 rfl ?_ | refine hL.has 7 rfl ?_) | (first | refine hL.upd 0 rfl fun S' hL hn' => ?_ | refine hL.upd 1 rfl fun S' hL hn' => ?_ | refine hL.upd 2 rfl fun S' hL hn' => ?_ | refine hL.upd 3 rfl fun S' hL hn' => ?_ | refine hL.upd 4 rfl fun S' hL hn' => ?_ | refine hL.upd 5 rfl fun S' hL hn' => ?_ | refine hL.upd 6 rfl fun S' hL hn' => ?_ | refine hL.upd 7 rfl fun S' hL hn' => ?_))
  refine evC_of (w39 _ ?_)
  unfold c39
  refine hL.new fun c1 S1 hL _ _ => ?_
  refine ⟨_, rfl, ?_⟩
  refine hL.new fun b13 S' hL _ _ => ?_
  rintro b14 S11 L rfl rfl hLL hR
  have hL := hL.record (o := L .ready none)
  generalize (S'.alloc (L .ready none)).2 = S11 at hL ⊢
  generalize hb14 : S'.next = b14 at hL hR ⊢
  have hL : Hld noB S S11 (boxesO b14 b13 c1 b10 b5 b2 b1 (L .ready none) b (kindP x0) (bothP x2 x3) (foldO x0 x1 x2 x3 0)) := by rw [foldO_zero]; exact hL
  refine WG_of rfl (s83 (kind := kindP x0) (fun i S' => Hld noB S S' (boxesO b14 b13 c1 b10 b5 b2 b1 (L .ready none) b (kindP x0) (bothP x2 x3) (foldO x0 x1 x2 x3 i))) (hL.at 2 rfl) hL ?_ ?_)
  · intro i hi S' hL
    refine hR _ S' _ ?_
    have hsucc := foldO_succ (x1 := x1) (x2 := x2) (x3 := x3) hi
    generalize foldO x0 x1 x2 x3 i = y at hL hsucc
    generalize (((partsB (kindP x0))[i].toNat : Nat) : Int) = c at hsucc ⊢
    (first | refine hL.has 0 rfl ?_ | refine hL.has 1 rfl ?_ | refine hL.has 2 rfl ?_ | refine hL.has 3 rfl ?_ | refine hL.has 4 rfl ?_ | refine hL.has 5 rfl ?_ | refine hL.has 6 rfl ?_ | refine hL.has 7 rfl ?_)
    (first | refine hL.has 0 rfl ?_ | refine hL.has 1 rfl ?_ | refine hL.has 2 rfl ?_ | refine hL.has 3 rfl ?_ | refine hL.has 4 rfl ?_ | refine hL.has 5 rfl ?_ | refine hL.has 6 rfl ?_ | refine hL.has 7 rfl ?_)
    (first | refine hL.upd 0 rfl fun S' hL hn' => ?_ | refine hL.upd 1 rfl fun S' hL hn' => ?_ | refine hL.upd 2 rfl fun S' hL hn' => ?_ | refine hL.upd 3 rfl fun S' hL hn' => ?_ | refine hL.upd 4 rfl fun S' hL hn' => ?_ | refine hL.upd 5 rfl fun S' hL hn' => ?_ | refine hL.upd 6 rfl fun S' hL hn' => ?_ | refine hL.upd 7 rfl fun S' hL hn' => ?_)
    refine ifW_dec (fun h1 => ?_) fun h1 => ?_
    · (first | refine hL.ld 0 rfl (by kernel_rfl) _ rfl ?_ | refine hL.ld 1 rfl (by kernel_rfl) _ rfl ?_ | refine hL.ld 2 rfl (by kernel_rfl) _ rfl ?_ | refine hL.ld 3 rfl (by kernel_rfl) _ rfl ?_ | refine hL.ld 4 rfl (by kernel_rfl) _ rfl ?_ | refine hL.ld 5 rfl (by kernel_rfl) _ rfl ?_ | refine hL.ld 6 rfl (by kernel_rfl) _ rfl ?_ | refine hL.ld 7 rfl (by kernel_rfl) _ rfl ?_ | refine hL.lda 0 rfl (by kernel_rfl) _ rfl ?_ | refine hL.lda 1 rfl (by kernel_rfl) _ rfl ?_ | refine hL.lda 2 rfl (by kernel_rfl) _ rfl ?_ | refine hL.lda 3 rfl (by kernel_rfl) _ rfl ?_ | refine hL.lda 4 rfl (by kernel_rfl) _ rfl ?_ | refine hL.lda 5 rfl (by kernel_rfl) _ rfl ?_ | refine hL.lda 6 rfl (by kernel_rfl) _ rfl ?_ | refine hL.lda 7 rfl (by kernel_rfl) _ rfl ?_)
      refine (hL.mod.slOf hb fun _ _ _ _ h => h).get1n (n := 1) (g := u8V) inf5 agg5 (by simp) fun b3 o3 hld hlt => evV_of _ (hld _ rfl) ⟨rfl, ?_⟩
      repeat (first | refine ptrW_of ?_ | refine sameV_of ?_ | refine hL.new fun bk S' hL hbk hnk => ?_ | (first | refine hL.ld 0 rfl (by kernel_rfl) _ rfl ?_ | refine hL.ld 1 rfl (by kernel_rfl) _ rfl ?_ | refine hL.ld 2 rfl (by kernel_rfl) _ rfl ?_ | refine hL.ld 3 rfl (by kernel_rfl) _ rfl ?_ | refine hL.ld 4 rfl (by kernel_rfl) _ rfl ?_ | refine hL.ld 5 rfl (by kernel_rfl) _ rfl ?_ | refine hL.ld 6 rfl (by kernel_rfl) _ rfl ?_ | refine hL.ld 7 rfl (by kernel_rfl) _ rfl ?_ | refine hL.lda 0 rfl (by kernel_rfl) _ rfl ?_ | refine hL.lda 1 rfl (by kernel_rfl) _ rfl ?_ | refine hL.lda 2 rfl (by kernel_rfl) _ rfl ?_ | refine hL.lda 3 rfl (by kernel_rfl) _ rfl ?_ | refine hL.lda 4 rfl (by kernel_rfl) _ rfl ?_ | refine hL.lda 5 rfl (by kernel_rfl) _ rfl ?_ | refine hL.lda 6 rfl (by kernel_rfl) _ rfl ?_ | refine hL.lda 7 rfl (by kernel_rfl) _ rfl ?_) | (first | refine hL.st 0 _ rfl (by kernel_rfl) rfl (Nat.le_of_ble_eq_true rfl) rfl rfl fun S' hL hn' => ?_ | refine hL.st 1 _ rfl (by kernel_rfl) rfl (Nat.le_of_ble_eq_true rfl) rfl rfl fun S' hL hn' => ?_ | refine hL.st 2 _ rfl (by kernel_rfl) rfl (Nat.le_of_ble_eq_true rfl) rfl rfl fun S' hL hn' => ?_ | refine hL.st 3 _ rfl (by kernel_rfl) rfl (Nat.le_of_ble_eq_true rfl) rfl rfl fun S' hL hn' => ?_ | refine hL.st 4 _ rfl (by kernel_rfl) rfl (Nat.le_of_ble_eq_true rfl) rfl rfl fun S' hL hn' => ?_ | refine hL.st 5 _ rfl (by kernel_rfl) rfl (Nat.le_of_ble_eq_true rfl) rfl rfl fun S' hL hn' => ?_ | refine hL.st 6 _ rfl (by kernel_rfl) rfl (Nat.le_of_ble_eq_true rfl) rfl rfl fun S' hL hn' => ?_ | refine hL.st 7 _ rfl (by kernel_rfl) rfl (Nat.le_of_ble_eq_true rfl) rfl rfl fun S' hL hn' => ?_) | (first | refine hL.has 0 rfl ?_ | refine hL.has 1 rfl ?_ | refine hL.has 2 rfl ?_ | refine hL.has 3 rfl ?_ | refine hL.has 4 rfl ?_ | refine hL.has 5 rfl ?_ | refine hL.has 6 rfl ?_ | refine hL.has 7 rfl ?_) | (first | refine hL.upd 0 rfl fun S' hL hn' => ?_ | refine hL.upd 1 rfl fun S' hL hn' => ?_ | refine hL.upd 2 rfl fun S' hL hn' => ?_ | refine hL.upd 3 rfl fun S' hL hn' => ?_ | refine hL.upd 4 rfl fun S' hL hn' => ?_ | refine hL.upd 5 rfl fun S' hL hn' => ?_ | refine hL.upd 6 rfl fun S' hL hn' => ?_ | refine hL.upd 7 rfl fun S' hL hn' => ?_))
      exact ⟨fun _ => by rw [hsucc, updO, if_pos h1]; exact hL, fun h => by cases h⟩
    refine ifW_dec (fun h2 => ?_) fun h2 => ?_
    · repeat (first | refine ptrW_of ?_ | refine sameV_of ?_ | refine hL.new fun bk S' hL hbk hnk => ?_ | (first | refine hL.ld 0 rfl (by kernel_rfl) _ rfl ?_ | refine hL.ld 1 rfl (by kernel_rfl) _ rfl ?_ | refine hL.ld 2 rfl (by kernel_rfl) _ rfl ?_ | refine hL.ld 3 rfl (by kernel_rfl) _ rfl ?_ | refine hL.ld 4 rfl (by kernel_rfl) _ rfl ?_ | refine hL.ld 5 rfl (by kernel_rfl) _ rfl ?_ | refine hL.ld 6 rfl (by kernel_rfl) _ rfl ?_ | refine hL.ld 7 rfl (by kernel_rfl) _ rfl ?_ | refine hL.lda 0 rfl (by kernel_rfl) _ rfl ?_ | refine hL.lda 1 rfl (by kernel_rfl) _ rfl ?_ | refine hL.lda 2 rfl (by kernel_rfl) _ rfl ?_ | refine hL.lda 3 rfl (by kernel_rfl) _ rfl ?_ | refine hL.lda 4 rfl (by kernel_rfl) _ rfl ?_ | refine hL.lda 5 rfl (by kernel_rfl) _ rfl ?_ | refine hL.lda 6 rfl (by kernel_rfl) _ rfl ?_ | refine hL.lda 7 rfl (by kernel_rfl) _ rfl ?_) | (first | refine hL.st 0 _ rfl (by kernel_rfl) rfl (Nat.le_of_ble_eq_true rfl) rfl rfl fun S' hL hn' => ?_ | refine hL.st 1 _ rfl (by kernel_rfl) rfl (Nat.le_of_ble_eq_true rfl) rfl rfl fun S' hL hn' => ?_ | refine hL.st 2 _ rfl (by kernel_rfl) rfl (Nat.le_of_ble_eq_true rfl) rfl rfl fun S' hL hn' => ?_ | refine hL.st 3 _ rfl (by kernel_rfl) rfl (Nat.le_of_ble_eq_true rfl) rfl rfl fun S' hL hn' => ?_ | refine hL.st 4 _ rfl (by kernel_rfl) rfl (Nat.le_of_ble_eq_true rfl) rfl rfl fun S' hL hn' => ?_ | refine hL.st 5 _ rfl (by kernel_rfl) rfl (Nat.le_of_ble_eq_true rfl) rfl rfl fun S' hL hn' => ?_ | refine hL.st 6 _ rfl (by kernel_rfl) rfl (Nat.le_of_ble_eq_true rfl) rfl rfl fun S' hL hn' => ?_ | refine hL.st 7 _ rfl (by kernel_rfl) rfl (Nat.le_of_ble_eq_true rfl) rfl rfl fun S' hL hn' => ?_) | (first | refine hL.has 0 rfl ?_ | refine hL.has 1 rfl ?_ | refine hL.has 2 rfl ?_ | refine hL.has 3 rfl ?_ | refine hL.has 4 rfl ?_ | refine hL.has 5 rfl ?_ | refine hL.has 6 rfl ?_ | refine hL.has 7 rfl ?_) | (first | refine hL.upd 0 rfl fun S' hL hn' => ?_ | refine hL.upd 1 rfl fun S' hL hn' => ?_ | refine hL.upd 2 rfl fun S' hL hn' => ?_ | refine hL.upd 3 rfl fun S' hL hn' => ?_ | refine hL.upd 4 rfl fun S' hL hn' => ?_ | refine hL.upd 5 rfl fun S' hL hn' => ?_ | refine hL.upd 6 rfl fun S' hL hn' => ?_ | refine hL.upd 7 rfl fun S' hL hn' => ?_))
      exact ⟨fun _ => by rw [hsucc, updO, if_neg h1, if_pos h2]; exact hL, fun h => by cases h⟩
    refine ifW_dec (fun h3 => ?_) fun h3 => ?_
    · (first | refine hL.ld 0 rfl (by kernel_rfl) _ rfl ?_ | refine hL.ld 1 rfl (by kernel_rfl) _ rfl ?_ | refine hL.ld 2 rfl (by kernel_rfl) _ rfl ?_ | refine hL.ld 3 rfl (by kernel_rfl) _ rfl ?_ | refine hL.ld 4 rfl (by kernel_rfl) _ rfl ?_ | refine hL.ld 5 rfl (by kernel_rfl) _ rfl ?_ | refine hL.ld 6 rfl (by kernel_rfl) _ rfl ?_ | refine hL.ld 7 rfl (by kernel_rfl) _ rfl ?_ | refine hL.lda 0 rfl (by kernel_rfl) _ rfl ?_ | refine hL.lda 1 rfl (by kernel_rfl) _ rfl ?_ | refine hL.lda 2 rfl (by kernel_rfl) _ rfl ?_ | refine hL.lda 3 rfl (by kernel_rfl) _ rfl ?_ | refine hL.lda 4 rfl (by kernel_rfl) _ rfl ?_ | refine hL.lda 5 rfl (by kernel_rfl) _ rfl ?_ | refine hL.lda 6 rfl (by kernel_rfl) _ rfl ?_ | refine hL.lda 7 rfl (by kernel_rfl) _ rfl ?_)
      refine (hL.mod.slOf hb fun _ _ _ _ h => h).get1n (n := 1) (g := u8V) inf5 agg5 (by simp) fun b3 o3 hld hlt => evV_of _ (hld _ rfl) ?_
      repeat (first | refine ptrW_of ?_ | refine sameV_of ?_ | refine hL.new fun bk S' hL hbk hnk => ?_ | (first | refine hL.ld 0 rfl (by kernel_rfl) _ rfl ?_ | refine hL.ld 1 rfl (by kernel_rfl) _ rfl ?_ | refine hL.ld 2 rfl (by kernel_rfl) _ rfl ?_ | refine hL.ld 3 rfl (by kernel_rfl) _ rfl ?_ | refine hL.ld 4 rfl (by kernel_rfl) _ rfl ?_ | refine hL.ld 5 rfl (by kernel_rfl) _ rfl ?_ | refine hL.ld 6 rfl (by kernel_rfl) _ rfl ?_ | refine hL.ld 7 rfl (by kernel_rfl) _ rfl ?_ | refine hL.lda 0 rfl (by kernel_rfl) _ rfl ?_ | refine hL.lda 1 rfl (by kernel_rfl) _ rfl ?_ | refine hL.lda 2 rfl (by kernel_rfl) _ rfl ?_ | refine hL.lda 3 rfl (by kernel_rfl) _ rfl ?_ | refine hL.lda 4 rfl (by kernel_rfl) _ rfl ?_ | refine hL.lda 5 rfl (by kernel_rfl) _ rfl ?_ | refine hL.lda 6 rfl (by kernel_rfl) _ rfl ?_ | refine hL.lda 7 rfl (by kernel_rfl) _ rfl ?_) | (first | refine hL.st 0 _ rfl (by kernel_rfl) rfl (Nat.le_of_ble_eq_true rfl) rfl rfl fun S' hL hn' => ?_ | refine hL.st 1 _ rfl (by kernel_rfl) rfl (Nat.le_of_ble_eq_true rfl) rfl rfl fun S' hL hn' => ?_ | refine hL.st 2 _ rfl (by kernel_rfl) rfl (Nat.le_of_ble_eq_true rfl) rfl rfl fun S' hL hn' => ?_ | refine hL.st 3 _ rfl (by kernel_rfl) rfl (Nat.le_of_ble_eq_true rfl) rfl rfl fun S' hL hn' => ?_ | refine hL.st 4 _ rfl (by kernel_rfl) rfl (Nat.le_of_ble_eq_true rfl) rfl rfl fun S' hL hn' => ?_ | refine hL.st 5 _ rfl (by kernel_rfl) rfl (Nat.le_of_ble_eq_true rfl) rfl rfl fun S' hL hn' => ?_ | refine hL.st 6 _ rfl (by kernel_rfl) rfl (Nat.le_of_ble_eq_true rfl) rfl rfl fun S' hL hn' => ?_ | refine hL.st 7 _ rfl (by kernel_rfl) rfl (Nat.le_of_ble_eq_true rfl) rfl rfl fun S' hL hn' => ?_) | (first | refine hL.has 0 rfl ?_ | refine hL.has 1 rfl ?_ | refine hL.has 2 rfl ?_ | refine hL.has 3 rfl ?_ | refine hL.has 4 rfl ?_ | refine hL.has 5 rfl ?_ | refine hL.has 6 rfl ?_ | refine hL.has 7 rfl ?_) | (first | refine hL.upd 0 rfl fun S' hL hn' => ?_ | refine hL.upd 1 rfl fun S' hL hn' => ?_ | refine hL.upd 2 rfl fun S' hL hn' => ?_ | refine hL.upd 3 rfl fun S' hL hn' => ?_ | refine hL.upd 4 rfl fun S' hL hn' => ?_ | refine hL.upd 5 rfl fun S' hL hn' => ?_ | refine hL.upd 6 rfl fun S' hL hn' => ?_ | refine hL.upd 7 rfl fun S' hL hn' => ?_))
      exact ⟨fun _ => by rw [hsucc, updO, if_neg h1, if_neg h2, if_pos h3]; exact hL, fun h => by cases h⟩
    refine ifW_dec (fun h4 => ?_) fun h4 => ?_
    · (first | refine hL.ld 0 rfl (by kernel_rfl) _ rfl ?_ | refine hL.ld 1 rfl (by kernel_rfl) _ rfl ?_ | refine hL.ld 2 rfl (by kernel_rfl) _ rfl ?_ | refine hL.ld 3 rfl (by kernel_rfl) _ rfl ?_ | refine hL.ld 4 rfl (by kernel_rfl) _ rfl ?_ | refine hL.ld 5 rfl (by kernel_rfl) _ rfl ?_ | refine hL.ld 6 rfl (by kernel_rfl) _ rfl ?_ | refine hL.ld 7 rfl (by kernel_rfl) _ rfl ?_ | refine hL.lda 0 rfl (by kernel_rfl) _ rfl ?_ | refine hL.lda 1 rfl (by kernel_rfl) _ rfl ?_ | refine hL.lda 2 rfl (by kernel_rfl) _ rfl ?_ | refine hL.lda 3 rfl (by kernel_rfl) _ rfl ?_ | refine hL.lda 4 rfl (by kernel_rfl) _ rfl ?_ | refine hL.lda 5 rfl (by kernel_rfl) _ rfl ?_ | refine hL.lda 6 rfl (by kernel_rfl) _ rfl ?_ | refine hL.lda 7 rfl (by kernel_rfl) _ rfl ?_)
      refine (hL.mod.slOf hb fun _ _ _ _ h => h).get1n (n := 2) (g := u8V) inf5 agg5 (by simp) fun b3 o3 hld hlt => evV_of _ (hld _ rfl) ?_
      repeat (first | refine ptrW_of ?_ | refine sameV_of ?_ | refine hL.new fun bk S' hL hbk hnk => ?_ | (first | refine hL.ld 0 rfl (by kernel_rfl) _ rfl ?_ | refine hL.ld 1 rfl (by kernel_rfl) _ rfl ?_ | refine hL.ld 2 rfl (by kernel_rfl) _ rfl ?_ | refine hL.ld 3 rfl (by kernel_rfl) _ rfl ?_ | refine hL.ld 4 rfl (by kernel_rfl) _ rfl ?_ | refine hL.ld 5 rfl (by kernel_rfl) _ rfl ?_ | refine hL.ld 6 rfl (by kernel_rfl) _ rfl ?_ | refine hL.ld 7 rfl (by kernel_rfl) _ rfl ?_ | refine hL.lda 0 rfl (by kernel_rfl) _ rfl ?_ | refine hL.lda 1 rfl (by kernel_rfl) _ rfl ?_ | refine hL.lda 2 rfl (by kernel_rfl) _ rfl ?_ | refine hL.lda 3 rfl (by kernel_rfl) _ rfl ?_ | refine hL.lda 4 rfl (by kernel_rfl) _ rfl ?_ | refine hL.lda 5 rfl (by kernel_rfl) _ rfl ?_ | refine hL.lda 6 rfl (by kernel_rfl) _ rfl ?_ | refine hL.lda 7 rfl (by kernel_rfl) _ rfl ?_) | (first | refine hL.st 0 _ rfl (by kernel_rfl) rfl (Nat.le_of_ble_eq_true rfl) rfl rfl fun S' hL hn' => ?_ | refine hL.st 1 _ rfl (by kernel_rfl) rfl (Nat.le_of_ble_eq_true rfl) rfl rfl fun S' hL hn' => ?_ | refine hL.st 2 _ rfl (by kernel_rfl) rfl (Nat.le_of_ble_eq_true rfl) rfl rfl fun S' hL hn' => ?_ | refine hL.st 3 _ rfl (by kernel_rfl) rfl (Nat.le_of_ble_eq_true rfl) rfl rfl fun S' hL hn' => ?_ | refine hL.st 4 _ rfl (by kernel_rfl) rfl (Nat.le_of_ble_eq_true rfl) rfl rfl fun S' hL hn' => ?_ | refine hL.st 5 _ rfl (by kernel_rfl) rfl (Nat.le_of_ble_eq_true rfl) rfl rfl fun S' hL hn' => ?_ | refine hL.st 6 _ rfl (by kernel_rfl) rfl (Nat.le_of_ble_eq_true rfl) rfl rfl fun S' hL hn' => ?_ | refine hL.st 7 _ rfl (by kernel_rfl) rfl (Nat.le_of_ble_eq_true rfl) rfl rfl fun S' hL hn' => ?_) | (first | refine hL.has 0 rfl ?_ | refine hL.has 1 rfl ?_ | refine hL.has 2 rfl ?_ | refine hL.has 3 rfl ?_ | refine hL.has 4 rfl ?_ | refine hL.has 5 rfl ?_ | refine hL.has 6 rfl ?_ | refine hL.has 7 rfl ?_) | (first | refine hL.upd 0 rfl fun S' hL hn' => ?_ | refine hL.upd 1 rfl fun S' hL hn' => ?_ | refine hL.upd 2 rfl fun S' hL hn' => ?_ | refine hL.upd 3 rfl fun S' hL hn' => ?_ | refine hL.upd 4 rfl fun S' hL hn' => ?_ | refine hL.upd 5 rfl fun S' hL hn' => ?_ | refine hL.upd 6 rfl fun S' hL hn' => ?_ | refine hL.upd 7 rfl fun S' hL hn' => ?_))
      exact ⟨fun _ => by rw [hsucc, updO, if_neg h1, if_neg h2, if_neg h3, if_pos h4]; exact hL, fun h => by cases h⟩
    refine ifW_dec (fun h5 => ?_) fun h5 => ?_
    · (first | refine hL.ld 0 rfl (by kernel_rfl) _ rfl ?_ | refine hL.ld 1 rfl (by kernel_rfl) _ rfl ?_ | refine hL.ld 2 rfl (by kernel_rfl) _ rfl ?_ | refine hL.ld 3 rfl (by kernel_rfl) _ rfl ?_ | refine hL.ld 4 rfl (by kernel_rfl) _ rfl ?_ | refine hL.ld 5 rfl (by kernel_rfl) _ rfl ?_ | refine hL.ld 6 rfl (by kernel_rfl) _ rfl ?_ | refine hL.ld 7 rfl (by kernel_rfl) _ rfl ?_ | refine hL.lda 0 rfl (by kernel_rfl) _ rfl ?_ | refine hL.lda 1 rfl (by kernel_rfl) _ rfl ?_ | refine hL.lda 2 rfl (by kernel_rfl) _ rfl ?_ | refine hL.lda 3 rfl (by kernel_rfl) _ rfl ?_ | refine hL.lda 4 rfl (by kernel_rfl) _ rfl ?_ | refine hL.lda 5 rfl (by kernel_rfl) _ rfl ?_ | refine hL.lda 6 rfl (by kernel_rfl) _ rfl ?_ | refine hL.lda 7 rfl (by kernel_rfl) _ rfl ?_)
      refine (hL.mod.slOf hb fun _ _ _ _ h => h).get1n (n := 3) (g := u8V) inf5 agg5 (by simp) fun b3 o3 hld hlt => evV_of _ (hld _ rfl) ?_
      refine ptrW_of ?_
      rw [minmax_max]
      repeat (first | refine ptrW_of ?_ | refine sameV_of ?_ | refine hL.new fun bk S' hL hbk hnk => ?_ | (first | refine hL.ld 0 rfl (by kernel_rfl) _ rfl ?_ | refine hL.ld 1 rfl (by kernel_rfl) _ rfl ?_ | refine hL.ld 2 rfl (by kernel_rfl) _ rfl ?_ | refine hL.ld 3 rfl (by kernel_rfl) _ rfl ?_ | refine hL.ld 4 rfl (by kernel_rfl) _ rfl ?_ | refine hL.ld 5 rfl (by kernel_rfl) _ rfl ?_ | refine hL.ld 6 rfl (by kernel_rfl) _ rfl ?_ | refine hL.ld 7 rfl (by kernel_rfl) _ rfl ?_ | refine hL.lda 0 rfl (by kernel_rfl) _ rfl ?_ | refine hL.lda 1 rfl (by kernel_rfl) _ rfl ?_ | refine hL.lda 2 rfl (by kernel_rfl) _ rfl ?_ | refine hL.lda 3 rfl (by kernel_rfl) _ rfl ?_ | refine hL.lda 4 rfl (by kernel_rfl) _ rfl ?_ | refine hL.lda 5 rfl (by kernel_rfl) _ rfl ?_ | refine hL.lda 6 rfl (by kernel_rfl) _ rfl ?_ | refine hL.lda 7 rfl (by kernel_rfl) _ rfl ?_) | (first | refine hL.st 0 _ rfl (by kernel_rfl) rfl (Nat.le_of_ble_eq_true rfl) rfl rfl fun S' hL hn' => ?_ | refine hL.st 1 _ rfl (by kernel_rfl) rfl (Nat.le_of_ble_eq_true rfl) rfl rfl fun S' hL hn' => ?_ | refine hL.st 2 _ rfl (by kernel_rfl) rfl (Nat.le_of_ble_eq_true rfl) rfl rfl fun S' hL hn' => ?_ | refine hL.st 3 _ rfl (by kernel_rfl) rfl (Nat.le_of_ble_eq_true rfl) rfl rfl fun S' hL hn' => ?_ | refine hL.st 4 _ rfl (by kernel_rfl) rfl (Nat.le_of_ble_eq_true rfl) rfl rfl fun S' hL hn' => ?_ | refine hL.st 5 _ rfl (by kernel_rfl) rfl (Nat.le_of_ble_eq_true rfl) rfl rfl fun S' hL hn' => ?_ | refine hL.st 6 _ rfl (by kernel_rfl) rfl (Nat.le_of_ble_eq_true rfl) rfl rfl fun S' hL hn' => ?_ | refine hL.st 7 _ rfl (by kernel_rfl) rfl (Nat.le_of_ble_eq_true rfl) rfl rfl fun S' hL hn' => ?_) | (first | refine hL.has 0 rfl ?_ | refine hL.has 1 rfl ?_ | refine hL.has 2 rfl ?_ | refine hL.has 3 rfl ?_ | refine hL.has 4 rfl ?_ | refine hL.has 5 rfl ?_ | refine hL.has 6 rfl ?_ | refine hL.has 7 rfl ?_) | (first | refine hL.upd 0 rfl fun S' hL hn' => ?_ | refine hL.upd 1 rfl fun S' hL hn' => ?_ | refine hL.upd 2 rfl fun S' hL hn' => ?_ | refine hL.upd 3 rfl fun S' hL hn' => ?_ | refine hL.upd 4 rfl fun S' hL hn' => ?_ | refine hL.upd 5 rfl fun S' hL hn' => ?_ | refine hL.upd 6 rfl fun S' hL hn' => ?_ | refine hL.upd 7 rfl fun S' hL hn' => ?_))
      exact ⟨fun _ => by rw [hsucc, updO, if_neg h1, if_neg h2, if_neg h3, if_neg h4, if_pos h5]; exact hL, fun h => by cases h⟩
    refine ifW_dec (fun h6 => ?_) fun h6 => ?_
    · (first | refine hL.ld 0 rfl (by kernel_rfl) _ rfl ?_ | refine hL.ld 1 rfl (by kernel_rfl) _ rfl ?_ | refine hL.ld 2 rfl (by kernel_rfl) _ rfl ?_ | refine hL.ld 3 rfl (by kernel_rfl) _ rfl ?_ | refine hL.ld 4 rfl (by kernel_rfl) _ rfl ?_ | refine hL.ld 5 rfl (by kernel_rfl) _ rfl ?_ | refine hL.ld 6 rfl (by kernel_rfl) _ rfl ?_ | refine hL.ld 7 rfl (by kernel_rfl) _ rfl ?_ | refine hL.lda 0 rfl (by kernel_rfl) _ rfl ?_ | refine hL.lda 1 rfl (by kernel_rfl) _ rfl ?_ | refine hL.lda 2 rfl (by kernel_rfl) _ rfl ?_ | refine hL.lda 3 rfl (by kernel_rfl) _ rfl ?_ | refine hL.lda 4 rfl (by kernel_rfl) _ rfl ?_ | refine hL.lda 5 rfl (by kernel_rfl) _ rfl ?_ | refine hL.lda 6 rfl (by kernel_rfl) _ rfl ?_ | refine hL.lda 7 rfl (by kernel_rfl) _ rfl ?_)
      refine ⟨rfl, ?_⟩
      repeat (first | refine ptrW_of ?_ | refine sameV_of ?_ | refine hL.new fun bk S' hL hbk hnk => ?_ | (first | refine hL.ld 0 rfl (by kernel_rfl) _ rfl ?_ | refine hL.ld 1 rfl (by kernel_rfl) _ rfl ?_ | refine hL.ld 2 rfl (by kernel_rfl) _ rfl ?_ | refine hL.ld 3 rfl (by kernel_rfl) _ rfl ?_ | refine hL.ld 4 rfl (by kernel_rfl) _ rfl ?_ | refine hL.ld 5 rfl (by kernel_rfl) _ rfl ?_ | refine hL.ld 6 rfl (by kernel_rfl) _ rfl ?_ | refine hL.ld 7 rfl (by kernel_rfl) _ rfl ?_ | refine hL.lda 0 rfl (by kernel_rfl) _ rfl ?_ | refine hL.lda 1 rfl (by kernel_rfl) _ rfl ?_ | refine hL.lda 2 rfl (by kernel_rfl) _ rfl ?_ | refine hL.lda 3 rfl (by kernel_rfl) _ rfl ?_ | refine hL.lda 4 rfl (by kernel_rfl) _ rfl ?_ | refine hL.lda 5 rfl (by kernel_rfl) _ rfl ?_ | refine hL.lda 6 rfl (by kernel_rfl) _ rfl ?_ | refine hL.lda 7 rfl (by kernel_rfl) _ rfl ?_) | (first | refine hL.st 0 _ rfl (by kernel_rfl) rfl (Nat.le_of_ble_eq_true rfl) rfl rfl fun S' hL hn' => ?_ | refine hL.st 1 _ rfl (by kernel_rfl) rfl (Nat.le_of_ble_eq_true rfl) rfl rfl fun S' hL hn' => ?_ | refine hL.st 2 _ rfl (by kernel_rfl) rfl (Nat.le_of_ble_eq_true rfl) rfl rfl fun S' hL hn' => ?_ | refine hL.st 3 _ rfl (by kernel_rfl) rfl (Nat.le_of_ble_eq_true rfl) rfl rfl fun S' hL hn' => ?_ | refine hL.st 4 _ rfl (by kernel_rfl) rfl (Nat.le_of_ble_eq_true rfl) rfl rfl fun S' hL hn' => ?_ | refine hL.st 5 _ rfl (by kernel_rfl) rfl (Nat.le_of_ble_eq_true rfl) rfl rfl fun S' hL hn' => ?_ | refine hL.st 6 _ rfl (by kernel_rfl) rfl (Nat.le_of_ble_eq_true rfl) rfl rfl fun S' hL hn' => ?_ | refine hL.st 7 _ rfl (by kernel_rfl) rfl (Nat.le_of_ble_eq_true rfl) rfl rfl fun S' hL hn' => ?_) | (first | refine hL.has 0 rfl ?_ | refine hL.has 1 rfl ?_ | refine hL.has 2 rfl ?_ | refine hL.has 3 rfl ?_ | refine hL.has 4 rfl ?_ | refine hL.has 5 rfl ?_ | refine hL.has 6 rfl ?_ | refine hL.has 7 rfl ?_) | (first | refine hL.upd 0 rfl fun S' hL hn' => ?_ | refine hL.upd 1 rfl fun S' hL hn' => ?_ | refine hL.upd 2 rfl fun S' hL hn' => ?_ | refine hL.upd 3 rfl fun S' hL hn' => ?_ | refine hL.upd 4 rfl fun S' hL hn' => ?_ | refine hL.upd 5 rfl fun S' hL hn' => ?_ | refine hL.upd 6 rfl fun S' hL hn' => ?_ | refine hL.upd 7 rfl fun S' hL hn' => ?_))
      exact ⟨fun _ => by rw [hsucc, updO, if_neg h1, if_neg h2, if_neg h3, if_neg h4, if_neg h5, if_pos h6]; exact hL, fun h => by cases h⟩
    refine ifW_dec (fun h7 => ?_) fun h7 => ?_
    · (first | refine hL.ld 0 rfl (by kernel_rfl) _ rfl ?_ | refine hL.ld 1 rfl (by kernel_rfl) _ rfl ?_ | refine hL.ld 2 rfl (by kernel_rfl) _ rfl ?_ | refine hL.ld 3 rfl (by kernel_rfl) _ rfl ?_ | refine hL.ld 4 rfl (by kernel_rfl) _ rfl ?_ | refine hL.ld 5 rfl (by kernel_rfl) _ rfl ?_ | refine hL.ld 6 rfl (by kernel_rfl) _ rfl ?_ | refine hL.ld 7 rfl (by kernel_rfl) _ rfl ?_ | refine hL.lda 0 rfl (by kernel_rfl) _ rfl ?_ | refine hL.lda 1 rfl (by kernel_rfl) _ rfl ?_ | refine hL.lda 2 rfl (by kernel_rfl) _ rfl ?_ | refine hL.lda 3 rfl (by kernel_rfl) _ rfl ?_ | refine hL.lda 4 rfl (by kernel_rfl) _ rfl ?_ | refine hL.lda 5 rfl (by kernel_rfl) _ rfl ?_ | refine hL.lda 6 rfl (by kernel_rfl) _ rfl ?_ | refine hL.lda 7 rfl (by kernel_rfl) _ rfl ?_)
      refine (hL.mod.slOf hb fun _ _ _ _ h => h).get1n (n := 2) (g := u8V) inf5 agg5 (by simp) fun b3 o3 hld hlt => evV_of _ (hld _ rfl) ⟨rfl, ?_⟩
      repeat (first | refine ptrW_of ?_ | refine sameV_of ?_ | refine hL.new fun bk S' hL hbk hnk => ?_ | (first | refine hL.ld 0 rfl (by kernel_rfl) _ rfl ?_ | refine hL.ld 1 rfl (by kernel_rfl) _ rfl ?_ | refine hL.ld 2 rfl (by kernel_rfl) _ rfl ?_ | refine hL.ld 3 rfl (by kernel_rfl) _ rfl ?_ | refine hL.ld 4 rfl (by kernel_rfl) _ rfl ?_ | refine hL.ld 5 rfl (by kernel_rfl) _ rfl ?_ | refine hL.ld 6 rfl (by kernel_rfl) _ rfl ?_ | refine hL.ld 7 rfl (by kernel_rfl) _ rfl ?_ | refine hL.lda 0 rfl (by kernel_rfl) _ rfl ?_ | refine hL.lda 1 rfl (by kernel_rfl) _ rfl ?_ | refine hL.lda 2 rfl (by kernel_rfl) _ rfl ?_ | refine hL.lda 3 rfl (by kernel_rfl) _ rfl ?_ | refine hL.lda 4 rfl (by kernel_rfl) _ rfl ?_ | refine hL.lda 5 rfl (by kernel_rfl) _ rfl ?_ | refine hL.lda 6 rfl (by kernel_rfl) _ rfl ?_ | refine hL.lda 7 rfl (by kernel_rfl) _ rfl ?_) | (first | refine hL.st 0 _ rfl (by kernel_rfl) rfl (Nat.le_of_ble_eq_true rfl) rfl rfl fun S' hL hn' => ?_ | refine hL.st 1 _ rfl (by kernel_rfl) rfl (Nat.le_of_ble_eq_true rfl) rfl rfl fun S' hL hn' => ?_ | refine hL.st 2 _ rfl (by kernel_rfl) rfl (Nat.le_of_ble_eq_true rfl) rfl rfl fun S' hL hn' => ?_ | refine hL.st 3 _ rfl (by kernel_rfl) rfl (Nat.le_of_ble_eq_true rfl) rfl rfl fun S' hL hn' => ?_ | refine hL.st 4 _ rfl (by kernel_rfl) rfl (Nat.le_of_ble_eq_true rfl) rfl rfl fun S' hL hn' => ?_ | refine hL.st 5 _ rfl (by kernel_rfl) rfl (Nat.le_of_ble_eq_true rfl) rfl rfl fun S' hL hn' => ?_ | refine hL.st 6 _ rfl (by kernel_rfl) rfl (Nat.le_of_ble_eq_true rfl) rfl rfl fun S' hL hn' => ?_ | refine hL.st 7 _ rfl (by kernel_rfl) rfl (Nat.le_of_ble_eq_true rfl) rfl rfl fun S' hL hn' => ?_) | (first | refine hL.has 0 rfl ?_ | refine hL.has 1 rfl ?_ | refine hL.has 2 rfl ?_ | refine hL.has 3 rfl ?_ | refine hL.has 4 rfl ?_ | refine hL.has 5 rfl ?_ | refine hL.has 6 rfl ?_ | refine hL.has 7 rfl ?_) | (first | refine hL.upd 0 rfl fun S' hL hn' => ?_ | refine hL.upd 1 rfl fun S' hL hn' => ?_ | refine hL.upd 2 rfl fun S' hL hn' => ?_ | refine hL.upd 3 rfl fun S' hL hn' => ?_ | refine hL.upd 4 rfl fun S' hL hn' => ?_ | refine hL.upd 5 rfl fun S' hL hn' => ?_ | refine hL.upd 6 rfl fun S' hL hn' => ?_ | refine hL.upd 7 rfl fun S' hL hn' => ?_))
      exact ⟨fun _ => by rw [hsucc, updO, if_neg h1, if_neg h2, if_neg h3, if_neg h4, if_neg h5, if_neg h6, if_pos h7]; exact hL, fun h => by cases h⟩
    · (first | refine hL.ld 0 rfl (by kernel_rfl) _ rfl ?_ | refine hL.ld 1 rfl (by kernel_rfl) _ rfl ?_ | refine hL.ld 2 rfl (by kernel_rfl) _ rfl ?_ | refine hL.ld 3 rfl (by kernel_rfl) _ rfl ?_ | refine hL.ld 4 rfl (by kernel_rfl) _ rfl ?_ | refine hL.ld 5 rfl (by kernel_rfl) _ rfl ?_ | refine hL.ld 6 rfl (by kernel_rfl) _ rfl ?_ | refine hL.ld 7 rfl (by kernel_rfl) _ rfl ?_ | refine hL.lda 0 rfl (by kernel_rfl) _ rfl ?_ | refine hL.lda 1 rfl (by kernel_rfl) _ rfl ?_ | refine hL.lda 2 rfl (by kernel_rfl) _ rfl ?_ | refine hL.lda 3 rfl (by kernel_rfl) _ rfl ?_ | refine hL.lda 4 rfl (by kernel_rfl) _ rfl ?_ | refine hL.lda 5 rfl (by kernel_rfl) _ rfl ?_ | refine hL.lda 6 rfl (by kernel_rfl) _ rfl ?_ | refine hL.lda 7 rfl (by kernel_rfl) _ rfl ?_)
      refine (hL.mod.slOf hb fun _ _ _ _ h => h).get1n (n := 2) (g := u8V) inf5 agg5 (by simp) fun b3 o3 hld hlt => evV_of _ (hld _ rfl) ⟨rfl, ?_⟩
      repeat (first | refine ptrW_of ?_ | refine sameV_of ?_ | refine hL.new fun bk S' hL hbk hnk => ?_ | (first | refine hL.ld 0 rfl (by kernel_rfl) _ rfl ?_ | refine hL.ld 1 rfl (by kernel_rfl) _ rfl ?_ | refine hL.ld 2 rfl (by kernel_rfl) _ rfl ?_ | refine hL.ld 3 rfl (by kernel_rfl) _ rfl ?_ | refine hL.ld 4 rfl (by kernel_rfl) _ rfl ?_ | refine hL.ld 5 rfl (by kernel_rfl) _ rfl ?_ | refine hL.ld 6 rfl (by kernel_rfl) _ rfl ?_ | refine hL.ld 7 rfl (by kernel_rfl) _ rfl ?_ | refine hL.lda 0 rfl (by kernel_rfl) _ rfl ?_ | refine hL.lda 1 rfl (by kernel_rfl) _ rfl ?_ | refine hL.lda 2 rfl (by kernel_rfl) _ rfl ?_ | refine hL.lda 3 rfl (by kernel_rfl) _ rfl ?_ | refine hL.lda 4 rfl (by kernel_rfl) _ rfl ?_ | refine hL.lda 5 rfl (by kernel_rfl) _ rfl ?_ | refine hL.lda 6 rfl (by kernel_rfl) _ rfl ?_ | refine hL.lda 7 rfl (by kernel_rfl) _ rfl ?_) | (first | refine hL.st 0 _ rfl (by kernel_rfl) rfl (Nat.le_of_ble_eq_true rfl) rfl rfl fun S' hL hn' => ?_ | refine hL.st 1 _ rfl (by kernel_rfl) rfl (Nat.le_of_ble_eq_true rfl) rfl rfl fun S' hL hn' => ?_ | refine hL.st 2 _ rfl (by kernel_rfl) rfl (Nat.le_of_ble_eq_true rfl) rfl rfl fun S' hL hn' => ?_ | refine hL.st 3 _ rfl (by kernel_rfl) rfl (Nat.le_of_ble_eq_true rfl) rfl rfl fun S' hL hn' => ?_ | refine hL.st 4 _ rfl (by kernel_rfl) rfl (Nat.le_of_ble_eq_true rfl) rfl rfl fun S' hL hn' => ?_ | refine hL.st 5 _ rfl (by kernel_rfl) rfl (Nat.le_of_ble_eq_true rfl) rfl rfl fun S' hL hn' => ?_ | refine hL.st 6 _ rfl (by kernel_rfl) rfl (Nat.le_of_ble_eq_true rfl) rfl rfl fun S' hL hn' => ?_ | refine hL.st 7 _ rfl (by kernel_rfl) rfl (Nat.le_of_ble_eq_true rfl) rfl rfl fun S' hL hn' => ?_) | (first | refine hL.has 0 rfl ?_ | refine hL.has 1 rfl ?_ | refine hL.has 2 rfl ?_ | refine hL.has 3 rfl ?_ | refine hL.has 4 rfl ?_ | refine hL.has 5 rfl ?_ | refine hL.has 6 rfl ?_ | refine hL.has 7 rfl ?_) | (first | refine hL.upd 0 rfl fun S' hL hn' => ?_ | refine hL.upd 1 rfl fun S' hL hn' => ?_ | refine hL.upd 2 rfl fun S' hL hn' => ?_ | refine hL.upd 3 rfl fun S' hL hn' => ?_ | refine hL.upd 4 rfl fun S' hL hn' => ?_ | refine hL.upd 5 rfl fun S' hL hn' => ?_ | refine hL.upd 6 rfl fun S' hL hn' => ?_ | refine hL.upd 7 rfl fun S' hL hn' => ?_))
      exact ⟨fun _ => by rw [hsucc, updO, if_neg h1, if_neg h2, if_neg h3, if_neg h4, if_neg h5, if_neg h6, if_neg h7]; exact hL, fun h => by cases h⟩
  · intro S' hL
    refine .inl ?_
    change Hld noB S S' (boxesO b14 b13 c1 b10 b5 b2 b1 (L .ready none) b (kindP x0) (bothP x2 x3) (ofP x0 x1 x2 x3)) at hL
    generalize ofP x0 x1 x2 x3 = y at hL hk
    repeat (first | refine ptrW_of ?_ | refine sameV_of ?_ | refine hL.new fun bk S' hL hbk hnk => ?_ | (first | refine hL.ld 0 rfl (by kernel_rfl) _ rfl ?_ | refine hL.ld 1 rfl (by kernel_rfl) _ rfl ?_ | refine hL.ld 2 rfl (by kernel_rfl) _ rfl ?_ | refine hL.ld 3 rfl (by kernel_rfl) _ rfl ?_ | refine hL.ld 4 rfl (by kernel_rfl) _ rfl ?_ | refine hL.ld 5 rfl (by kernel_rfl) _ rfl ?_ | refine hL.ld 6 rfl (by kernel_rfl) _ rfl ?_ | refine hL.ld 7 rfl (by kernel_rfl) _ rfl ?_ | refine hL.lda 0 rfl (by kernel_rfl) _ rfl ?_ | refine hL.lda 1 rfl (by kernel_rfl) _ rfl ?_ | refine hL.lda 2 rfl (by kernel_rfl) _ rfl ?_ | refine hL.lda 3 rfl (by kernel_rfl) _ rfl ?_ | refine hL.lda 4 rfl (by kernel_rfl) _ rfl ?_ | refine hL.lda 5 rfl (by kernel_rfl) _ rfl ?_ | refine hL.lda 6 rfl (by kernel_rfl) _ rfl ?_ | refine hL.lda 7 rfl (by kernel_rfl) _ rfl ?_) | (first | refine hL.st 0 _ rfl (by kernel_rfl) rfl (Nat.le_of_ble_eq_true rfl) rfl rfl fun S' hL hn' => ?_ | refine hL.st 1 _ rfl (by kernel_rfl) rfl (Nat.le_of_ble_eq_true rfl) rfl rfl fun S' hL hn' => ?_ | refine hL.st 2 _ rfl (by kernel_rfl) rfl (Nat.le_of_ble_eq_true rfl) rfl rfl fun S' hL hn' => ?_ | refine hL.st 3 _ rfl (by kernel_rfl) rfl (Nat.le_of_ble_eq_true rfl) rfl rfl fun S' hL hn' => ?_ | refine hL.st 4 _ rfl (by kernel_rfl) rfl (Nat.le_of_ble_eq_true rfl) rfl rfl fun S' hL hn' => ?_ | refine hL.st 5 _ rfl (by kernel_rfl) rfl (Nat.le_of_ble_eq_true rfl) rfl rfl fun S' hL hn' => ?_ | refine hL.st 6 _ rfl (by kernel_rfl) rfl (Nat.le_of_ble_eq_true rfl) rfl rfl fun S' hL hn' => ?_ | refine hL.st 7 _ rfl (by kernel_rfl) rfl (Nat.le_of_ble_eq_true rfl) rfl rfl fun S' hL hn' => ?_) | (first | refine hL.has 0 rfl ?_ | refine hL.has 1 rfl ?_ | refine hL.has 2 rfl ?_ | refine hL.has 3 rfl ?_ | refine hL.has 4 rfl ?_ | refine hL.has 5 rfl ?_ | refine hL.has 6 rfl ?_ | refine hL.has 7 rfl ?_) | (first | refine hL.upd 0 rfl fun S' hL hn' => ?_ | refine hL.upd 1 rfl fun S' hL hn' => ?_ | refine hL.upd 2 rfl fun S' hL hn' => ?_ | refine hL.upd 3 rfl fun S' hL hn' => ?_ | refine hL.upd 4 rfl fun S' hL hn' => ?_ | refine hL.upd 5 rfl fun S' hL hn' => ?_ | refine hL.upd 6 rfl fun S' hL hn' => ?_ | refine hL.upd 7 rfl fun S' hL hn' => ?_))
    exact hk _ hL.mod
theorem s116 {y : Value} {c1 c2 : Nat} {S : St} {b : Sl} {l : List Int} (hlc : b.len ≤ b.cap) (hci : b.cap < inex) (hlen : l.length ≤ 4000) (I : Nat → St → Prop) {Q : St → Prop}
    (hm : ∀ i S', I i S' → At S' c1 (.cells [.slice b.a b.len b.cap] none false none) ∧ At S' c2 (.cells [.int .i64 4] none false none) ∧ Bs S' b l) (h0 : I 0 S)
    (hstep : ∀ i S' s', 4 * i < l.length → I i S' → (∀ S'', Bs S'' b l → Bs S'' s' ((l.drop (4 * i)).take (min 4 (l.length - 4 * i)))) → evY E0 tB y [.slice s'.a s'.len s'.cap] S' fun t S'' => (t = true → I (i + 1) S'') ∧ (t = false → Q S''))
    (hend : ∀ i S', l.length ≤ 4 * i → I i S' → Q S') : WC E0 116 [y, .pointer (some ⟨c1, 0, none⟩), .pointer (some ⟨c2, 0, none⟩)] S fun _ S' => Q S' := by
  refine w116 y c1 c2 ?_
  unfold c116
  refine loopW_ind (fun q (x : Int) S' => ∃ i : Nat, x = ((4 * i : Nat) : Int) ∧ 4 * i ≤ l.length + 3 ∧ q = l.length + 4 - 4 * i ∧ I i S') (m := l.length + 4) ⟨0, rfl, by omega, rfl, h0⟩ ?_
  rintro P q x S1 ⟨i, rfl, h1, rfl, hi⟩ hP
  obtain ⟨a1, a2, ab⟩ := hm i S1 hi
  have hbl := ab.len
  refine evV_of b (load_one a1 (by kernel_rfl)) ?_
  refine ifW_dec (fun hlt => ?_) fun hlt => ?_
  · have hlt' : 4 * i < l.length := by omega
    obtain ⟨bb, o, cs, more, ro, fz, ea, eat, _⟩ := ab.mem (by rintro rfl; simp at hlt')
    refine evV_of 4 (load_one a2 (by kernel_rfl)) ?_
    refine evV_of b (load_one a1 (by kernel_rfl)) ?_
    refine evV_of ⟨some ⟨bb, cond (Nat.beq b.cap (4 * i)) o (o + 4 * i * 1), none⟩, b.len - 4 * i, b.cap - 4 * i⟩ (sliceD_some (lo := 4 * i) (hi := b.len) (mx := b.cap) und83 size5 ea hci (natOf_int (k := .i64)) rfl rfl (by omega) hlc (Nat.le_refl _)) ?_
    refine evV_of b (load_one a1 (by kernel_rfl)) ?_
    dsimp only
    rw [minmax_min]
    have e : wrapI .i64 (((4 * i : Nat) : Int) + min 4 ((b.len - 4 * i : Nat) : Int)) = ((4 * i + min 4 (l.length - 4 * i) : Nat) : Int) := by
      rw [wrap_i64 (by omega) (by omega)]; omega
    rw [e]
    generalize hmx : 4 * i + min 4 (l.length - 4 * i) = mx
    have hd : min 4 (l.length - 4 * i) = mx - 4 * i := by omega
    refine evV_of ⟨some ⟨bb, cond (Nat.beq mx (4 * i)) o (o + 4 * i * 1), none⟩, mx - 4 * i, mx - 4 * i⟩ (sliceD_some (lo := 4 * i) (hi := mx) (mx := mx) und83 size5 ea hci (natOf_int (k := .i64)) (natOf_int (k := .i64)) (natOf_int (k := .i64)) (by omega) (Nat.le_refl _) (by omega)) ?_
    have hs := fun S'' (ab : Bs S'' b l) => ab.part (sz := 1) (fun _ => rfl) (lo := 4 * i) (hi := mx) (c := mx - 4 * i) (o' := cond (Nat.beq mx (4 * i)) o (o + 4 * i * 1)) ea (by omega) (by omega) (fun hne => by rw [PM.beq_f hne]; rfl)
    rw [← hd] at hs ⊢
    refine WV.mono (hstep i S1 _ hlt' hi hs) ?_
    rintro v S2 ⟨t, rfl, ht1, ht2⟩
    refine ⟨t, rfl, ifW_of (fun h => ht2 (by simpa using h)) fun h => ?_⟩
    have hi2 := ht1 (by simpa using h)
    obtain ⟨a1, a2, ab⟩ := hm (i + 1) S2 hi2
    refine evV_of 4 (load_one a2 (by kernel_rfl)) ?_
    have e : wrapI .i64 (((4 * i : Nat) : Int) + 4) = ((4 * (i + 1) : Nat) : Int) := by rw [wrap_i64 (by omega) (by omega)]; omega
    rw [e]
    exact hP _ _ _ (by omega) ⟨i + 1, rfl, by omega, rfl, hi2⟩
  · exact hend i S1 (by omega) hi
end
end Go.Proofs.YtabbbfdlgmoniaaDoor

/- Orders: the script of any bytes is written and read as it was. -/
namespace Go.Proofs.YtabbbfdlgmoniaaDoor
open Go Go.Proofs.YtabbbfdlgmoniaaDoor.D
set_option linter.unusedVariables false
set_option linter.unusedSimpArgs false
noncomputable section

abbrev boxesN (b3 b2 cN cS b1 : Nat) (st : DObj) (b s : Sl) : List (Nat × DObj) :=
  [(b3, st), (b2, .deferred), (cN, .cells [.int .i64 4] none false none), (cS, .cells [.slice b.a b.len b.cap] none false none), (b1, .cells [.slice s.a s.len s.cap] none false none)]
theorem s38 {b : Sl} {l : List Int} {S : St} {k : Value → St → Prop} (hb : Bs S b l) (hlc : b.len ≤ b.cap) (hci : b.cap < inex) (hlen : l.length ≤ 4000)
    (hk : ∀ s' S', Ext S S' → GrX cellsO 6 0 S' s' (ordP l (l.length / 4)) → (∀ c, slO s' c → S.next ≤ c) → k (.slice s'.a s'.len s'.cap) S') : WC E0 38 [.slice b.a b.len b.cap] S k := by
  refine w38 b ?_
  unfold c38
  have h0 : GrX cellsO 6 0 S ⟨none, 0, 0⟩ [] := .inl ⟨rfl, rfl⟩
  have hL := Cx.start (S := S) noB h0 grX_frm (fun c hc => grX_lt h0 hc)
  refine hL.new fun b1 S1 hL _ _ => ?_
  refine evC_of (w81 b 4 ?_)
  unfold c81
  refine hL.new fun cS S2 hL _ _ => ?_
  refine hL.new fun cN S3 hL _ _ => ?_
  refine hL.ld 0 rfl (by kernel_rfl) (4 : Int) rfl ?_
  refine ifW_neg (by omega) ⟨_, rfl, ?_⟩
  refine hL.new fun b2 S4 hL _ _ => ?_
  rintro b3 S5 L rfl rfl hLL hR
  have hL := hL.record (o := L .ready none)
  generalize (S4.alloc (L .ready none)).2 = S5 at hL ⊢
  generalize hb5 : S4.next = b3 at hL hR ⊢
  refine WG_of rfl (s116 (b := b) (l := l) hlc hci hlen (fun i S' => ∃ s, Cx noB S S' (boxesN b3 b2 cN cS b1 (L .ready none) b s) (slO s) (fun S => GrX cellsO 6 0 S s (ordP l (min i (l.length / 4)))) ∧ ∀ c, slO s c → S.next ≤ c) ?_ ?_ ?_ ?_)
  · rintro i S' ⟨s, hL, _⟩
    exact ⟨hL.at 3 rfl, hL.at 2 rfl, Ext.slOf hL.mod hb⟩
  · refine ⟨⟨none, 0, 0⟩, ?_, fun c hc => by obtain ⟨o, hc⟩ := hc; cases hc⟩
    rw [show min 0 (l.length / 4) = 0 from by omega]
    exact hL
  · rintro i S' s1 hi ⟨s, hL, hs0⟩ hs
    refine hR s1 S' _ ?_
    refine hL.has 0 rfl ?_
    refine hL.has 0 rfl ?_
    refine hL.upd 0 rfl fun S6 hL _ => ?_
    intro k3 hk3
    have hl1 := (hs S6 (Ext.slOf hL.mod hb)).len
    have hgl := GrX.len hL.p
    rw [ordP_len] at hgl
    by_cases hc : 4 * i + 4 ≤ l.length
    · have hin : min i (l.length / 4) = i := by omega
      rw [hin] at hL hgl
      refine ifW_pos (by rw [hl1]; simp; omega) ?_
      refine hL.ld 4 rfl (by kernel_rfl) s rfl ?_
      refine hk3 _ _ ?_
      refine ifW_of (fun _ => ?_) (fun hf => absurd (show ltI (s.len : Int) 10000 = true from by rw [ltI_eq, hgl]; exact decide_eq_true (by omega)) (by rw [hf]; exact Bool.false_ne_true))
      refine hL.ld 4 rfl (by kernel_rfl) s rfl ?_
      have hs8 := hs S6 (Ext.slOf hL.mod hb)
      rw [show min 4 (l.length - 4 * i) = 4 from by omega] at hs8
      have hsucc : ordP l (min (i + 1) (l.length / 4)) = ordP l i ++ [fourP ((l.drop (4 * i)).take 4)] := by rw [show min (i + 1) (l.length / 4) = i + 1 from by omega]; exact ordP_succ
      have hcl : ((l.drop (4 * i)).take 4).length = 4 := by simp; omega
      generalize (l.drop (4 * i)).take 4 = c at hs8 hcl hsucc
      match c, hcl with
      | [x0, x1, x2, x3], _ =>
      refine evC_of (s82 hs8 fun S9 e9 => ⟨_, rfl, ?_⟩)
      have hL := hL.ext e9
      have hsucc : ordP l (min (i + 1) (l.length / 4)) = ordP l i ++ [ofP x0 x1 x2 x3] := hsucc
      generalize ofP x0 x1 x2 x3 = x at hsucc ⊢
      refine hL.ld 4 rfl (by kernel_rfl) s rfl ?_
      refine sameV_of ?_
      refine hL.new fun b4 S12 hL _ _ => ?_
      refine hL.ld 5 rfl (by kernel_rfl) s rfl ?_
      refine sameV_of ?_
      have hnx := hL.mod.next
      refine app_ord (s := s) hL.p (hL.at 0 rfl) (by rw [ordP_len]; omega) fun s2 S14 g' m hs' => ?_
      have hL := hL.op m (fun _ h => h) (fun c hc hlt => by have := hs0 c hc; omega) g' grX_frm hs' (fun c hc => grX_lt g' hc)
      refine hL.st 5 _ rfl (by kernel_rfl) rfl (Nat.le_of_ble_eq_true rfl) rfl rfl fun S15 hL _ => ?_
      refine hL.has 1 rfl ?_
      refine hL.upd 1 rfl fun S16 hL _ => ?_
      refine ⟨fun _ => ⟨s2, ?_, fun c hc => (hs' c hc).elim (hs0 c) fun h => by omega⟩, fun h => by cases h⟩
      rw [hsucc]
      exact hL.tl 1
    · refine ifW_neg (by rw [hl1]; simp; omega) ?_
      refine hk3 _ _ ?_
      refine ifW_of (fun h => by cases h) fun _ => ?_
      refine hL.has 0 rfl ?_
      refine hL.upd 0 rfl fun S7 hL _ => ?_
      refine ⟨fun _ => ⟨s, ?_, hs0⟩, fun h => by cases h⟩
      rw [show min (i + 1) (l.length / 4) = min i (l.length / 4) from by omega]
      exact hL
  · rintro i S' hi ⟨s, hL, hs0⟩
    refine .inl ?_
    rw [show min i (l.length / 4) = l.length / 4 from by omega] at hL
    refine hL.has 0 rfl ?_
    refine hL.upd 0 rfl fun S7 hL _ => ?_
    refine hL.ld 4 rfl (by kernel_rfl) s rfl ?_
    refine hL.has 1 rfl ?_
    refine hL.upd 1 rfl fun S8 hL _ => ?_
    exact hk s S8 hL.mod hL.p hs0
/-! ### What bytes say may be -/
theorem of_kind {x0 x1 x2 x3 : Int} (h0 : 0 ≤ x0 ∧ x0 < 256) (h1 : 0 ≤ x1 ∧ x1 < 256) (h2 : 0 ≤ x2 ∧ x2 < 256) (h3 : 0 ≤ x3 ∧ x3 < 256) : (ofP x0 x1 x2 x3).1 = kindP x0 := by
  rw [ref_eq h0 h1 h2 h3]
  have hk := kind_range h0
  generalize kindP x0 = K at hk
  have hcase : K = 1 ∨ K = 2 ∨ K = 3 ∨ K = 4 ∨ K = 5 ∨ K = 6 ∨ K = 7 ∨ K = 8 ∨ K = 9 := by omega
  rcases hcase with rfl | rfl | rfl | rfl | rfl | rfl | rfl | rfl | rfl <;> simp [refA, refB]
theorem both_n {x2 x3 : Int} (h2 : 0 ≤ x2 ∧ x2 < 256) (h3 : 0 ≤ x3 ∧ x3 < 256) : bothR x2 x3 = x2 * 256 + x3 := by
  unfold bothR
  rw [wrap_i64 (n := x2) (by omega) (by omega), wrap_i64 (n := x3) (by omega) (by omega), wrap_i64 (n := x2 * 256) (by omega) (by omega), wrap_i64 (by omega) (by omega)]
theorem of_may {x0 x1 x2 x3 : Int} (h0 : 0 ≤ x0 ∧ x0 < 256) (h1 : 0 ≤ x1 ∧ x1 < 256) (h2 : 0 ≤ x2 ∧ x2 < 256) (h3 : 0 ≤ x3 ∧ x3 < 256) : mayP (ofP x0 x1 x2 x3) ∧ OrdW (ofP x0 x1 x2 x3) := by
  rw [ref_eq h0 h1 h2 h3]
  have hk := kind_range h0
  generalize kindP x0 = K at hk
  have t1 : Int.tmod x1 64 = x1 % 64 := Int.tmod_eq_emod_of_nonneg h1.1
  have t2 : Int.tmod x2 16 = x2 % 16 := Int.tmod_eq_emod_of_nonneg h2.1
  have t3 : Int.tmod (x2 * 256 + x3) 1024 = (x2 * 256 + x3) % 1024 := Int.tmod_eq_emod_of_nonneg (by omega)
  have w1 : wrapI .i64 x1 = x1 := wrap_i64 (by omega) (by omega)
  have w2 : wrapI .i64 x2 = x2 := wrap_i64 (by omega) (by omega)
  have w3 : wrapI .i64 x3 = x3 := wrap_i64 (by omega) (by omega)
  have w4 : wrapI .i64 (x1 + 1) = x1 + 1 := wrap_i64 (by omega) (by omega)
  have w5 : wrapI .u64 (x2 * 256 + x3) = x2 * 256 + x3 := wrap_u64 (by omega) (by omega)
  have w6 : wrapI .i64 (x2 % 16 - 1) = x2 % 16 - 1 := wrap_i64 (by omega) (by omega)
  have hcase : K = 1 ∨ K = 2 ∨ K = 3 ∨ K = 4 ∨ K = 5 ∨ K = 6 ∨ K = 7 ∨ K = 8 ∨ K = 9 := by omega
  have hs : (if x3 = 0 then (1 : Int) else x3) = max 1 x3 := by split <;> omega
  have hb := both_n h2 h3
  have r1 : 0 ≤ x1 % 64 ∧ x1 % 64 ≤ 63 := by omega
  have r2 : 0 ≤ x2 % 16 ∧ x2 % 16 ≤ 15 := by omega
  have r3 : 0 ≤ (x2 * 256 + x3) % 1024 ∧ (x2 * 256 + x3) % 1024 ≤ 1023 := by omega
  have r4 : 0 ≤ x2 * 256 + x3 ∧ x2 * 256 + x3 < 65536 := by omega
  have r5 : 1 ≤ max 1 x3 ∧ max 1 x3 ≤ 255 := by omega
  unfold refA refB
  rw [w1, w2, w3, w4, hb, w5, t1, t2, t3, w6, hs]
  generalize x1 % 64 = a1 at r1
  generalize x2 % 16 = a2 at r2
  generalize (x2 * 256 + x3) % 1024 = a3 at r3
  generalize x2 * 256 + x3 = a4 at r4
  generalize max 1 x3 = a5 at r5
  have ow : ∀ k r n a w d : Int, (0 ≤ k ∧ k ≤ 9) → (0 ≤ r ∧ r ≤ 63) → (-1 ≤ n ∧ n ≤ 1023) → (0 ≤ a ∧ a ≤ 255) → (0 ≤ w ∧ w ≤ 255) → (0 ≤ d ∧ d < 65536) → OrdW (k, r, n, a, w, d) := by
    intro k r n a w d hk hr hn ha hw hd
    constructor <;> (try unfold i64) <;> dsimp only <;> omega
  rcases hcase with rfl | rfl | rfl | rfl | rfl | rfl | rfl | rfl | rfl
  · change mayP (1, a1, 0, 0, 0, a4) ∧ OrdW (1, a1, 0, 0, 0, a4)
    exact ⟨.inl ⟨rfl, r1.1, r1.2, rfl, rfl, rfl⟩, ow _ _ _ _ _ _ (by decide) r1 (by decide) (by decide) (by decide) r4⟩
  · change mayP (2, 0, x1 + 1, 0, 0, 0) ∧ OrdW (2, 0, x1 + 1, 0, 0, 0)
    exact ⟨.inr (.inl ⟨.inl rfl, by show 1 ≤ x1 + 1; omega, rfl, rfl, rfl, rfl⟩), ow _ _ _ _ _ _ (by decide) (by decide) (by omega) (by decide) (by decide) (by decide)⟩
  · change mayP (3, 0, x1 + 1, 0, 0, 0) ∧ OrdW (3, 0, x1 + 1, 0, 0, 0)
    exact ⟨.inr (.inl ⟨.inr (.inl rfl), by show 1 ≤ x1 + 1; omega, rfl, rfl, rfl, rfl⟩), ow _ _ _ _ _ _ (by decide) (by decide) (by omega) (by decide) (by decide) (by decide)⟩
  · change mayP (4, 0, x1 + 1, 0, 0, 0) ∧ OrdW (4, 0, x1 + 1, 0, 0, 0)
    exact ⟨.inr (.inl ⟨.inr (.inr rfl), by show 1 ≤ x1 + 1; omega, rfl, rfl, rfl, rfl⟩), ow _ _ _ _ _ _ (by decide) (by decide) (by omega) (by decide) (by decide) (by decide)⟩
  · change mayP (5, 0, x1 + 1, x2, a5, 0) ∧ OrdW (5, 0, x1 + 1, x2, a5, 0)
    exact ⟨.inr (.inr (.inl ⟨rfl, by show 1 ≤ x1 + 1; omega, h2.1, r5.1, r5.2, rfl, rfl⟩)), ow _ _ _ _ _ _ (by decide) (by decide) (by omega) (by omega) (by omega) (by decide)⟩
  · change mayP (6, a1, 0, 0, 0, 0) ∧ OrdW (6, a1, 0, 0, 0, 0)
    exact ⟨.inr (.inr (.inr (.inl ⟨rfl, r1.1, r1.2, rfl, rfl, rfl, rfl⟩))), ow _ _ _ _ _ _ (by decide) r1 (by decide) (by decide) (by decide) (by decide)⟩
  · change mayP (7, a1, a3, 0, 0, 0) ∧ OrdW (7, a1, a3, 0, 0, 0)
    exact ⟨.inr (.inr (.inr (.inr (.inl ⟨rfl, r1.1, r1.2, rfl, rfl, rfl, r3.1, r3.2⟩)))), ow _ _ _ _ _ _ (by decide) r1 (by omega) (by decide) (by decide) (by decide)⟩
  · change mayP (8, a1, a2, 0, 0, 0) ∧ OrdW (8, a1, a2, 0, 0, 0)
    exact ⟨.inr (.inr (.inr (.inr (.inr (.inl ⟨rfl, r1.1, r1.2, rfl, rfl, rfl, r2.1, by show a2 ≤ 1000; omega⟩))))), ow _ _ _ _ _ _ (by decide) r1 (by omega) (by decide) (by decide) (by decide)⟩
  · change mayP (9, a1, a2 - 1, 0, 0, 0) ∧ OrdW (9, a1, a2 - 1, 0, 0, 0)
    exact ⟨.inr (.inr (.inr (.inr (.inr (.inr ⟨rfl, r1.1, r1.2, rfl, rfl, rfl, by show -1 ≤ a2 - 1; omega, by show a2 - 1 ≤ 1000; omega⟩))))), ow _ _ _ _ _ _ (by decide) r1 (by omega) (by decide) (by decide) (by decide)⟩
theorem ord_at {l : List Int} {n : Nat} (hn : n < (ordP l (l.length / 4)).length) : ∃ h : 4 * n + 3 < l.length, (ordP l (l.length / 4))[n] = ofP l[4 * n] l[4 * n + 1] l[4 * n + 2] l[4 * n + 3] := by
  have hn' := hn
  rw [ordP_len] at hn'
  refine ⟨by omega, ?_⟩
  rw [← four_at (by omega)]
  simp [ordP]
theorem ord_all {l : List Int} (hw : ∀ x ∈ l, 0 ≤ x ∧ x < 256) : ∀ x ∈ ordP l (l.length / 4), mayP x ∧ OrdW x := by
  intro x hx
  obtain ⟨n, hn, rfl⟩ := List.getElem_of_mem hx
  obtain ⟨h, e⟩ := ord_at hn
  rw [e]
  exact of_may (hw _ (List.getElem_mem _)) (hw _ (List.getElem_mem _)) (hw _ (List.getElem_mem _)) (hw _ (List.getElem_mem _))
/-- The law: any bytes. -/
theorem s10 {b : Sl} {l : List Int} {S : St} (g : Gl S) (hb : Bs S b l) (hw : ∀ x ∈ l, 0 ≤ x ∧ x < 256) (hlc : b.len ≤ b.cap) (hci : b.cap < inex) : WC E0 10 [.slice b.a b.len b.cap] S fun v _ => v = .bool true := by
  refine w10 b ?_
  unfold c10
  have hl := hb.len
  refine evC_of (s18 g fun S1 e1 => ⟨true, rfl, ?_⟩)
  refine ifW_dec (fun _ => rfl) fun hlt => ?_
  refine ifW_of (fun h => by cases h) fun _ => ?_
  refine evC_of (s38 (Ext.slOf e1 hb) hlc hci (by omega) fun s S2 e2 g2 h2 => ⟨s, rfl, ?_⟩)
  have e2 : Ext S S2 := e1.tr e2
  have hall := ord_all hw
  have hat := @ord_at l
  have hlo : (ordP l (l.length / 4)).length = l.length / 4 := ordP_len
  generalize ordP l (l.length / 4) = os at g2 hall hat hlo
  have hsl : SlOf cellsO 6 S2 s os := GrX.of (f := cellsO) (sz := 6) (fun _ => rfl) g2
  have hsn := hsl.len
  refine loopW_ind (fun q (n1 : Int) S' => ∃ n : Nat, n1 = n ∧ n ≤ os.length ∧ q = os.length - n ∧ Ext S2 S') (m := os.length) ⟨0, rfl, by omega, rfl, Mod.refl _ _⟩ ?_
  rintro P q n1 S3 ⟨n, rfl, hn, rfl, e3⟩ hP
  refine ifW_dec (fun hlt2 => ?_) fun hlt2 => ?_
  · have hn' : n < os.length := by omega
    refine SlOf.ord (Ext.slOf e3 hsl) hn' ?_
    obtain ⟨hmx, hwx⟩ := hall os[n] (List.getElem_mem hn')
    refine evC_of (s15 (g.ext (e2.tr e3)) fun S4 e4 => ⟨_, rfl, ?_⟩)
    have e4 : Ext S2 S4 := e3.tr e4
    have hc : chkE os[n] = 0 := if_pos hmx
    refine ifW_ndec (fun h => (h hc).elim) fun _ => ?_
    refine (Ext.slOf e4 hsl).idxL (f := cellsO) (sz := 6) (fun _ => rfl) hsl.len hn' fun bb o cs m ro fz ht _ hv => ?_
    refine ptrW_of ?_
    refine evV_of (ty := tI) os[n].1 ((load_one ht (by kernel_rfl)).trans (at_take hv (j := 0) (by omega))) ?_
    obtain ⟨h4, hx⟩ := hat hn'
    have hw4 : wrapI .i64 (4 * (n : Int)) = ((4 * n : Nat) : Int) := by rw [wrap_i64 (by omega) (by omega)]; omega
    rw [hw4]
    refine (Ext.slOf (e2.tr e4) hb).get1n (n := 4 * n) (g := u8V) inf5 agg5 (by omega) fun b7 o7 hld hlt7 => evV_of (ty := tU8) _ (hld _ rfl) ⟨rfl, ?_⟩
    have hk : os[n].1 = kindP l[4 * n] := by
      rw [hx]
      exact of_kind (hw _ (List.getElem_mem _)) (hw _ (List.getElem_mem _)) (hw _ (List.getElem_mem _)) (hw _ (List.getElem_mem _))
    refine ifW_ndec (fun h => (h hk).elim) fun _ => ?_
    rw [wrap_succ (by omega)]
    exact hP _ _ _ (by omega) ⟨n + 1, rfl, by omega, rfl, e4⟩
  · have hm : ∀ x ∈ os, mayP x := fun x hx => (hall x hx).1
    have hwo : ∀ x ∈ os, OrdW x := fun x hx => (hall x hx).2
    have ht : textP os = (textL os, 0) := if_pos ⟨by omega, hm⟩
    refine evC_of (s19 (g.ext (e2.tr e3)) (Ext.slOf e3 hsl) hwo fun S5 e5 => ⟨((textP os).1, (textP os).2), rfl, ?_⟩)
    rw [ht]
    have e5 : Ext S2 S5 := e3.tr e5
    have htl := textL_len hwo
    refine evC_of (s21 (g.ext (e2.tr e5)) (by show (textL os).length ≤ _; omega) fun sl S6 e6 g6 h6 => ⟨(sl, (parseP (textL os)).2.1, (parseP (textL os)).2.2), rfl, ?_⟩)
    rw [parse_text hm hwo (by omega)] at g6 ⊢
    have e6 : Ext S2 S6 := e5.tr e6
    refine ifW_of (fun _ => ?_) fun h => by cases h
    refine ifW_pos rfl ?_
    refine ifW_pos rfl ?_
    refine evC_of (s23 (Ext.slOf e6 hsl) (GrX.of (f := cellsO) (sz := 6) (fun _ => rfl) g6) (by show os.length ≤ _; omega) ⟨true, by simp; rfl, ?_⟩)
    refine ifW_of (fun _ => ?_) fun h => by cases h
    refine ⟨rfl, ?_⟩
    have hq : wrapI .i64 (Int.tdiv (b.len : Int) 4) = ((l.length / 4 : Nat) : Int) := by
      rw [hl, Int.tdiv_eq_ediv_of_nonneg (by omega), wrap_i64 (by omega) (by omega)]; omega
    rw [hq, hsn, hlo, eqI_eq]
    simp
end
end Go.Proofs.YtabbbfdlgmoniaaDoor
