/- Parts of the proof, put together. -/
import Derived.Test.YtabbbfdlgmoniaaDoorCA
import Derived.Test.YtabbbfdlgmoniaaDoorOF
/- The conditions of functions (printed by GenDen.lean). -/
namespace Go.Proofs.YtabbbfdlgmoniaaDoor
open Go Go.Proofs.YtabbbfdlgmoniaaDoor.D
set_option linter.unusedVariables false
noncomputable section

/-! 37 wagonway/wagonwaylaw23.wrong -/
noncomputable def h37 : Hn := .no
def c37 (s_0 : List UInt8) (S : St) (k : Value → St → Prop) : Prop :=
  evC E0 (TT.tup [Ty.agg G23, Ty.sc (Sc.int .i64)]) 13 [.string { data := List.toArray s_0 }] S fun (x1 : (Int × Int × Int × Int × Int × Int) × Int) (S1 : St) =>
    newW S1 (.cells [.int .i64 0, .int .i64 0, .int .i64 0, .int .i64 0, .int .i64 0, .int .u64 0] none false none) fun (b1 : Nat) (S2 : St) =>
      evS (storeV E0 S2 24 (.pointer (some ⟨b1, 0, none⟩)) (sv G23 x1.1)) fun (S3 : St) =>
        ifW (eqI x1.2 230)
          (evV (TT.one (Ty.agg G23)) (loadV E0 S3 24 (.pointer (some ⟨b1, 0, none⟩))) fun (x2 : Int × Int × Int × Int × Int × Int) =>
            eqW E0 S3 24 (sv G23 x2) (.agg #[.int .i64 0, .int .i64 0, .int .i64 0, .int .i64 0, .int .i64 0, .int .u64 0]) fun (t1 : Bool) =>
              k (.bool t1) S3)
          (k (.bool false) S3)
theorem w37 (s_0 : List UInt8) {S : St} {k : Value → St → Prop} (h : c37 s_0 S k) : WC E0 37 [.string ⟨s_0.toArray⟩] S k :=
  WC_den h37 rfl (by kernel_rfl) (by kernel_rfl : Tryd.f37.body = some (bodyOf Tryd.f37)) (by rw [show (denF E0 h37 Tryd.f37 (bodyOf Tryd.f37) [.string ⟨s_0.toArray⟩] S k) = c37 s_0 S k by kernel_rfl]; exact h)

/-! 9 wagonway/wagonwaylaw23.OrderNames -/
noncomputable def h9 : Hn := (.n .no (.n .no (.n (.n .no (.n (.n .no .no (some ⟨[14, 15], [(1, .sc .bool), (16, .sc (.int .i64))], false⟩)) .no none) none) (.n .no (.n .no .no (some ⟨[1], [(5, .sc .bool)], false⟩)) none) none) none) none)
def c9  (S : St) (k : Value → St → Prop) : Prop :=
  newW S
    (.cells
      [.string
          {
            data :=
              #[UInt8.ofNat 115, UInt8.ofNat 112, UInt8.ofNat 111, UInt8.ofNat 105, UInt8.ofNat 108, UInt8.ofNat 32, UInt8.ofNat 52, UInt8.ofNat 32, UInt8.ofNat 48, UInt8.ofNat 32, UInt8.ofNat 50, UInt8.ofNat 53,
                UInt8.ofNat 54] },
        .string { data := #[UInt8.ofNat 115, UInt8.ofNat 112, UInt8.ofNat 111, UInt8.ofNat 105, UInt8.ofNat 108, UInt8.ofNat 32, UInt8.ofNat 52, UInt8.ofNat 32, UInt8.ofNat 48, UInt8.ofNat 32, UInt8.ofNat 48] },
        .string { data := #[UInt8.ofNat 115, UInt8.ofNat 112, UInt8.ofNat 111, UInt8.ofNat 105, UInt8.ofNat 108, UInt8.ofNat 32, UInt8.ofNat 52, UInt8.ofNat 32, UInt8.ofNat 48] },
        .string { data := #[UInt8.ofNat 103, UInt8.ofNat 111, UInt8.ofNat 97, UInt8.ofNat 108, UInt8.ofNat 32, UInt8.ofNat 54, UInt8.ofNat 52, UInt8.ofNat 32, UInt8.ofNat 48] },
        .string { data := #[UInt8.ofNat 103, UInt8.ofNat 111, UInt8.ofNat 97, UInt8.ofNat 108, UInt8.ofNat 32, UInt8.ofNat 49, UInt8.ofNat 32, UInt8.ofNat 49, UInt8.ofNat 48, UInt8.ofNat 50, UInt8.ofNat 52] },
        .string { data := #[UInt8.ofNat 116, UInt8.ofNat 105, UInt8.ofNat 99, UInt8.ofNat 107, UInt8.ofNat 32, UInt8.ofNat 48, UInt8.ofNat 49] },
        .string { data := #[UInt8.ofNat 116, UInt8.ofNat 105, UInt8.ofNat 99, UInt8.ofNat 107] },
        .string { data := #[UInt8.ofNat 116, UInt8.ofNat 105, UInt8.ofNat 99, UInt8.ofNat 107, UInt8.ofNat 32, UInt8.ofNat 49, UInt8.ofNat 32, UInt8.ofNat 50] },
        .string { data := #[UInt8.ofNat 100, UInt8.ofNat 114, UInt8.ofNat 111, UInt8.ofNat 112, UInt8.ofNat 32, UInt8.ofNat 48] },
        .string
          { data := #[UInt8.ofNat 99, UInt8.ofNat 114, UInt8.ofNat 97, UInt8.ofNat 115, UInt8.ofNat 104, UInt8.ofNat 32, UInt8.ofNat 49, UInt8.ofNat 32, UInt8.ofNat 49, UInt8.ofNat 48, UInt8.ofNat 48, UInt8.ofNat 49] },
        .string { data := #[UInt8.ofNat 119, UInt8.ofNat 97, UInt8.ofNat 107, UInt8.ofNat 101, UInt8.ofNat 32, UInt8.ofNat 49, UInt8.ofNat 32, UInt8.ofNat 45, UInt8.ofNat 49] },
        .string { data := #[UInt8.ofNat 119, UInt8.ofNat 97, UInt8.ofNat 107, UInt8.ofNat 101, UInt8.ofNat 32, UInt8.ofNat 49, UInt8.ofNat 32, UInt8.ofNat 65, UInt8.ofNat 76, UInt8.ofNat 76] },
        .string { data := #[] }, .string { data := #[UInt8.ofNat 32, UInt8.ofNat 116, UInt8.ofNat 105, UInt8.ofNat 99, UInt8.ofNat 107, UInt8.ofNat 32, UInt8.ofNat 49] },
        .string { data := #[UInt8.ofNat 102, UInt8.ofNat 108, UInt8.ofNat 121, UInt8.ofNat 32, UInt8.ofNat 49] },
        .string
          {
            data :=
              #[UInt8.ofNat 115, UInt8.ofNat 116, UInt8.ofNat 101, UInt8.ofNat 112, UInt8.ofNat 32, UInt8.ofNat 49, UInt8.ofNat 32, UInt8.ofNat 49, UInt8.ofNat 56, UInt8.ofNat 52, UInt8.ofNat 52, UInt8.ofNat 54,
                UInt8.ofNat 55, UInt8.ofNat 52, UInt8.ofNat 52, UInt8.ofNat 48, UInt8.ofNat 55, UInt8.ofNat 51, UInt8.ofNat 55, UInt8.ofNat 48, UInt8.ofNat 57, UInt8.ofNat 53, UInt8.ofNat 53, UInt8.ofNat 49,
                UInt8.ofNat 54, UInt8.ofNat 49, UInt8.ofNat 54] },
        .string { data := #[UInt8.ofNat 116, UInt8.ofNat 105, UInt8.ofNat 99, UInt8.ofNat 107, UInt8.ofNat 32, UInt8.ofNat 49, UInt8.ofNat 32] }]
      none false none)
    fun (b1 : Nat) (S1 : St) =>
    loopW
      (fun (k1 : Bool × Int → St → Prop) (x1 : Bool × Int) (S2 : St) =>
        ifW (ltI x1.2 (↑17 : Int))
          (idxW (some ⟨b1, 0, none⟩) 17 x1.2 fun (b2 b3 : Nat) =>
            evV tT (loadV E0 S2 9 (.pointer (some ⟨b2, b3 + Int.toNat x1.2 * 1, none⟩))) fun (l1 : List UInt8) =>
              ifW x1.1 (evC E0 tB 37 [.string { data := List.toArray l1 }] S2 fun (t1 : Bool) (S3 : St) => k1 (t1, wrapI .i64 (x1.2 + 1)) S3) (k1 (false, wrapI .i64 (x1.2 + 1)) S2))
          (newW S2
            (.cells
              [.int .u8 4, .int .u8 2, .int .u8 5, .int .u8 0, .int .u8 6, .int .u8 1, .int .u8 3, .int .u8 232,
                .int .u8 9]
              none false none)
            fun (b4 : Nat) (S4 : St) =>
            evC E0 tS 38 [.slice (some ⟨b4, 0, none⟩) 9 9] S4 fun (s1 : Sl) (S5 : St) =>
              joinW
                (fun (t2 : Bool) (S6 : St) =>
                  evC E0 (TT.tup [Ty.sc Sc.sl, Ty.sc (Sc.int .i64), Ty.sc (Sc.int .i64)]) 21
                    [.string
                        {
                          data :=
                            #[UInt8.ofNat 116, UInt8.ofNat 105, UInt8.ofNat 99, UInt8.ofNat 107, UInt8.ofNat 32, UInt8.ofNat 49, UInt8.ofNat 10, UInt8.ofNat 100, UInt8.ofNat 114, UInt8.ofNat 111, UInt8.ofNat 112,
                              UInt8.ofNat 32, UInt8.ofNat 48, UInt8.ofNat 10] }]
                    S6 fun (x2 : Sl × Int × Int) (S7 : St) =>
                    evC E0 (TT.tup [Ty.sc Sc.sl, Ty.sc (Sc.int .i64), Ty.sc (Sc.int .i64)]) 21
                      [.string { data := #[UInt8.ofNat 116, UInt8.ofNat 105, UInt8.ofNat 99, UInt8.ofNat 107, UInt8.ofNat 32, UInt8.ofNat 49] }] S7 fun (x3 : Sl × Int × Int) (S8 : St) =>
                      evP tS (makeSliceD E0 S8 39 (.int .i64 1) (.int .i64 1)) fun (s2 : Sl) (S9 : St) =>
                        evC E0 (TT.tup [Ty.sc Sc.str, Ty.sc (Sc.int .i64)]) 19 [.slice s2.a s2.len s2.cap] S9 fun (x4 : List UInt8 × Int) (S10 : St) =>
                          evC E0 tB 18 [] S10 fun (t3 : Bool) (S11 : St) =>
                            ifW t3
                              (ifW x1.1
                                (ifW t2
                                  (ifW (eqI (↑x2.1.len : Int) 0)
                                    (ifW (eqI x2.2.1 2)
                                      (ifW (eqI x2.2.2 230)
                                        (ifW (eqI x3.2.1 1)
                                          (ifW (eqI x3.2.2 230)
                                            (ifW (eqI x4.2 230)
                                              (evC E0 tT 16 [.int .i64 9] S11 fun (l2 : List UInt8) (S12 : St) =>
                                                ifW (l2 == [UInt8.ofNat 119, UInt8.ofNat 97, UInt8.ofNat 107, UInt8.ofNat 101])
                                                  (evC E0 tT 16 [.int .i64 10] S12 fun (l3 : List UInt8) (S13 : St) =>
                                                    ifW (l3 == []) (evC E0 tT 16 [.int .i64 0] S13 fun (l4 : List UInt8) (S14 : St) => k (.bool (l4 == [])) S14) (k (.bool false) S13))
                                                  (k (.bool false) S12))
                                              (k (.bool false) S11))
                                            (k (.bool false) S11))
                                          (k (.bool false) S11))
                                        (k (.bool false) S11))
                                      (k (.bool false) S11))
                                    (k (.bool false) S11))
                                  (k (.bool false) S11))
                                (k (.bool false) S11))
                              (k (.bool false) S11))
                fun (k2 : Bool → St → Prop) =>
                newW S5
                  (.cells
                    [.int .i64 5, .int .i64 0, .int .i64 3, .int .i64 5, .int .i64 1, .int .u64 0, .int .i64 7, .int .i64 1,
                      .int .i64 1000, .int .i64 0, .int .i64 0, .int .u64 0]
                    none false none)
                  fun (b5 : Nat) (S15 : St) =>
                  evC E0 tB 23 [.slice s1.a s1.len s1.cap, .slice (some ⟨b5, 0, none⟩) 2 2] S15 fun (t4 : Bool) (S16 : St) =>
                    ifW t4 (evC E0 tS 38 [.slice none 0 0] S16 fun (s3 : Sl) (S17 : St) => k2 (eqI (↑s3.len : Int) 0) S17) (k2 false S16)))
      (true, 0) S1
theorem w9  {S : St} {k : Value → St → Prop} (h : c9  S k) : WC E0 9 [] S k :=
  WC_den h9 rfl (by kernel_rfl) (by kernel_rfl : Tryd.f9.body = some (bodyOf Tryd.f9)) (by rw [show (denF E0 h9 Tryd.f9 (bodyOf Tryd.f9) [] S k) = c9  S k by kernel_rfl]; exact h)

end
end Go.Proofs.YtabbbfdlgmoniaaDoor

/- Orders: the chapter's examples; what may not be. -/
namespace Go.Proofs.YtabbbfdlgmoniaaDoor
open Go Go.Proofs.YtabbbfdlgmoniaaDoor.D
set_option linter.unusedVariables false
set_option linter.unusedSimpArgs false
noncomputable section

def badB (s : List UInt8) : Bool := !(decide (mayP (candB s)) && decide (lineL (candB s) = s))
theorem rd_bad {s : List UInt8} (h : badB s = true) : rdL s = (zeroO, 230) := by
  unfold rdL readP
  rw [if_neg]
  rintro ⟨h1, h2⟩
  unfold badB at h
  rw [decide_eq_true h1, decide_eq_true h2] at h
  cases h
/-- What is no order's line. -/
def w17s : List (List UInt8) :=
  [[115, 112, 111, 105, 108, 32, 52, 32, 48, 32, 50, 53, 54], [115, 112, 111, 105, 108, 32, 52, 32, 48, 32, 48], [115, 112, 111, 105, 108, 32, 52, 32, 48], [103, 111, 97, 108, 32, 54, 52, 32, 48],
   [103, 111, 97, 108, 32, 49, 32, 49, 48, 50, 52], [116, 105, 99, 107, 32, 48, 49], [116, 105, 99, 107], [116, 105, 99, 107, 32, 49, 32, 50], [100, 114, 111, 112, 32, 48],
   [99, 114, 97, 115, 104, 32, 49, 32, 49, 48, 48, 49], [119, 97, 107, 101, 32, 49, 32, 45, 49], [119, 97, 107, 101, 32, 49, 32, 65, 76, 76], [], [32, 116, 105, 99, 107, 32, 49], [102, 108, 121, 32, 49],
   [115, 116, 101, 112, 32, 49, 32, 49, 56, 52, 52, 54, 55, 52, 52, 48, 55, 51, 55, 48, 57, 53, 53, 49, 54, 49, 54], [116, 105, 99, 107, 32, 49, 32]]
theorem w17_bad : w17s.all badB = true := by kernel_rfl
theorem w17_len : w17s.length = 17 := rfl
theorem w17_small : (w17s.all fun w => Nat.ble w.length 100) = true := by kernel_rfl
theorem s37 {S : St} {l : List UInt8} {k : Value → St → Prop} (g : Gl S) (hlen : l.length ≤ 100000) (hb : badB l = true) (hk : ∀ S', Ext S S' → k (.bool true) S') : WC E0 37 [strV l] S k := by
  refine w37 l ?_
  unfold c37
  refine evC_of (s13 g hlen fun S1 e1 => ⟨((rdL l).1, (rdL l).2), by rw [read_same]; rfl, ?_⟩)
  have hL := (Hld.start noB S).ext e1
  rw [rd_bad hb]
  refine hL.new fun b1 S2 hL _ _ => ?_
  (first | refine hL.st 0 _ rfl (by kernel_rfl) rfl (Nat.le_of_ble_eq_true rfl) rfl rfl fun S3 hL hn3 => ?_ | refine hL.st 1 _ rfl (by kernel_rfl) rfl (Nat.le_of_ble_eq_true rfl) rfl rfl fun S3 hL hn3 => ?_ | refine hL.st 2 _ rfl (by kernel_rfl) rfl (Nat.le_of_ble_eq_true rfl) rfl rfl fun S3 hL hn3 => ?_ | refine hL.st 3 _ rfl (by kernel_rfl) rfl (Nat.le_of_ble_eq_true rfl) rfl rfl fun S3 hL hn3 => ?_ | refine hL.st 4 _ rfl (by kernel_rfl) rfl (Nat.le_of_ble_eq_true rfl) rfl rfl fun S3 hL hn3 => ?_ | refine hL.st 5 _ rfl (by kernel_rfl) rfl (Nat.le_of_ble_eq_true rfl) rfl rfl fun S3 hL hn3 => ?_ | refine hL.st 6 _ rfl (by kernel_rfl) rfl (Nat.le_of_ble_eq_true rfl) rfl rfl fun S3 hL hn3 => ?_ | refine hL.st 7 _ rfl (by kernel_rfl) rfl (Nat.le_of_ble_eq_true rfl) rfl rfl fun S3 hL hn3 => ?_)
  refine ifW_pos rfl ?_
  refine hL.lda 0 rfl (by kernel_rfl) zeroO rfl ?_
  refine ⟨true, (eqOrd _ zeroO zeroO).trans (by simp), ?_⟩
  exact hk _ hL.mod
theorem of_a : ofP 4 2 5 0 = (5, 0, 3, 5, 1, 0) := by
  rw [ref_eq (by decide) (by decide) (by decide) (by decide)]
  unfold kindP refA refB bothR
  simp only [wrapI_eq]
  rfl
theorem of_b : ofP 6 1 3 232 = (7, 1, 1000, 0, 0, 0) := by
  rw [ref_eq (by decide) (by decide) (by decide) (by decide)]
  unfold kindP refA refB bothR
  simp only [wrapI_eq]
  rfl
abbrev nine : List Int := [4, 2, 5, 0, 6, 1, 3, 232, 9]
abbrev twoO : List Ord := [(5, 0, 3, 5, 1, 0), (7, 1, 1000, 0, 0, 0)]
theorem ord_nine : ordP nine (nine.length / 4) = twoO := by
  show [ofP 4 2 5 0, ofP 6 1 3 232] = _
  rw [of_a, of_b]
theorem par_a : parseP [116, 105, 99, 107, 32, 49, 10, 100, 114, 111, 112, 32, 48, 10] = ([], 2, 230) := by kernel_rfl
theorem par_b : parseP [116, 105, 99, 107, 32, 49] = ([], 1, 230) := by kernel_rfl
theorem text_z : textP [zeroO] = ([], 230) := by
  unfold textP
  rw [if_neg]
  rintro ⟨_, h⟩
  exact absurd (h zeroO (by simp)) (by decide)
theorem zero_w : OrdW zeroO := by constructor <;> simp [i64, zeroO]
theorem mk_one (S : St) : makeSliceD E0 S 39 (.int .i64 1) (.int .i64 1) = some (.slice (some ⟨S.next, 0, none⟩) 1 1, (S.alloc (.cells (cellsO zeroO) none false none)).2) := by kernel_rfl
set_option maxRecDepth 100000 in
set_option maxHeartbeats 1000000 in
/-- The law: examples. -/
theorem s9 {S : St} (g : Gl S) : WC E0 9 [] S fun v _ => v = .bool true := by
  refine w9 ?_
  unfold c9
  refine newW_of fun b1 S1 hb1 ha1 e1 hn1 => ?_
  have h17 : SlOf strC 1 S1 ⟨some ⟨b1, 0, none⟩, 17, 17⟩ w17s := ⟨rfl, fun _ => ⟨b1, 0, _, _, _, _, rfl, ha1, rfl⟩⟩
  refine loopW_ind (fun q (x : Bool × Int) S' => ∃ n : Nat, x = (true, (n : Int)) ∧ n ≤ 17 ∧ q = 17 - n ∧ Ext S1 S') (m := 17) ⟨0, rfl, by omega, rfl, Mod.refl _ _⟩ ?_
  rintro P q x1 S2 ⟨n, rfl, hn, rfl, e2⟩ hP
  have e2' : Ext S S2 := e1.tr e2
  refine ifW_dec (fun hlt => ?_) fun hlt => ?_
  · have hn' : n < w17s.length := by
      have hlt : (n : Int) < 17 := hlt
      rw [w17_len]; omega
    refine SlOf.str (Ext.slOf e2 h17) hn' ?_
    have hb := List.all_eq_true.1 w17_bad w17s[n] (List.getElem_mem hn')
    have hs := Nat.le_of_ble_eq_true (List.all_eq_true.1 w17_small w17s[n] (List.getElem_mem hn'))
    generalize w17s[n] = w at hb hs ⊢
    refine ifW_of (fun _ => ?_) fun h => by cases h
    refine evC_of (s37 (g.ext e2') (by omega) hb fun S3 e3 => ⟨true, rfl, ?_⟩)
    refine hP _ _ _ (by rw [w17_len] at hn'; omega) ⟨n + 1, ?_, by rw [w17_len] at hn'; omega, rfl, e2.tr e3⟩
    show (true, wrapI .i64 ((n : Int) + 1)) = _
    rw [wrap_succ (by omega)]
  · refine newW_of fun b4 S4 hb4 ha4 e4 hn4 => ?_
    have e4' : Ext S S4 := e2'.tr e4
    have h9 : Bs S4 ⟨some ⟨b4, 0, none⟩, 9, 9⟩ nine := ⟨rfl, fun _ => ⟨b4, 0, _, _, _, _, rfl, ha4, rfl⟩⟩
    refine evC_of (s38 h9 (Nat.le_refl 9) (show 9 < inex by decide) (by decide) fun s1 S5 e5 g5 h5 => ⟨s1, rfl, ?_⟩)
    have e5' : Ext S S5 := e4'.tr e5
    rw [ord_nine] at g5
    intro k2 hk2
    have key : ∀ S', Ext S S' → k2 true S' := by
      intro S6 e6
      refine hk2 _ _ ?_
      refine evC_of (s21 (s := [116, 105, 99, 107, 32, 49, 10, 100, 114, 111, 112, 32, 48, 10]) (g.ext e6) (by decide) fun sl S7 e7 g7 h7 => ⟨(sl, (parseP [116, 105, 99, 107, 32, 49, 10, 100, 114, 111, 112, 32, 48, 10]).2.1, (parseP [116, 105, 99, 107, 32, 49, 10, 100, 114, 111, 112, 32, 48, 10]).2.2), rfl, ?_⟩)
      have e7' : Ext S S7 := e6.tr e7
      refine evC_of (s21 (s := [116, 105, 99, 107, 32, 49]) (g.ext e7') (by decide) fun sl2 S8 e8 g8 h8 => ⟨(sl2, (parseP [116, 105, 99, 107, 32, 49]).2.1, (parseP [116, 105, 99, 107, 32, 49]).2.2), rfl, ?_⟩)
      have e8' : Ext S S8 := e7'.tr e8
      have hsl := g7.len
      rw [par_a] at hsl ⊢
      rw [par_b]
      refine ⟨⟨some ⟨S8.next, 0, none⟩, 1, 1⟩, _, mk_one S8, ?_⟩
      have a9 : At (S8.alloc (.cells (cellsO zeroO) none false none)).2 S8.next _ := alloc_at
      have e9 : Ext S8 (S8.alloc (.cells (cellsO zeroO) none false none)).2 := alloc_ext
      generalize (S8.alloc (.cells (cellsO zeroO) none false none)).2 = S9 at a9 e9 ⊢
      have e9' : Ext S S9 := e8'.tr e9
      have hz : SlOf cellsO 6 S9 ⟨some ⟨S8.next, 0, none⟩, 1, 1⟩ [zeroO] := ⟨rfl, fun _ => ⟨S8.next, 0, _, _, _, _, rfl, a9, rfl⟩⟩
      refine evC_of (s19 (g.ext e9') hz (fun x hx => by rw [List.mem_singleton.1 hx]; exact zero_w) fun S10 e10 => ⟨((textP [zeroO]).1, (textP [zeroO]).2), rfl, ?_⟩)
      have e10' : Ext S S10 := e9'.tr e10
      rw [text_z]
      refine evC_of (s18 (g.ext e10') fun S11 e11 => ⟨true, rfl, ?_⟩)
      have e11' : Ext S S11 := e10'.tr e11
      refine ifW_of (fun _ => ?_) fun h => by cases h
      refine ifW_of (fun _ => ?_) fun h => by cases h
      refine ifW_of (fun _ => ?_) fun h => by cases h
      refine ifW_pos (by show (sl.len : Int) = 0; rw [hsl]; rfl) ?_
      refine ifW_pos rfl ?_
      refine ifW_pos rfl ?_
      refine ifW_pos rfl ?_
      refine ifW_pos rfl ?_
      refine ifW_pos rfl ?_
      refine evC_of (s16 (g.ext e11') ⟨nmL 9, rfl, ?_⟩)
      refine ifW_of (fun _ => ?_) fun h => by exact absurd h (by decide)
      refine evC_of (s16 (g.ext e11') ⟨nmL 10, rfl, ?_⟩)
      refine ifW_of (fun _ => ?_) fun h => by exact absurd h (by decide)
      refine evC_of (s16 (g.ext e11') ⟨nmL 0, rfl, ?_⟩)
      show Value.bool (nmL 0 == []) = _
      rw [show (nmL 0 == []) = true by decide]
    refine newW_of fun b5 S15 hb5 ha5 e15 hn15 => ?_
    have h2 : SlOf cellsO 6 S15 ⟨some ⟨b5, 0, none⟩, 2, 2⟩ twoO := ⟨rfl, fun _ => ⟨b5, 0, _, _, _, _, rfl, ha5, rfl⟩⟩
    have h1 : SlOf cellsO 6 S5 s1 twoO := GrX.of (f := cellsO) (sz := 6) (fun _ => rfl) g5
    refine evC_of (s23 (Ext.slOf e15 h1) h2 (by decide) ⟨true, by simp; rfl, ?_⟩)
    refine ifW_of (fun _ => ?_) fun h => by cases h
    have h00 : Bs S15 ⟨none, 0, 0⟩ [] := ⟨rfl, fun h => (h rfl).elim⟩
    refine evC_of (s38 h00 (Nat.le_refl 0) (show 0 < inex by decide) (by decide) fun s3 S17 e17 g17 h17' => ⟨s3, rfl, ?_⟩)
    have hl3 := g17.len
    have he : eqI (s3.len : Int) 0 = true := by rw [eqI_eq, hl3]; rfl
    rw [he]
    exact key _ ((e5'.tr e15).tr e17)
end
end Go.Proofs.YtabbbfdlgmoniaaDoor
