/- Parts of the proof, put together. -/
import Derived.Test.YtcdignblakejoaaDE
import Derived.Test.YtcdignblakejoaaCA
/- Robots: slices.Insert, by D's run of its text. -/
namespace Go.Proofs.Ytcdignblakejoaa
open Go Go.Proofs.Ytcdignblakejoaa.D
set_option linter.unusedVariables false
set_option linter.unusedSimpArgs false
noncomputable section

/-- D over the program, where slices.overlaps is an extern. -/
def E1 : Env := DEnv.env (primsI 51)
/-! 31 slices.Insert[[]wagonway/api.Claim,wagonway/api.Claim] -/
noncomputable def h31 : Hn := .no
def c31 (s_0 : Sl) (i_1 : Int) (v_2 : Sl) (S : St) (k : Value → St → Prop) : Prop :=
  evV tS (sliceD E1 S 44 (.slice s_0.a s_0.len s_0.cap) (some (.int .i64 i_1)) none none) fun (s1 : Sl) =>
    ifW (eqI (↑v_2.len : Int) 0) (k (.slice s_0.a s_0.len s_0.cap) S)
      (ifW (eqI i_1 (↑s_0.len : Int)) (evP tS (appendD E1 S 44 44 (.slice s_0.a s_0.len s_0.cap) (.slice v_2.a v_2.len v_2.cap)) fun (s2 : Sl) (S1 : St) => k (.slice s2.a s2.len s2.cap) S1)
        (evP tI
          (match capD E1 44 (.slice s_0.a s_0.len s_0.cap) with
          | some v1 => some (v1, S)
          | none => none)
          fun (n1 : Int) (S2 : St) =>
          ifW (ltI n1 (wrapI .i64 ((↑s_0.len : Int) + (↑v_2.len : Int))))
            (evV tS (sliceD E1 S2 44 (.slice s_0.a s_0.len s_0.cap) none (some (.int .i64 i_1)) none) fun (s3 : Sl) =>
              evP tS (appendD E1 S2 44 3 (.slice s3.a s3.len s3.cap) (.int .i64 (wrapI .i64 (wrapI .i64 ((↑s_0.len : Int) + (↑v_2.len : Int)) - i_1)))) fun (s4 : Sl) (S3 : St) =>
                evV tS (sliceD E1 S3 44 (.slice s4.a s4.len s4.cap) (some (.int .i64 i_1)) none none) fun (s5 : Sl) =>
                  evP tI (copyD E1 S3 44 (.slice s5.a s5.len s5.cap) (.slice v_2.a v_2.len v_2.cap)) fun (n2 : Int) (S4 : St) =>
                    evV tS (sliceD E1 S4 44 (.slice s4.a s4.len s4.cap) (some (.int .i64 (wrapI .i64 (i_1 + (↑v_2.len : Int))))) none none) fun (s6 : Sl) =>
                      evV tS (sliceD E1 S4 44 (.slice s_0.a s_0.len s_0.cap) (some (.int .i64 i_1)) none none) fun (s7 : Sl) =>
                        evP tI (copyD E1 S4 44 (.slice s6.a s6.len s6.cap) (.slice s7.a s7.len s7.cap)) fun (n3 : Int) (S5 : St) => k (.slice s4.a s4.len s4.cap) S5)
            (evV tS (sliceD E1 S2 44 (.slice s_0.a s_0.len s_0.cap) none (some (.int .i64 (wrapI .i64 ((↑s_0.len : Int) + (↑v_2.len : Int))))) none) fun (s8 : Sl) =>
              evV tS (sliceD E1 S2 44 (.slice s8.a s8.len s8.cap) (some (.int .i64 (wrapI .i64 (i_1 + (↑v_2.len : Int))))) none none) fun (s9 : Sl) =>
                evC E1 tB 51 [.slice v_2.a v_2.len v_2.cap, .slice s9.a s9.len s9.cap] S2 fun (t1 : Bool) (S6 : St) =>
                  ifW (!t1)
                    (evV tS (sliceD E1 S6 44 (.slice s8.a s8.len s8.cap) (some (.int .i64 (wrapI .i64 (i_1 + (↑v_2.len : Int))))) none none) fun (s10 : Sl) =>
                      evV tS (sliceD E1 S6 44 (.slice s8.a s8.len s8.cap) (some (.int .i64 i_1)) none none) fun (s11 : Sl) =>
                        evP tI (copyD E1 S6 44 (.slice s10.a s10.len s10.cap) (.slice s11.a s11.len s11.cap)) fun (n4 : Int) (S7 : St) =>
                          evV tS (sliceD E1 S7 44 (.slice s8.a s8.len s8.cap) (some (.int .i64 i_1)) none none) fun (s12 : Sl) =>
                            evP tI (copyD E1 S7 44 (.slice s12.a s12.len s12.cap) (.slice v_2.a v_2.len v_2.cap)) fun (n5 : Int) (S8 : St) => k (.slice s8.a s8.len s8.cap) S8)
                    (evV tS (sliceD E1 S6 44 (.slice s8.a s8.len s8.cap) (some (.int .i64 (↑s_0.len : Int))) none none) fun (s13 : Sl) =>
                      evP tI (copyD E1 S6 44 (.slice s13.a s13.len s13.cap) (.slice v_2.a v_2.len v_2.cap)) fun (n6 : Int) (S9 : St) =>
                        evV tS (sliceD E1 S9 44 (.slice s8.a s8.len s8.cap) (some (.int .i64 i_1)) none none) fun (s14 : Sl) =>
                          evC E1 (TT.tup []) 52 [.slice s14.a s14.len s14.cap, .int .i64 (↑v_2.len : Int)] S9 fun (x2 : PUnit) (S10 : St) => k (.slice s8.a s8.len s8.cap) S10))))
theorem w31 (s_0 : Sl) (i_1 : Int) (v_2 : Sl) {S : St} {k : Value → St → Prop} (h : c31 s_0 i_1 v_2 S k) : WC E1 31 [.slice s_0.a s_0.len s_0.cap, .int .i64 i_1, .slice v_2.a v_2.len v_2.cap] S k :=
  WC_den h31 rfl (by kernel_rfl) (by kernel_rfl : Try.f31.body = some (bodyOf Try.f31)) (by rw [show (denF E1 h31 Try.f31 (bodyOf Try.f31) [.slice s_0.a s_0.len s_0.cap, .int .i64 i_1, .slice v_2.a v_2.len v_2.cap] S k) = c31 s_0 i_1 v_2 S k by kernel_rfl]; exact h)


theorem und44i : E1.und 44 = some (.slice 81) := by kernel_rfl
theorem size81i : E1.size 81 = some 2 := by kernel_rfl
theorem inf81i : E1.inf 81 = some DEnv.i81 := by kernel_rfl
theorem und3i : E1.und 3 = some (.int .i64) := by kernel_rfl
theorem siz81 : DEnv.i81.size = 2 := by kernel_rfl
theorem byt81 : DEnv.i81.bytes = 16 := by kernel_rfl
theorem zer81 : DEnv.i81.zero = some (.agg #[.int .i64 0, .int .u32 0]) := by kernel_rfl
theorem tag81 : tagA E1 81 2 = 2 := by kernel_rfl
theorem apSl : apK (.slice 81) = true := by kernel_rfl
theorem apIn : apK (.int .i64) = false := by kernel_rfl
theorem ld_all {S : St} {b o n : Nat} {cs vs : List Value} {more : Option Nat} {ro : Bool} {fz : Option (Nat × Nat)} (h : At S b (.cells cs more ro fz)) (hv : (cs.drop o).take n = vs) (hl : vs.length = n) : S.loadN b o n = some vs := by
  subst hv
  simp only [St.loadN, h.get, hl, Nat.beq_refl, cond_true]
theorem st_all {S : St} {b o : Nat} {cs vs : List Value} {more : Option Nat} (h : At S b (.cells cs more false none)) (hl : o + vs.length ≤ cs.length) (hone : vs.all St.one = true) : S.storeN b o vs = some (S.upd b (.cells (cs.take o ++ (vs ++ cs.drop (o + vs.length))) more false none)) := by
  simp only [St.storeN, h.get, Bool.not_false, Nat.ble_eq_true_of_le hl, hone, St.fzOk, Bool.and_true, cond_true]
theorem copy_ok {S : St} {b o dl dc b2 o2 sl sc k : Nat} {cs new : List Value} {more : Option Nat} (hd : At S b (.cells cs more false none)) (hx : S.loadN b2 o2 (k * 2) = some new) (hnl : new.length = k * 2) (hk : Nat.min sl dl = k) (hk0 : 0 < k) (hone : new.all St.one = true) (hb : o + new.length ≤ cs.length) :
    copyD E1 S 44 (.slice (some ⟨b, o, none⟩) dl dc) (.slice (some ⟨b2, o2, none⟩) sl sc) = some (.int .i64 (k : Int), S.upd b (.cells (cs.take o ++ (new ++ cs.drop (o + new.length))) more false none)) := by
  have h0 : Nat.beq (k * 2) 0 = false := PM.beq_f (by omega)
  have h1 : new.isEmpty = false := by
    cases new with
    | nil => simp at hnl; omega
    | cons => rfl
  simp only [copyD, und44i, inf81i, lenOfD, Option.bind_some, firstD, siz81, hk, h0, cond_false, hx, h1, st_all hd hb hone, Option.map_some]
theorem two_add {n : Nat} (h : n ≤ 1000000) : wrapI .i64 ((n : Int) + ((1 : Nat) : Int)) = ((n + 1 : Nat) : Int) := by
  rw [wrap_i64 (by omega) (by omega)]; omega
theorem sl_lo {S' : St} {b n c i : Nat} (hc : c < inex) (h1 : i ≤ n) (h2 : n ≤ c) (h3 : ¬ c = i) : sliceD E1 S' 44 (.slice (some ⟨b, 0, none⟩) n c) (some (.int .i64 (i : Int))) none none = some (.slice (some ⟨b, 0 + i * 2, none⟩) (n - i) (c - i)) :=
  (sliceD_some (S := S') (a := some ⟨b, 0, none⟩) (b := b) (o := 0) (len := n) (cap := c) (lo := i) (hi := n) (mx := c) (vl := some (.int .i64 (i : Int))) (vh := none) (vm := none) und44i size81i rfl hc (natOf_int (k := .i64)) rfl rfl h1 h2 (Nat.le_refl _)).trans (by rw [PM.beq_f h3]; rfl)
theorem sl_hi {S' : St} {b n c h : Nat} (hc : c < inex) (h2 : h ≤ c) (h3 : ¬ c = 0) : sliceD E1 S' 44 (.slice (some ⟨b, 0, none⟩) n c) none (some (.int .i64 (h : Int))) none = some (.slice (some ⟨b, 0, none⟩) h c) :=
  (sliceD_some (S := S') (a := some ⟨b, 0, none⟩) (b := b) (o := 0) (len := n) (cap := c) (lo := 0) (hi := h) (mx := c) (vl := none) (vh := some (.int .i64 (h : Int))) (vm := none) und44i size81i rfl hc rfl rfl (natOf_int (k := .i64)) (Nat.zero_le _) h2 (Nat.le_refl _)).trans (by rw [PM.beq_f h3]; rfl)
set_option maxHeartbeats 1000000 in
theorem insWC : InsWC E1 31 2 where
  nil := by
    intro S vb vs hv hl ho
    refine w31 ⟨none, 0, 0⟩ 0 ⟨some ⟨vb, 0, none⟩, 1, 1⟩ ?_
    unfold c31
    refine evV_of (ty := tS) ⟨none, 0, 0⟩ (by kernel_rfl) ?_
    refine ifW_neg (by show ¬ ((1 : Nat) : Int) = 0; omega) ?_
    refine ifW_pos (by show (0 : Int) = ((0 : Nat) : Int); rfl) ?_
    have hld : S.loadN vb 0 2 = some vs := ld_all hv (by rw [List.drop_zero, List.take_of_length_le (by omega)]) hl
    refine ⟨⟨some ⟨S.next, 0, none⟩, 1, inex⟩, (S.alloc (.cells vs (some 2) false none)).2, ?_, rfl, SameB.refl _⟩
    have g1 : Nat.beq vs.length (1 * 2) = true := by rw [hl]; rfl
    have g2 : Nat.beq (cellsOf (.agg #[.int .i64 0, .int .u32 0])).length 2 = true := rfl
    have g3 : Nat.ble ((0 + 1) * 16) 17592186044416 = true := by decide
    have g4 : Nat.ble (0 + 1) 17592186044416 = true := by decide
    have g5 : Nat.blt 2 TB = true := by decide
    have g6 : Nat.blt 81 TB = true := by decide
    have g7 : Nat.blt 0 2 = true := rfl
    have g8 : Nat.beq (1 * 2) 0 = false := rfl
    have g9 : Nat.beq 1 0 = false := rfl
    show appendD E1 S 44 44 (.slice none 0 0) (.slice (some ⟨vb, 0, none⟩) 1 1) = _
    simp only [appendD, und44i, inf81i, apSl, cond_true, zer81, Option.bind_some, lenOfD, firstD, siz81, g8, cond_false, Nat.one_mul, hld, byt81, g1, g2, g3, g4, g5, g6, g7, g9, Bool.and_true, tag81]
    rfl
  fin := by
    intro S b vb n cs vs hb hcl hn1 hn2 hv hl ho hco hne
    refine w31 ⟨some ⟨b, 0, none⟩, n, inex⟩ n ⟨some ⟨vb, 0, none⟩, 1, 1⟩ ?_
    unfold c31
    have hroom : roomD S b 0 2 = n := by rw [roomD_at hb (by omega), hcl]; omega
    have hin : n < inex := by unfold inex; omega
    refine evV_of (ty := tS) ⟨some ⟨b, 0 + n * 2, none⟩, n - n, inex⟩ (sliceD_grow und44i size81i hb (natOf_int (k := .i64)) rfl (Nat.le_refl _) (Nat.le_max_left _ _) (by show max n (roomD S b 0 2) < inex; rw [hroom, Nat.max_self]; exact hin)) ?_
    refine ifW_neg (by show ¬ ((1 : Nat) : Int) = 0; omega) ?_
    refine ifW_pos rfl ?_
    have hld : S.loadN vb 0 2 = some vs := ld_all hv (by rw [List.drop_zero, List.take_of_length_le (by omega)]) hl
    refine ⟨⟨some ⟨S.next, 0, none⟩, n + 1, inex⟩, ((S.upd b .dead).alloc (.cells (cs ++ vs) (some 2) false none)).2, ?_, rfl, SameB.refl _⟩
    have g1 : Nat.beq vs.length (1 * 2) = true := by rw [hl]; rfl
    have g2 : Nat.beq (cellsOf (.agg #[.int .i64 0, .int .u32 0])).length 2 = true := rfl
    have g3 : Nat.ble ((n + 1) * 16) 17592186044416 = true := Nat.ble_eq_true_of_le (by omega)
    have g4 : Nat.ble (n + 1) 17592186044416 = true := Nat.ble_eq_true_of_le (by omega)
    have g5 : Nat.blt 2 TB = true := by decide
    have g6 : Nat.blt 81 TB = true := by decide
    have g7 : Nat.blt 0 2 = true := rfl
    have g8 : Nat.beq (1 * 2) 0 = false := rfl
    have g9 : Nat.beq 1 0 = false := rfl
    have g10 : Nat.beq inex inex = true := Nat.beq_refl _
    have g11 : (Nat.beq 2 2 || Nat.beq 2 (81 + TB) && Nat.beq 2 1) = true := rfl
    have g12 : Nat.ble (0 + (n + 1) * 2) cs.length = false := Bool.eq_false_iff.2 fun hh => by have := Nat.le_of_ble_eq_true hh; omega
    have g13 : Nat.ble (0 + n * 2) cs.length = true := Nat.ble_eq_true_of_le (by omega)
    have g14 : (cs.drop 0).take (n * 2) = cs := by rw [List.drop_zero, List.take_of_length_le (by omega)]
    have g15 : Nat.beq 0 0 = true := rfl
    show appendD E1 S 44 44 (.slice (some ⟨b, 0, none⟩) n inex) (.slice (some ⟨vb, 0, none⟩) 1 1) = _
    simp only [appendD, und44i, inf81i, apSl, cond_true, zer81, Option.bind_some, lenOfD, firstD, siz81, g8, cond_false, Nat.one_mul, hld, byt81, g1, g2, g3, g4, g5, g6, g7, g9, g10, hb.get, g11, g12, g13, g14, g15, ho, St.fzOk, Option.map_none, Bool.not_false, Bool.and_true, tag81]
    rfl
  room := by
    intro S b vb n c i cs sp vs hb hcl hspl hcn hc63 hin hn2 hv hl ho hco hne
    refine w31 ⟨some ⟨b, 0, none⟩, n, c⟩ i ⟨some ⟨vb, 0, none⟩, 1, 1⟩ ?_
    unfold c31
    have hcix : c < inex := by unfold inex; omega
    have hcapx : capD E1 44 (.slice (some ⟨b, 0, none⟩) n c) = some (.int .i64 (c : Int)) := by
      simp only [capD, und44i, PM.beq_f (Nat.ne_of_lt hcix), cond_false]
    refine evV_of (ty := tS) ⟨some ⟨b, 0 + i * 2, none⟩, n - i, c - i⟩ (sl_lo (i := i) (n := n) (c := c) hcix (by omega) (by omega) (by omega)) ?_
    refine ifW_neg (by show ¬ ((1 : Nat) : Int) = 0; omega) ?_
    refine ifW_neg (by show ¬ (i : Int) = ((n : Nat) : Int); omega) ?_
    refine ⟨(c : Int), S, by show (match capD E1 44 (.slice (some ⟨b, 0, none⟩) n c) with | some v1 => some (v1, S) | none => none) = _; rw [hcapx]; rfl, ?_⟩
    have hw : wrapI .i64 (((⟨some ⟨b, 0, none⟩, n, c⟩ : Sl).len : Int) + ((⟨some ⟨vb, 0, none⟩, 1, 1⟩ : Sl).len : Int)) = ((n + 1 : Nat) : Int) := two_add hn2
    have hw2 : wrapI .i64 ((i : Int) + ((⟨some ⟨vb, 0, none⟩, 1, 1⟩ : Sl).len : Int)) = ((i + 1 : Nat) : Int) := two_add (by omega)
    rw [hw, hw2]
    refine ifW_neg (by omega) ?_
    have h8 : ∀ S', sliceD E1 S' 44 (.slice (some ⟨b, 0, none⟩) n c) none (some (.int .i64 ((n + 1 : Nat) : Int))) none = some (.slice (some ⟨b, 0, none⟩) (n + 1) c) := fun S' => sl_hi hcix hcn (by omega)
    have h9 : ∀ S', sliceD E1 S' 44 (.slice (some ⟨b, 0, none⟩) (n + 1) c) (some (.int .i64 ((i + 1 : Nat) : Int))) none none = some (.slice (some ⟨b, 0 + (i + 1) * 2, none⟩) (n + 1 - (i + 1)) (c - (i + 1))) := fun S' => sl_lo hcix (by omega) hcn (by omega)
    have h11 : ∀ S', sliceD E1 S' 44 (.slice (some ⟨b, 0, none⟩) (n + 1) c) (some (.int .i64 (i : Int))) none none = some (.slice (some ⟨b, 0 + i * 2, none⟩) (n + 1 - i) (c - i)) := fun S' => sl_lo hcix (by omega) hcn (by omega)
    refine evV_of (ty := tS) ⟨some ⟨b, 0, none⟩, n + 1, c⟩ (h8 _) ?_
    refine evV_of (ty := tS) ⟨some ⟨b, 0 + (i + 1) * 2, none⟩, n + 1 - (i + 1), c - (i + 1)⟩ (h9 _) ?_
    have hXl : (cs ++ sp).length = c * 2 := by rw [List.length_append, hcl, hspl, ← Nat.add_mul, show n + (c - n) = c from by omega]
    refine evC_of (WC_prim (E := E1) (f := 51) (v := .bool false) (S' := S) rfl (show withS ovP [.slice (some ⟨vb, 0, none⟩) 1 1, .slice (some ⟨b, 0 + (i + 1) * 2, none⟩) (n + 1 - (i + 1)) (c - (i + 1))] S = _ from ?_) ⟨false, rfl, ?_⟩)
    · obtain ⟨x0, X', hX⟩ : ∃ x0 X', cs ++ sp = x0 :: X' := by
        cases h : cs ++ sp with
        | nil => rw [h] at hXl; simp at hXl; omega
        | cons a t => exact ⟨a, t, rfl⟩
      have hb2 := hb.get
      rw [hX] at hb2
      have k1 : Nat.beq vb b = false := PM.beq_f hne
      have k2 : Nat.ble 1 1 = true := rfl
      have k3 : Nat.ble 1 (n + 1 - (i + 1)) = true := Nat.ble_eq_true_of_le (by omega)
      simp only [withS, ovP, k1, k2, k3, hv.get, hb2, Bool.not_false, Bool.and_true, cond_true, Option.map_some]
    refine ifW_of (fun _ => ?_) fun h => by cases h
    refine evV_of (ty := tS) ⟨some ⟨b, 0 + (i + 1) * 2, none⟩, n + 1 - (i + 1), c - (i + 1)⟩ (h9 _) ?_
    refine evV_of (ty := tS) ⟨some ⟨b, 0 + i * 2, none⟩, n + 1 - i, c - i⟩ (h11 _) ?_
    have hdl : (cs.drop (i * 2)).length = (n - i) * 2 := by rw [List.length_drop, hcl]; omega
    have hn1 : S.loadN b (0 + i * 2) ((n - i) * 2) = some (cs.drop (i * 2)) := ld_all hb (by
      rw [Nat.zero_add, List.drop_append_of_le_length (by omega), List.take_left' hdl]) hdl
    have hco1 : (cs.drop (i * 2)).all St.one = true := List.all_eq_true.2 fun x hx => List.all_eq_true.1 hco x (List.mem_of_mem_drop hx)
    refine ⟨((n - i : Nat) : Int), _, copy_ok hb hn1 hdl (by show min (n + 1 - i) (n + 1 - (i + 1)) = n - i; omega) (by omega) hco1 (by rw [hdl, hXl]; omega), ?_⟩
    have hat7 := upd_at (o' := .cells ((cs ++ sp).take (0 + (i + 1) * 2) ++ (cs.drop (i * 2) ++ (cs ++ sp).drop (0 + (i + 1) * 2 + (cs.drop (i * 2)).length))) none false none) hb
    have hv7 : At (S.upd b (.cells ((cs ++ sp).take (0 + (i + 1) * 2) ++ (cs.drop (i * 2) ++ (cs ++ sp).drop (0 + (i + 1) * 2 + (cs.drop (i * 2)).length))) none false none)) vb (.cells vs none false none) := (upd_mod (S := S) (b := b)).at hv hne
    generalize hY : (cs ++ sp).take (0 + (i + 1) * 2) ++ (cs.drop (i * 2) ++ (cs ++ sp).drop (0 + (i + 1) * 2 + (cs.drop (i * 2)).length)) = Y at hat7 hv7
    have hYl : Y.length = c * 2 := by rw [← hY, List.length_append, List.length_append, List.length_take, List.length_drop, List.length_drop, hXl, hcl]; omega
    refine evV_of (ty := tS) ⟨some ⟨b, 0 + i * 2, none⟩, n + 1 - i, c - i⟩ (h11 _) ?_
    have hld : (S.upd b (.cells Y none false none)).loadN vb 0 (1 * 2) = some vs := ld_all hv7 (by rw [List.drop_zero, List.take_of_length_le (by omega)]) hl
    refine ⟨((1 : Nat) : Int), _, copy_ok hat7 hld (by omega) (by show min 1 (n + 1 - i) = 1; omega) (by omega) ho (by rw [hl, hYl]; omega), ?_⟩
    refine ⟨rfl, rfl, fun q hq => ?_⟩
    have e1 : Y.take (0 + i * 2) ++ (vs ++ Y.drop (0 + i * 2 + vs.length)) = (cs.take (i * 2) ++ (vs ++ cs.drop (i * 2))) ++ sp.drop 2 := by
      rw [hl, ← hY, Nat.zero_add, Nat.zero_add, hdl]
      have t1 : ((cs ++ sp).take ((i + 1) * 2)).length = i * 2 + 2 := by rw [List.length_take, hXl]; omega
      have t2 : ((cs ++ sp).take ((i + 1) * 2) ++ (cs.drop (i * 2) ++ (cs ++ sp).drop ((i + 1) * 2 + (n - i) * 2))).take (i * 2) = cs.take (i * 2) := by
        rw [List.take_append_of_le_length (by omega), List.take_take, Nat.min_eq_left (by omega), List.take_append_of_le_length (by omega)]
      have t3 : ((cs ++ sp).take ((i + 1) * 2) ++ (cs.drop (i * 2) ++ (cs ++ sp).drop ((i + 1) * 2 + (n - i) * 2))).drop (i * 2 + 2) = cs.drop (i * 2) ++ sp.drop 2 := by
        rw [List.drop_left' t1, show (i + 1) * 2 + (n - i) * 2 = cs.length + 2 from by omega, List.drop_length_add_append]
      rw [t2, t3]
      simp only [List.append_assoc]
    show ((S.upd b (.cells Y none false none)).upd b (.cells (Y.take (0 + i * 2) ++ (vs ++ Y.drop (0 + i * 2 + vs.length))) none false none)).heap.get q = _
    rw [e1, upd_get, upd_get, upd_get]
    by_cases hqb : q = b
    · rw [if_pos hqb, if_pos hqb]
    · rw [if_neg hqb, if_neg hqb, if_neg hqb]
  grow := by
    intro S b vb n i cs vs hb hcl hin hn2 hv hl ho hco hne
    refine w31 ⟨some ⟨b, 0, none⟩, n, n⟩ i ⟨some ⟨vb, 0, none⟩, 1, 1⟩ ?_
    unfold c31
    have hcix : n < inex := by unfold inex; omega
    have hcapx : capD E1 44 (.slice (some ⟨b, 0, none⟩) n n) = some (.int .i64 (n : Int)) := by
      simp only [capD, und44i, PM.beq_f (Nat.ne_of_lt hcix), cond_false]
    have h7 : ∀ S', sliceD E1 S' 44 (.slice (some ⟨b, 0, none⟩) n n) (some (.int .i64 (i : Int))) none none = some (.slice (some ⟨b, 0 + i * 2, none⟩) (n - i) (n - i)) := fun S' => sl_lo hcix (by omega) (Nat.le_refl _) (by omega)
    refine evV_of (ty := tS) ⟨some ⟨b, 0 + i * 2, none⟩, n - i, n - i⟩ (h7 _) ?_
    refine ifW_neg (by show ¬ ((1 : Nat) : Int) = 0; omega) ?_
    refine ifW_neg (by show ¬ (i : Int) = ((n : Nat) : Int); omega) ?_
    refine ⟨(n : Int), S, by show (match capD E1 44 (.slice (some ⟨b, 0, none⟩) n n) with | some v1 => some (v1, S) | none => none) = _; rw [hcapx]; rfl, ?_⟩
    have hw : wrapI .i64 (((⟨some ⟨b, 0, none⟩, n, n⟩ : Sl).len : Int) + ((⟨some ⟨vb, 0, none⟩, 1, 1⟩ : Sl).len : Int)) = ((n + 1 : Nat) : Int) := two_add hn2
    have hw2 : wrapI .i64 ((i : Int) + ((⟨some ⟨vb, 0, none⟩, 1, 1⟩ : Sl).len : Int)) = ((i + 1 : Nat) : Int) := two_add (by omega)
    have hw3 : wrapI .i64 (((n + 1 : Nat) : Int) - (i : Int)) = ((n + 1 - i : Nat) : Int) := by rw [wrap_i64 (by omega) (by omega)]; omega
    rw [hw, hw2, hw3]
    refine ifW_pos (by omega) ?_
    refine evV_of (ty := tS) ⟨some ⟨b, 0, none⟩, i, n⟩ (sl_hi (n := n) (c := n) (h := i) hcix (by omega) (by omega)) ?_
    have hold : S.loadN b 0 (i * 2) = some (cs.take (i * 2)) := ld_all hb (by rw [List.drop_zero]) (by rw [List.length_take]; omega)
    have hzl : (zerosD [Value.int .i64 0, .int .u32 0] (n + 1 - i)).length = (n + 1 - i) * 2 := by
      unfold zerosD; simp
    refine ⟨⟨some ⟨S.next, 0, none⟩, n + 1, inex⟩, (S.alloc (.cells (cs.take (i * 2) ++ zerosD [Value.int .i64 0, .int .u32 0] (n + 1 - i)) (some 2) false none)).2, ?_, ?_⟩
    · have g0 : Nat.blt n inex = true := Nat.blt_eq.mpr hcix
      have g1 : decide ((0 : Int) < ((n + 1 - i : Nat) : Int)) = true := decide_eq_true (by omega)
      have g2 : Nat.blt n (i + (n + 1 - i)) = true := Nat.blt_eq.mpr (by omega)
      have g3 : Nat.ble ((i + (n + 1 - i)) * 16) 17592186044416 = true := Nat.ble_eq_true_of_le (by omega)
      have g4 : Nat.ble (i + (n + 1 - i)) 17592186044416 = true := Nat.ble_eq_true_of_le (by omega)
      have g5 : Nat.blt 2 TB = true := by decide
      have g7 : Nat.blt 0 2 = true := rfl
      have g8 : Nat.beq (cellsOf (.agg #[.int .i64 0, .int .u32 0])).length 2 = true := rfl
      have g9 : i + (n + 1 - i) = n + 1 := by omega
      rw [g9] at g2 g3 g4
      show appendD E1 S 44 3 (.slice (some ⟨b, 0, none⟩) i n) (.int .i64 ((n + 1 - i : Nat) : Int)) = _
      simp only [appendD, und44i, inf81i, und3i, apIn, cond_false, appendZD, Int.toNat_natCast, siz81, byt81, g0, g1, g2, g3, g4, g5, g7, Bool.and_true, cond_true, zer81, Option.bind_some, g8, hold, Option.map_some, g9]
      rfl
    have hR0 : At (S.alloc (.cells (cs.take (i * 2) ++ zerosD [Value.int .i64 0, .int .u32 0] (n + 1 - i)) (some 2) false none)).2 S.next _ := alloc_at
    have hRl : (cs.take (i * 2) ++ zerosD [Value.int .i64 0, .int .u32 0] (n + 1 - i)).length = (n + 1) * 2 := by
      rw [List.length_append, hzl, List.length_take, hcl, Nat.min_eq_left (by omega)]; omega
    have hE3 : Ext S (S.alloc (.cells (cs.take (i * 2) ++ zerosD [Value.int .i64 0, .int .u32 0] (n + 1 - i)) (some 2) false none)).2 := alloc_ext
    have hb3 : At (S.alloc (.cells (cs.take (i * 2) ++ zerosD [Value.int .i64 0, .int .u32 0] (n + 1 - i)) (some 2) false none)).2 b (.cells cs none false none) := hE3.at hb
    have hv3 : At (S.alloc (.cells (cs.take (i * 2) ++ zerosD [Value.int .i64 0, .int .u32 0] (n + 1 - i)) (some 2) false none)).2 vb (.cells vs none false none) := hE3.at hv
    have hRt : (cs.take (i * 2) ++ zerosD [Value.int .i64 0, .int .u32 0] (n + 1 - i)).take (i * 2) = cs.take (i * 2) := List.take_left' (by rw [List.length_take]; omega)
    have gro : ∀ (S' : St) (R : List Value) (j : Nat), At S' S.next (.cells R (some 2) false none) → R.length = (n + 1) * 2 → j ≤ n + 1 → sliceD E1 S' 44 (.slice (some ⟨S.next, 0, none⟩) (n + 1) inex) (some (.int .i64 (j : Int))) none none = some (.slice (some ⟨S.next, 0 + j * 2, none⟩) (n + 1 - j) inex) := fun S' R j hR hRl hj => by
      have hroom : roomD S' S.next 0 2 = n + 1 := by rw [roomD_at hR (by omega), hRl]; omega
      exact sliceD_grow und44i size81i hR (natOf_int (k := .i64)) rfl hj (Nat.le_max_left _ _) (by show max (n + 1) (roomD S' S.next 0 2) < inex; rw [hroom, Nat.max_self]; unfold inex; omega)
    have hSb : b ≠ S.next := Nat.ne_of_lt hb.lt
    have hSv : vb ≠ S.next := Nat.ne_of_lt hv.lt
    generalize hS3 : (S.alloc (.cells (cs.take (i * 2) ++ zerosD [Value.int .i64 0, .int .u32 0] (n + 1 - i)) (some 2) false none)).2 = S3 at hR0 hE3 hb3 hv3
    have hnx3 : S3.next = S.next + 1 := by rw [← hS3]; rfl
    have hget3 : ∀ q, q < S.next → S3.heap.get q = S.heap.get q := fun q hq => by rw [← hS3, alloc_get, if_neg (by omega)]
    generalize hR : cs.take (i * 2) ++ zerosD [Value.int .i64 0, .int .u32 0] (n + 1 - i) = R0 at hR0 hRl hRt
    refine evV_of (ty := tS) ⟨some ⟨S.next, 0 + i * 2, none⟩, n + 1 - i, inex⟩ (gro S3 R0 i hR0 hRl (by omega)) ?_
    have hld : S3.loadN vb 0 (1 * 2) = some vs := ld_all hv3 (by rw [List.drop_zero, List.take_of_length_le (by omega)]) hl
    refine ⟨((1 : Nat) : Int), _, copy_ok hR0 hld (by omega) (by show min 1 (n + 1 - i) = 1; omega) (by omega) ho (by rw [hl, hRl]; omega), ?_⟩
    have hR1 := upd_at (o' := .cells (R0.take (0 + i * 2) ++ (vs ++ R0.drop (0 + i * 2 + vs.length))) (some 2) false none) hR0
    have hb4 : At (S3.upd S.next (.cells (R0.take (0 + i * 2) ++ (vs ++ R0.drop (0 + i * 2 + vs.length))) (some 2) false none)) b (.cells cs none false none) := (upd_mod (S := S3) (b := S.next)).at hb3 hSb
    have hR1l : (R0.take (0 + i * 2) ++ (vs ++ R0.drop (0 + i * 2 + vs.length))).length = (n + 1) * 2 := by
      rw [List.length_append, List.length_append, List.length_take, List.length_drop, hRl, hl]; omega
    have hR1t : (R0.take (0 + i * 2) ++ (vs ++ R0.drop (0 + i * 2 + vs.length))).take ((i + 1) * 2) = cs.take (i * 2) ++ vs := by
      have t1 : (R0.take (0 + i * 2) ++ vs).length = (i + 1) * 2 := by rw [List.length_append, List.length_take, hRl, hl]; omega
      rw [← List.append_assoc, List.take_left' t1, Nat.zero_add, hRt]
    generalize R0.take (0 + i * 2) ++ (vs ++ R0.drop (0 + i * 2 + vs.length)) = R1 at hR1 hb4 hR1l hR1t
    refine evV_of (ty := tS) ⟨some ⟨S.next, 0 + (i + 1) * 2, none⟩, n + 1 - (i + 1), inex⟩ (gro _ R1 (i + 1) hR1 hR1l (by omega)) ?_
    refine evV_of (ty := tS) ⟨some ⟨b, 0 + i * 2, none⟩, n - i, n - i⟩ (h7 _) ?_
    have hdl : (cs.drop (i * 2)).length = (n - i) * 2 := by rw [List.length_drop, hcl]; omega
    have hn1 : (S3.upd S.next (.cells R1 (some 2) false none)).loadN b (0 + i * 2) ((n - i) * 2) = some (cs.drop (i * 2)) := ld_all hb4 (by
      rw [Nat.zero_add, List.take_of_length_le (by omega)]) hdl
    have hco1 : (cs.drop (i * 2)).all St.one = true := List.all_eq_true.2 fun x hx => List.all_eq_true.1 hco x (List.mem_of_mem_drop hx)
    refine ⟨((n - i : Nat) : Int), _, copy_ok hR1 hn1 hdl (by show min (n - i) (n + 1 - (i + 1)) = n - i; omega) (by omega) hco1 (by rw [hdl, hR1l]; omega), ?_⟩
    have e1 : R1.take (0 + (i + 1) * 2) ++ (cs.drop (i * 2) ++ R1.drop (0 + (i + 1) * 2 + (cs.drop (i * 2)).length)) = cs.take (i * 2) ++ (vs ++ cs.drop (i * 2)) := by
      have hz : R1.drop (0 + (i + 1) * 2 + (cs.drop (i * 2)).length) = [] := List.drop_of_length_le (by rw [hdl, hR1l]; omega)
      rw [hz, Nat.zero_add, hR1t, List.append_nil, List.append_assoc]
    refine ⟨rfl, ?_, fun q hq => ?_⟩
    · show S3.next = S.next + 1; exact hnx3
    · have hq : q < S3.next := hq
      show ((S3.upd S.next (.cells R1 (some 2) false none)).upd S.next (.cells (R1.take (0 + (i + 1) * 2) ++ (cs.drop (i * 2) ++ R1.drop (0 + (i + 1) * 2 + (cs.drop (i * 2)).length))) (some 2) false none)).heap.get q = _
      rw [e1, upd_get, upd_get, alloc_get]
      by_cases hqn : q = S.next
      · rw [if_pos hqn, if_pos hqn]
      · rw [if_neg hqn, if_neg hqn, if_neg hqn]
        exact hget3 q (by omega)
end
end Go.Proofs.Ytcdignblakejoaa
