/-
  THE LAW ChaseCircles, PROVED: for any waits and priorities, and whomever one asks, it answers true: circles and the least one are the document's.
-/
import Derived.Test.YtcookjolkhcjhaaChase2
import Derived.Test.YtcookjolkhcjhaaD28
import Derived.Test.YtcookjolkhcjhaaRows
import Derived.ProofKit
namespace Go.Proofs.Ytcookjolkhcjhaa.ChaseCirclesProof
open Go.ChangeShapes Go.WideShapes Go.ChangeAt Go.RowKit Go.Proofs.Ytcookjolkhcjhaa Go.Proofs.Ytcookjolkhcjhaa.D
set_option linter.unusedVariables false

theorem own : ownKnob Try.prog.godebug = none := by kernel_rfl
theorem laidOut : laidOutB Try.prog = true := by kernel_rfl
theorem und37p : Try.prog.underlying 37 = some (.slice 3) := by kernel_rfl
theorem und3p : Try.prog.underlying 3 = some (.int .i64) := by kernel_rfl
theorem cells3p : Try.prog.cellsOf 3 = 1 := by kernel_rfl

theorem law {ws ps : Sl} {f : Int} {S : St} {l m : List Int} (hw : Ints S ws l) (hp : Ints S ps m) : WC E0 4 [.slice ws.a ws.len ws.cap, .slice ps.a ps.len ps.cap, intV f] S fun v _ => v = .bool true := by
  refine w4 ws ps f ?_
  unfold c4
  have hlw := hw.len
  have hlp := hp.len
  refine ifW_dec (fun _ => rfl) fun h1 => ifW_dec (fun _ => rfl) fun h2 => ?_
  have hb : l.length ≤ 1000000 := by omega
  refine evC_of (s16 hw hb fun s1 S1 hg1 e1 => ⟨s1, rfl, ?_⟩)
  refine evC_of (s17 (e1.slOf hw) hb fun s2 S2 hg2 e2 => ⟨s2, rfl, ?_⟩)
  have hs1 : Ints S1 s1 (circle l f) := hg1.of fun _ => rfl
  have hs2 : Ints S2 s2 (circle l f) := hg2.of fun _ => rfl
  have hs1 := e2.slOf hs1
  have hlen1 := hs1.len
  have hlen2 := hs2.len
  have hc := circle_len l f
  have e12 := e1.tr e2
  refine ifW_ndec (fun h => (h (by omega)).elim) fun _ => ?_
  refine evC_of (s18 (e12.slOf hp) hs1 (by omega) fun S3 e3 => ⟨_, rfl, ?_⟩)
  have e13 := e12.tr e3
  refine evC_of (s19 (e13.slOf hp) (e3.slOf hs2) (by omega) ⟨_, rfl, ?_⟩)
  refine ifW_ndec (fun h => (h rfl).elim) fun _ => ?_
  refine evC_of (s18 (e13.slOf hp) (e13.slOf hw) hb fun S4 e4 => ⟨_, rfl, ?_⟩)
  have e14 := e13.tr e4
  refine evC_of (s19 (e14.slOf hp) (e14.slOf hw) hb ⟨_, rfl, ?_⟩)
  refine ifW_ndec (fun h => (h rfl).elim) fun _ => ?_
  have g1 := e4.slOf (e3.slOf hs1)
  have g2 := e4.slOf (e3.slOf hs2)
  refine loopW_ind (fun q (x : Int) S' => ∃ n : Nat, x = n ∧ n ≤ (circle l f).length ∧ q = (circle l f).length - n ∧ S' = S4) (m := (circle l f).length) ⟨0, rfl, by omega, rfl, rfl⟩ ?_
  rintro P q x S' ⟨n, rfl, h3, rfl, rfl⟩ hP
  refine ifW_dec (fun hlt => ?_) fun _ => rfl
  have hn : n < (circle l f).length := by omega
  refine g1.get1n (g := intV) inf3 agg3 hn fun b o hld _ => evV_of _ (hld S' rfl) ?_
  refine g2.get1n (g := intV) inf3 agg3 hn fun b o hld _ => evV_of _ (hld S' rfl) ?_
  rw [wrap_succ (by omega)]
  exact ifW_ndec (fun h => (h rfl).elim) fun _ => hP _ _ _ (by omega) ⟨n + 1, rfl, by omega, rfl, rfl⟩

set_option maxRecDepth 100000 in
theorem lifted (os : Os) (started : os.Started) (H : Type) (enc : TypeId × Value → H) :
    ReturnsInHanded {} Try.checked os 4 .any (Rows.chaseCirclesSpec.pre6 enc Try.prog Try.f4 Rows.chaseCirclesRow.domain false) (Rows.chaseCirclesSpec.post enc Try.prog Try.f4 false true false false) := by
  refine returnsInHanded_of_change (C := Try.checked) own started (by kernel_rfl) Try.func4
    (ChangeSpec.witness6 (enc := enc) (C := Try.checked) false ⟨#[], #[.slice none 0 0, .slice none 0 0, .int .i64 0], []⟩ 8 (by kernel_rfl) (by kernel_rfl) (by kernel_rfl) (by kernel_rfl)) ?_
  intro W base args ds gs before hval0 hW hcnd _
  have hW' := hW
  obtain ⟨p, q, hA0, hV, rfl, hfz, hnd⟩ := hW
  have hA : DataW.TrodAll enc Try.prog W 0 (fun _ => true) true Try.f4.params.toList args.toList ds p := hA0
  rw [Try.params4] at hA hval0
  obtain ⟨v1, vs1, d1, ds1, p1, q1, e1, rfl, rfl, t1, hA⟩ := trodAll_cons hA
  obtain ⟨v2, vs2, d2, ds2, p2, q2, rfl, rfl, rfl, t2, hA⟩ := trodAll_cons hA
  obtain ⟨v3, vs3, d3, ds3, p3, q3, rfl, rfl, rfl, t3, hA⟩ := trodAll_cons hA
  obtain ⟨rfl, rfl, rfl⟩ := trodAll_nil hA
  obtain ⟨rfl, rfl⟩ := trodVars_none hV
  obtain rfl : args = #[v1, v2, v3] := by cases args; simp_all
  obtain ⟨s1, l1, n1, g1, _⟩ := arg_ints (E := E0) und37p cells3p und3p (fun _ => rfl) (hval0 0 37 v1 rfl rfl) t1
  obtain ⟨s2, l2, n2, g2, _⟩ := arg_ints (E := E0) und37p cells3p und3p (fun _ => rfl) (hval0 1 37 v2 rfl rfl) t2
  obtain ⟨n, rfl, _⟩ := arg_int und3p (hval0 2 3 v3 rfl rfl) t3
  have hcalls : Calls Try.prog 4 #[v1, v2, .int .i64 n] W fun e w' => e = .returned (.bool true) ∧ Below W.heap.size W w' := by
    refine calls_args (DEnv.env_ok _) DEnv.mixed (prim_none_ok fun _ => rfl) (prim_none_lw fun _ => rfl) (E := E0) ?_
    simp only [List.map_cons, List.map_nil, n1, n2, nv_int]
    exact law g1 g2
  refine hcalls.mono fun e W' ⟨he, hb⟩ => ?_
  subst he
  exact ⟨_, rfl, law_post (tb := 4) laidOut rfl Try.underlying4 (by rw [Try.params4]; decide +kernel) rfl rfl hW' hb⟩

theorem said : Rows.ChaseCirclesSaid :=
  OpenClaim.holds_of_wide 4 Try.f4 rfl rfl rfl rfl rfl rfl rfl ⟨rfl, rfl, rfl, rfl, rfl⟩ rfl rfl rfl rfl rfl (by kernel_rfl) Try.func4 (by kernel_rfl)
    (of_decide_eq_true (by kernel_rfl)) (by unfold Func.isWrapper; first | (rw [if_pos (by decide +kernel)]; kernel_rfl) | (rw [if_neg (by decide +kernel)]; exact ⟨rfl, rfl⟩))
    (fun os started H enc _ => lifted os started H enc)

end Go.Proofs.Ytcookjolkhcjhaa.ChaseCirclesProof
