/-
  THE LAW WakeBegins, PROVED: a shelf of records at the beginning gives the same through one writing.
-/
import Derived.Test.YtcdignblakejoaaPA
namespace Go.Proofs.Ytcdignblakejoaa.WakeBeginsProof
open Go Go.ChangeShapes Go.WideShapes Go.ChangeAt Go.RowKit Go.Proofs.Ytcdignblakejoaa Go.Proofs.Ytcdignblakejoaa.D
set_option linter.unusedVariables false
set_option linter.unusedSimpArgs false

set_option maxRecDepth 100000 in
theorem lifted (os : Os) (started : os.Started) (H : Type) (enc : TypeId × Value → H) :
    ReturnsInHanded {} Try.checked os 3 .any (Rows.wakeBeginsSpec.pre6 enc Try.prog Try.f3 Rows.wakeBeginsRow.domain false) (Rows.wakeBeginsSpec.post enc Try.prog Try.f3 false true false false) := by
  refine returnsInHanded_of_change (C := Try.checked) own started (by kernel_rfl) Try.func3
    (ChangeSpec.witness6 (enc := enc) (C := Try.checked) false ⟨#[], #[.int .i64 0, .int .i64 0, .slice none 0 0], []⟩ 8 (by kernel_rfl) (by kernel_rfl) (by kernel_rfl) (by kernel_rfl)) ?_
  intro W base args ds gs before hval0 hW hcnd _
  have hW' := hW
  obtain ⟨p, q, hA0, hV, rfl, hfz, hnd⟩ := hW
  have hA : DataW.TrodAll enc Try.prog W 0 (fun _ => true) true Try.f3.params.toList args.toList ds p := hA0
  rw [Try.params3] at hA hval0
  obtain ⟨v1, vs1, d1, ds1, p1, q1, e1, rfl, rfl, t1, hA⟩ := trodAll_cons hA
  obtain ⟨v2, vs2, d2, ds2, p2, q2, rfl, rfl, rfl, t2, hA⟩ := trodAll_cons hA
  obtain ⟨v3, vs3, d3, ds3, p3, q3, rfl, rfl, rfl, t3, hA⟩ := trodAll_cons hA
  obtain ⟨rfl, rfl, rfl⟩ := trodAll_nil hA
  obtain ⟨rfl, rfl⟩ := trodVars_none hV
  obtain rfl : args = #[v1, v2, v3] := by cases args; simp_all
  obtain ⟨kk, rfl, _⟩ := arg_int und3p (hval0 0 3 v1 rfl rfl) t1
  obtain ⟨cells, rfl, _⟩ := arg_int und3p (hval0 1 3 v2 rfl rfl) t2
  obtain ⟨s, l, n3, hr⟩ := arg_ints (fun _ => rfl) (hval0 2 22 v3 rfl rfl) t3
  have hcalls : Calls Try.prog 3 #[.int .i64 kk, .int .i64 cells, v3] W fun e w' => e = .returned (.bool true) ∧ Below W.heap.size W w' := by
    refine calls_args (DEnv.env_ok _) DEnv.mixed primsOk primsLw (E := E0) ?_
    simp only [List.map_cons, List.map_nil, nv_int, n3]
    exact s3 hr fun S' => rfl
  refine hcalls.mono fun e W' ⟨he, hb⟩ => ?_
  subst he
  exact ⟨_, rfl, law_post (tb := 4) laidOut rfl Try.underlying4 (by rw [Try.params3]; decide +kernel) rfl rfl hW' hb⟩

theorem said : Rows.WakeBeginsSaid :=
  OpenClaim.holds_of_wide 3 Try.f3 rfl rfl rfl rfl rfl rfl rfl ⟨rfl, rfl, rfl, rfl, rfl⟩ rfl rfl rfl rfl rfl (by kernel_rfl) Try.func3 (by kernel_rfl)
    (of_decide_eq_true (by kernel_rfl)) (by unfold Func.isWrapper; first | (rw [if_pos (by decide +kernel)]; kernel_rfl) | (rw [if_neg (by decide +kernel)]; exact ⟨rfl, rfl⟩))
    (fun os started H enc _ => lifted os started H enc)

end Go.Proofs.Ytcdignblakejoaa.WakeBeginsProof
