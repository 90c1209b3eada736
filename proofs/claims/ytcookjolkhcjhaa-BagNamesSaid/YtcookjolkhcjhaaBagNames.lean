/-
  THE LAW BagNames, PROVED: D runs it (D1 .. D22: a deterministic, checked run of the model's code, and the proof that the model does what D does), and it answers true.
-/
import Derived.Test.YtcookjolkhcjhaaDEnv
import Derived.Test.YtcookjolkhcjhaaRows
import Derived.ProofKit
namespace Go.Proofs.Ytcookjolkhcjhaa.BagNamesProof
open Go.ChangeShapes Go.WideShapes Go.ChangeAt Go.RowKit Go.Proofs.Ytcookjolkhcjhaa.D

theorem own : ownKnob Try.prog.godebug = none := by kernel_rfl
theorem laidOut : laidOutB Try.prog = true := by kernel_rfl

noncomputable abbrev E : Env := DEnv.env fun _ => none

theorem runK : trueK E 2000 11 [] (startS E) = true := by kernel_rfl
theorem run : okTrue (callF E (exec E drawD 2000) 11 [] (startS E)) = true := trueK_eq runK

theorem calls (w : World) : Calls Try.prog 11 #[] w fun e w' => e = .returned (.bool true) ∧ Below w.heap.size w w' :=
  calls_closed (DEnv.env_ok _) DEnv.mixed (prim_none_ok fun _ => rfl) (prim_none_lw fun _ => rfl) run w

set_option maxRecDepth 100000 in
theorem lifted (os : Os) (started : os.Started) (H : Type) (enc : TypeId × Value → H) :
    ReturnsInHanded {} Try.checked os 11 .any (Rows.bagNamesSpec.pre6 enc Try.prog Try.f11 Rows.bagNamesRow.domain false) (Rows.bagNamesSpec.post enc Try.prog Try.f11 false true false false) := by
  refine returnsInHanded_of_change (C := Try.checked) own started (by kernel_rfl) Try.func11
    (ChangeSpec.witness6 (enc := enc) (C := Try.checked) false ⟨#[], #[], []⟩ 8 (by kernel_rfl) (by kernel_rfl) (by kernel_rfl) (by kernel_rfl)) ?_
  intro W base args ds gs before hval0 hW hcnd _
  have hW' := hW
  obtain ⟨p, q, hA0, hV, rfl, hfz, hnd⟩ := hW
  have hA : DataW.TrodAll enc Try.prog W 0 (fun _ => true) true Try.f11.params.toList args.toList ds p := hA0
  rw [Try.params11] at hA
  obtain ⟨ha, rfl, rfl⟩ := trodAll_nil hA
  obtain rfl : args = #[] := by cases args; simp_all
  obtain ⟨rfl, rfl⟩ := trodVars_none hV
  refine (calls W).mono fun e W' ⟨he, hb⟩ => ?_
  subst he
  exact ⟨_, rfl, law_post (tb := 4) laidOut rfl Try.underlying4 (by rw [Try.params11]; intro t ht; cases ht) rfl rfl hW' hb⟩

theorem said : Rows.BagNamesSaid :=
  OpenClaim.holds_of_wide 11 Try.f11 rfl rfl rfl rfl rfl rfl rfl ⟨rfl, rfl, rfl, rfl, rfl⟩ rfl rfl rfl rfl rfl (by kernel_rfl) Try.func11 (by kernel_rfl)
    (of_decide_eq_true (by kernel_rfl)) (by unfold Func.isWrapper; first | (rw [if_pos (by decide +kernel)]; kernel_rfl) | (rw [if_neg (by decide +kernel)]; exact ⟨rfl, rfl⟩))
    (fun os started H enc _ => lifted os started H enc)

end Go.Proofs.Ytcookjolkhcjhaa.BagNamesProof
