/- Parts of the proof, put together. -/
import Derived.Test.YtcdignblakejoaaKA
import Derived.Test.YtcdignblakejoaaIA
import Derived.Test.YtcdignblakejoaaBA
import Derived.Test.YtcdignblakejoaaRows
import Derived.Laws.Externs
import Derived.WalkKit
import Derived.ProofKit
/- A shelf's beginning: the library's functions by their contracts. -/
namespace Go.Proofs.Ytcdignblakejoaa
open Go Go.RowKit Go.Proofs.Ytcdignblakejoaa.D
set_option linter.unusedVariables false
set_option linter.unusedSimpArgs false
noncomputable section
theorem size81p (w : World) : (Go.sizeOf 81).run Try.prog w = .ok 2 w := by kernel_rfl
set_option maxRecDepth 100000 in
theorem ovR (args : Array Value) (w : World) (v : Value) (h : (Extern.SlicesOverlaps.overlaps #[44, 44] #[4] args).run Try.prog w = .ok v w) : (callFunc 51 args).run Try.prog w = .ok (.value v) w := by
  rw [run_callFunc_extern Try.func51 (by kernel_rfl) (by kernel_rfl) (by kernel_rfl) (e := Extern.SlicesOverlaps.overlaps #[44, 44] #[4]) (by kernel_rfl), h]
  rfl
theorem primsI1 : PrimOk E1 Try.prog := primsI_ok (fO := 51) rfl Try.underlying44 size81p ovR
theorem primsOk : PrimOk E0 Try.prog := by
  refine primsK_ok (N := pK) rfl (fun f h => by cases h) ?_ ?_ ?_
  · exact ins_ok (E := E0) (E1 := E1) (DEnv.env_ok _) DEnv.mixed primsI1 (primsI_lw rfl) rfl (by decide) (by decide) ⟨Try.f31, Try.func31, by kernel_rfl, by kernel_rfl⟩ rfl insWC
  · intro f h
    cases h
    exact sort_ok ⟨Try.f47, Try.func47, by kernel_rfl, by kernel_rfl⟩ (fun p c w => Any.slices_Sort_int_none Try.lays189 p c w) (fun blk off cap zs w h1 h2 h3 => Any.slices_Sort_int Try.lays189 blk off cap zs w h1 h2 h3)
  · exact skP_ok (tk := 68) ⟨Try.f41, Try.func41, by kernel_rfl, by kernel_rfl⟩ skC0 skC1
theorem primsLw : PrimLw E0 := primsK_lw (N := pK) rfl
end
end Go.Proofs.Ytcdignblakejoaa

/- A shelf's beginning: the arguments. -/
namespace Go.Proofs.Ytcdignblakejoaa
open Go Go.ChangeShapes Go.WideShapes Go.ChangeAt Go.RowKit Go.Proofs.Ytcdignblakejoaa.D
set_option linter.unusedVariables false
set_option linter.unusedSimpArgs false
noncomputable section

theorem own : ownKnob Try.prog.godebug = none := by kernel_rfl
theorem laidOut : laidOutB Try.prog = true := by kernel_rfl
theorem und3p : Try.prog.underlying 3 = some (.int .i64) := by kernel_rfl
theorem und22p : Try.prog.underlying 22 = some (.slice 3) := by kernel_rfl
section
variable {H : Type} {enc : TypeId × Value → H} {W : World} {base b0 : Nat} {spare : Nat → Bool} {held : Bool} {r : Reach}
set_option maxRecDepth 100000 in
theorem arg_ints {v : Value} {d : DataW H} {ps : List MemPlace} (hsp : ∀ b, spare b = true) (hok : Value.okWide Try.prog W r b0 22 v) (h : DataW.Trod enc Try.prog W base spare held 22 v d ps) :
    ∃ (s : Sl) (l : List Int), nv (argN E0 W) v = .slice s.a s.len s.cap ∧ SlOf encI 1 (argS E0 W) s l := by
  obtain ⟨s, l, h1, h2, h3, _⟩ := arg_slX (E := E0) (f := encI) (sz := 1) (Wf := fun _ : Int => True) (fun _ => rfl) (by omega) und22p (by kernel_rfl) (fun fuel cs r h _ => by
    obtain ⟨z, rfl, hw⟩ := trod_int und3p h
    refine ⟨z, trivial, ?_⟩
    rw [List.map_cons, List.map_nil, nv_int]) hsp hok h
  exact ⟨s, l, h1, h2⟩
end
end
end Go.Proofs.Ytcdignblakejoaa
