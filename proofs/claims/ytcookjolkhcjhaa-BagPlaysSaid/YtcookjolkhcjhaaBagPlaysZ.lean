/-
  THE LAW BagPlays, PROVED: a bag answers as the document says.
-/
import Derived.Test.YtcookjolkhcjhaaBD
import Derived.Test.YtcookjolkhcjhaaRows
import Derived.ProofKit
namespace Go.Proofs.Ytcookjolkhcjhaa.BagPlaysProof
open Go.ChangeShapes Go.WideShapes Go.ChangeAt Go.RowKit Go.Proofs.Ytcookjolkhcjhaa Go.Proofs.Ytcookjolkhcjhaa.D
set_option linter.unusedVariables false
set_option linter.unusedSimpArgs false

theorem own : ownKnob Try.prog.godebug = none := by kernel_rfl
theorem laidOut : laidOutB Try.prog = true := by kernel_rfl
theorem und3p : Try.prog.underlying 3 = some (.int .i64) := by kernel_rfl
theorem und42p : Try.prog.underlying 42 = some (.slice 5) := by kernel_rfl
theorem und5p : Try.prog.underlying 5 = some (.int .u8) := by kernel_rfl
theorem cells5p : Try.prog.cellsOf 5 = 1 := by kernel_rfl
noncomputable def elOf (t : Nat) : TypeId := match Try.prog.underlying t with | some (.slice e) => e | _ => 0
noncomputable def fsOf (t : Nat) : Array Field := match Try.prog.underlying t with | some (.struct fs) => fs | _ => #[]
theorem und62p : Try.prog.underlying 62 = some (.struct (fsOf 62)) := by kernel_rfl
theorem fl62 : (fsOf 62).toList.map (fun f => (f.type, f.offset)) = [(3, 0), (3, 1), (3, 2), (42, 3), (5, 4), (3, 5)] := by kernel_rfl
theorem len6 {l : List Value} (h : l.length = 6) : ∃ a b c d e f, l = [a, b, c, d, e, f] := by
  match l, h with
  | [a, b, c, d, e, f], _ => exact ⟨a, b, c, d, e, f, rfl⟩
theorem field_of {fs : Array Field} {l : List (Nat × Nat)} (h : fs.toList.map (fun f => (f.type, f.offset)) = l) {t o : Nat} (hm : (t, o) ∈ l) : ∃ f ∈ fs.toList, f.type = t ∧ f.offset = o := by
  rw [← h] at hm
  obtain ⟨f, h1, h2⟩ := List.mem_map.1 hm
  cases h2
  exact ⟨f, h1, rfl, rfl⟩
theorem byte_of {x : Int} (h : (Lit.int .u8 x).wf = true) : 0 ≤ x ∧ x < 256 := by
  simp [Lit.wf] at h
  have h1 : IntKind.u8.min = 0 := by decide
  have h2 : IntKind.u8.max = 255 := by decide
  omega
section
variable {H : Type} {enc : TypeId × Value → H} {W : World} {base : Nat} {spare : Nat → Bool} {held : Bool}
theorem cut {t o : Nat} {fs : Array Field} {l : List (Nat × Nat)} {fuel : Nat} {cs : List Value} (hl : fs.toList.map (fun f => (f.type, f.offset)) = l) (hm : (t, o) ∈ l)
    (h : ∀ f ∈ fs.toList, ∃ r', DataW.trod enc Try.prog W base spare held fuel f.type ((cs.drop f.offset).take (Try.prog.cellsOf f.type)) = some r') :
    ∃ r', DataW.trod enc Try.prog W base spare held fuel t ((cs.drop o).take (Try.prog.cellsOf t)) = some r' := by
  obtain ⟨f, hf, rfl, rfl⟩ := field_of hl hm
  exact h f hf
theorem read_op {fuel : Nat} {cs : List Value} {r : DataW H × List MemPlace} (hsp : ∀ b, spare b = true) (h : DataW.trod enc Try.prog W base spare held fuel 62 cs = some r) :
    ∃ x : OpR, (∃ d, OpD (argS E0 W) x d) ∧ cs.map (nv (argN E0 W)) = cellsO x := by
  obtain ⟨hlen, fuel', hf⟩ := trod_struct und62p h
  have hl := fl62
  rw [show Try.prog.cellsOf 62 = 6 by kernel_rfl] at hlen
  obtain ⟨a, b, c, d, e, f, rfl⟩ := len6 hlen
  obtain ⟨_, h0⟩ := cut hl (t := 3) (o := 0) (by simp) hf
  obtain ⟨_, h1⟩ := cut hl (t := 3) (o := 1) (by simp) hf
  obtain ⟨_, h2⟩ := cut hl (t := 3) (o := 2) (by simp) hf
  obtain ⟨⟨dd, pp⟩, h3⟩ := cut hl (t := 42) (o := 3) (by simp) hf
  obtain ⟨_, h4⟩ := cut hl (t := 5) (o := 4) (by simp) hf
  obtain ⟨_, h5⟩ := cut hl (t := 3) (o := 5) (by simp) hf
  rw [show Try.prog.cellsOf 3 = 1 by kernel_rfl] at h0 h1 h2 h5
  rw [show Try.prog.cellsOf 5 = 1 by kernel_rfl] at h4
  rw [show Try.prog.cellsOf 42 = 1 by kernel_rfl] at h3
  obtain ⟨x0, e0, _⟩ := trod_int und3p h0
  obtain ⟨x1, e1, _⟩ := trod_int und3p h1
  obtain ⟨x2, e2, _⟩ := trod_int und3p h2
  obtain ⟨x4, e4, w4⟩ := trod_int und5p h4
  obtain ⟨x5, e5, _⟩ := trod_int und3p h5
  simp at e0 e1 e2 e4 e5
  subst e0 e1 e2 e4 e5
  have h3 : DataW.trod enc Try.prog W base spare held fuel' 42 [d] = some (dd, pp) := h3
  obtain ⟨s, l, n3, g3, w3, _, _, sp3⟩ := trod_slX (E := E0) (f := cellB) (sz := 1) (Wf := fun x => (Lit.int .u8 x).wf = true) (fun _ => rfl) (by omega) und42p cells5p (fun fuel cs r h _ => by
    obtain ⟨n, rfl, h2⟩ := trod_int und5p h
    exact ⟨n, h2, by simp [nv]⟩) hsp h3
  exact ⟨(x0, x1, x2, s, x4, x5), ⟨l, g3, sp3, fun y hy => byte_of (w3 y hy), (byte_of w4).1, (byte_of w4).2⟩, by simp [n3]⟩
end

set_option maxRecDepth 100000 in
theorem lifted (os : Os) (started : os.Started) (H : Type) (enc : TypeId × Value → H) :
    ReturnsInHanded {} Try.checked os 10 .any (Rows.bagPlaysSpec.pre6 enc Try.prog Try.f10 Rows.bagPlaysRow.domain false) (Rows.bagPlaysSpec.post enc Try.prog Try.f10 false true false false) := by
  refine returnsInHanded_of_change (C := Try.checked) own started (by kernel_rfl) Try.func10
    (ChangeSpec.witness6 (enc := enc) (C := Try.checked) false ⟨#[], #[.slice none 0 0], []⟩ 8 (by kernel_rfl) (by kernel_rfl) (by kernel_rfl) (by kernel_rfl)) ?_
  intro W base args ds gs before hval0 hW hcnd _
  have hW' := hW
  obtain ⟨p, q, hA0, hV, rfl, hfz, hnd⟩ := hW
  have hA : DataW.TrodAll enc Try.prog W 0 (fun _ => true) true Try.f10.params.toList args.toList ds p := hA0
  rw [Try.params10] at hA hval0
  obtain ⟨v1, vs1, d1, ds1, p1, q1, e1, rfl, rfl, t1, hA⟩ := trodAll_cons hA
  obtain ⟨rfl, rfl, rfl⟩ := trodAll_nil hA
  obtain ⟨rfl, rfl⟩ := trodVars_none hV
  obtain rfl : args = #[v1] := by cases args; simp_all
  obtain ⟨s1, l1, n1, g1, w1, c1, c2, c3⟩ := arg_slX (E := E0) (f := cellsO) (sz := 6) (Wf := fun x => ∃ d, OpD (argS E0 W) x d) (fun _ => rfl) (by omega) (t := 53) (e := 62) (by kernel_rfl) (by kernel_rfl) (fun fuel cs r h _ => read_op (fun _ => rfl) h) (fun _ => rfl) (hval0 0 53 v1 rfl rfl) t1
  have hcalls : Calls Try.prog 10 #[v1] W fun e w' => e = .returned (.bool true) ∧ Below W.heap.size W w' := by
    refine calls_args (DEnv.env_ok _) DEnv.mixed (prim_none_ok fun _ => rfl) (prim_none_lw fun _ => rfl) (E := E0) ?_
    simp only [List.map_cons, List.map_nil, n1]
    exact s10 g1 w1
  refine hcalls.mono fun e W' ⟨he, hb⟩ => ?_
  subst he
  exact ⟨_, rfl, law_post (tb := 4) laidOut rfl Try.underlying4 (by rw [Try.params10]; decide +kernel) rfl rfl hW' hb⟩

theorem said : Rows.BagPlaysSaid :=
  OpenClaim.holds_of_wide 10 Try.f10 rfl rfl rfl rfl rfl rfl rfl ⟨rfl, rfl, rfl, rfl, rfl⟩ rfl rfl rfl rfl rfl (by kernel_rfl) Try.func10 (by kernel_rfl)
    (of_decide_eq_true (by kernel_rfl)) (by unfold Func.isWrapper; first | (rw [if_pos (by decide +kernel)]; kernel_rfl) | (rw [if_neg (by decide +kernel)]; exact ⟨rfl, rfl⟩))
    (fun os started H enc _ => lifted os started H enc)

end Go.Proofs.Ytcookjolkhcjhaa.BagPlaysProof
