/-
  THE LAW ChaseFinds, PROVED: a probe comes back just if there is a circle, and names the least one on it.
-/
import Derived.Test.YtcookjolkhcjhaaCG
import Derived.Test.YtcookjolkhcjhaaRows
import Derived.ProofKit
namespace Go.Proofs.Ytcookjolkhcjhaa.ChaseFindsProof
open Go.ChangeShapes Go.WideShapes Go.ChangeAt Go.RowKit Go.Proofs.Ytcookjolkhcjhaa Go.Proofs.Ytcookjolkhcjhaa.D
set_option linter.unusedVariables false
set_option linter.unusedSimpArgs false

theorem own : ownKnob Try.prog.godebug = none := by kernel_rfl
theorem laidOut : laidOutB Try.prog = true := by kernel_rfl
theorem und47p : Try.prog.underlying 47 = some (.slice 49) := by kernel_rfl
theorem und49p : Try.prog.underlying 49 = some (.array 2 48) := by kernel_rfl
theorem und48p : Try.prog.underlying 48 = some (.int .i8) := by kernel_rfl
theorem und5p : Try.prog.underlying 5 = some (.int .u8) := by kernel_rfl
theorem cells48p : Try.prog.cellsOf 48 = 1 := by kernel_rfl
theorem cells49p : Try.prog.cellsOf 49 = 2 := by kernel_rfl
theorem len2 {l : List Value} (h : l.length = 2) : ∃ a b, l = [a, b] := by
  match l, h with
  | [a, b], _ => exact ⟨a, b, rfl⟩
theorem byte_of {x : Int} (h : (Lit.int .u8 x).wf = true) : 0 ≤ x ∧ x < 256 := by
  simp [Lit.wf] at h
  have h1 : IntKind.u8.min = 0 := by decide
  have h2 : IntKind.u8.max = 255 := by decide
  omega
section
variable {H : Type} {enc : TypeId × Value → H} {W : World} {base : Nat} {spare : Nat → Bool} {held : Bool}
theorem mapM_at {α β : Type} {f : α → Option β} : ∀ {l : List α} {r : List β}, l.mapM f = some r → ∀ x ∈ l, ∃ y, f x = some y := by
  intro l
  induction l with
  | nil => intro r h x hx; cases hx
  | cons a l ih =>
    intro r h x hx
    rw [List.mapM_cons] at h
    cases h1 : f a with
    | none => rw [h1] at h; cases h
    | some y =>
      rw [h1] at h
      cases h2 : l.mapM f with
      | none => rw [h2] at h; cases h
      | some ys =>
        rcases List.mem_cons.1 hx with rfl | hx
        · exact ⟨y, h1⟩
        · exact ih h2 x hx
theorem trod_array {P : Program} {t e n : Nat} (hu : P.underlying t = some (.array n e)) {fuel : Nat} {cs : List Value} {r : DataW H × List MemPlace} (h : DataW.trod enc P W base spare held fuel t cs = some r) :
    cs.length = P.cellsOf t ∧ ∃ fuel', ∀ i, i < n → ∃ r', DataW.trod enc P W base spare held fuel' e ((cs.drop (i * P.cellsOf e)).take (P.cellsOf e)) = some r' := by
  cases fuel with
  | zero => cases h
  | succ fuel =>
    unfold DataW.trod at h
    rw [hu] at h
    split at h <;> first | (cases (‹some (TypeDesc.array n e) = some _›); done) | (cases h; done) | (exact ((‹∀ (a : Nat) (b : TypeId), some (TypeDesc.array n e) = some (TypeDesc.array a b) → False›) _ _ rfl).elim) | skip
    rename_i n' e' he
    cases he
    split at h
    · rename_i hc
      rw [Option.map_eq_some_iff] at h
      obtain ⟨xs, h1, _⟩ := h
      exact ⟨hc, fuel, fun i hi => mapM_at h1 i (List.mem_range.2 hi)⟩
    · cases h
theorem read_two {fuel : Nat} {cs : List Value} {r : DataW H × List MemPlace} (h : DataW.trod enc Try.prog W base spare held fuel 49 cs = some r) :
    ∃ x : Int × Int, True ∧ cs.map (nv (argN E0 W)) = cellP x := by
  obtain ⟨hlen, fuel', hf⟩ := trod_array und49p h
  rw [cells49p] at hlen
  rw [cells48p] at hf
  obtain ⟨a, b, rfl⟩ := len2 hlen
  obtain ⟨_, h0⟩ := hf 0 (by omega)
  obtain ⟨_, h1⟩ := hf 1 (by omega)
  obtain ⟨x0, e0, _⟩ := trod_int und48p h0
  obtain ⟨x1, e1, _⟩ := trod_int und48p h1
  simp at e0 e1
  subst e0 e1
  exact ⟨(x0, x1), trivial, by simp [nv]⟩
end

set_option maxRecDepth 100000 in
theorem lifted (os : Os) (started : os.Started) (H : Type) (enc : TypeId × Value → H) :
    ReturnsInHanded {} Try.checked os 7 .any (Rows.chaseFindsSpec.pre6 enc Try.prog Try.f7 Rows.chaseFindsRow.domain false) (Rows.chaseFindsSpec.post enc Try.prog Try.f7 false true false false) := by
  refine returnsInHanded_of_change (C := Try.checked) own started (by kernel_rfl) Try.func7
    (ChangeSpec.witness6 (enc := enc) (C := Try.checked) false ⟨#[], #[.slice none 0 0, .int .u8 0], []⟩ 8 (by kernel_rfl) (by kernel_rfl) (by kernel_rfl) (by kernel_rfl)) ?_
  intro W base args ds gs before hval0 hW hcnd _
  have hW' := hW
  obtain ⟨p, q, hA0, hV, rfl, hfz, hnd⟩ := hW
  have hA : DataW.TrodAll enc Try.prog W 0 (fun _ => true) true Try.f7.params.toList args.toList ds p := hA0
  rw [Try.params7] at hA hval0
  obtain ⟨v1, vs1, d1, ds1, p1, q1, e1, rfl, rfl, t1, hA⟩ := trodAll_cons hA
  obtain ⟨v3, vs3, d3, ds3, p3, q3, rfl, rfl, rfl, t3, hA⟩ := trodAll_cons hA
  obtain ⟨rfl, rfl, rfl⟩ := trodAll_nil hA
  obtain ⟨rfl, rfl⟩ := trodVars_none hV
  obtain rfl : args = #[v1, v3] := by cases args; simp_all
  obtain ⟨s1, l1, n1, g1, w1, c1, c2, c3⟩ := arg_slX (E := E0) (f := cellP) (sz := 2) (Wf := fun x => True) (fun _ => rfl) (by omega) (t := 47) (e := 49) und47p cells49p (fun fuel cs r h _ => read_two h) (fun _ => rfl) (hval0 0 47 v1 rfl rfl) t1
  obtain ⟨n, rfl, wn⟩ := arg_int und5p (hval0 1 5 v3 rfl rfl) t3
  have hn := byte_of wn
  have hcalls : Calls Try.prog 7 #[v1, .int .u8 n] W fun e w' => e = .returned (.bool true) ∧ Below W.heap.size W w' := by
    refine calls_args (DEnv.env_ok _) DEnv.mixed (prim_none_ok fun _ => rfl) (prim_none_lw fun _ => rfl) (E := E0) ?_
    simp only [List.map_cons, List.map_nil, n1, nv_int]
    exact s7 g1 hn.1 hn.2
  refine hcalls.mono fun e W' ⟨he, hb⟩ => ?_
  subst he
  exact ⟨_, rfl, law_post (tb := 4) laidOut rfl Try.underlying4 (by rw [Try.params7]; decide +kernel) rfl rfl hW' hb⟩

theorem said : Rows.ChaseFindsSaid :=
  OpenClaim.holds_of_wide 7 Try.f7 rfl rfl rfl rfl rfl rfl rfl ⟨rfl, rfl, rfl, rfl, rfl⟩ rfl rfl rfl rfl rfl (by kernel_rfl) Try.func7 (by kernel_rfl)
    (of_decide_eq_true (by kernel_rfl)) (by unfold Func.isWrapper; first | (rw [if_pos (by decide +kernel)]; kernel_rfl) | (rw [if_neg (by decide +kernel)]; exact ⟨rfl, rfl⟩))
    (fun os started H enc _ => lifted os started H enc)

end Go.Proofs.Ytcookjolkhcjhaa.ChaseFindsProof
