/-
  THE LAW ChaseLeast, PROVED: of any robot and message: what goes on names the lesser one, with one hop fewer.
-/
import Derived.Test.YtcookjolkhcjhaaChase5
import Derived.Test.YtcookjolkhcjhaaD28
import Derived.Test.YtcookjolkhcjhaaRows
import Derived.ProofKit
namespace Go.Proofs.Ytcookjolkhcjhaa.ChaseLeastProof
open Go.ChangeShapes Go.WideShapes Go.ChangeAt Go.RowKit Go.Proofs.Ytcookjolkhcjhaa Go.Proofs.Ytcookjolkhcjhaa.D
set_option linter.unusedVariables false
set_option linter.unusedSimpArgs false

theorem own : ownKnob Try.prog.godebug = none := by kernel_rfl
theorem laidOut : laidOutB Try.prog = true := by kernel_rfl
theorem und3p : Try.prog.underlying 3 = some (.int .i64) := by kernel_rfl
theorem und4p : Try.prog.underlying 4 = some .bool := by kernel_rfl
theorem und26p : Try.prog.underlying 26 = some (.int .u32) := by kernel_rfl
theorem und27p : Try.prog.underlying 27 = some (.int .u64) := by kernel_rfl
noncomputable def elOf (t : Nat) : TypeId := match Try.prog.underlying t with | some (.slice e) => e | _ => 0
noncomputable def fsOf (t : Nat) : Array Field := match Try.prog.underlying t with | some (.struct fs) => fs | _ => #[]
theorem und28p : Try.prog.underlying 28 = some (.slice (elOf 28)) := by kernel_rfl
theorem el28 : Try.prog.cellsOf (elOf 28) = 2 := by kernel_rfl
theorem und23p : Try.prog.underlying 23 = some (.struct (fsOf 23)) := by kernel_rfl
theorem fl23 : (fsOf 23).toList.map (fun f => (f.type, f.offset)) = [(4, 0), (3, 1), (3, 2)] := by kernel_rfl
theorem und25p : Try.prog.underlying 25 = some (.struct (fsOf 25)) := by kernel_rfl
theorem fl25 : (fsOf 25).toList.map (fun f => (f.type, f.offset)) = [(3, 0), (3, 1), (23, 2)] := by kernel_rfl
theorem und30p : Try.prog.underlying 30 = some (.struct (fsOf 30)) := by kernel_rfl
theorem fl30 : (fsOf 30).toList.map (fun f => (f.type, f.offset)) = [(3, 0), (3, 1), (26, 2), (27, 3), (3, 4), (3, 5), (3, 6), (3, 7), (28, 8)] := by kernel_rfl
theorem len3 {l : List Value} (h : l.length = 3) : ∃ a b c, l = [a, b, c] := by
  match l, h with
  | [a, b, c], _ => exact ⟨a, b, c, rfl⟩
theorem len5 {l : List Value} (h : l.length = 5) : ∃ a b c d e, l = [a, b, c, d, e] := by
  match l, h with
  | [a, b, c, d, e], _ => exact ⟨a, b, c, d, e, rfl⟩
theorem len9 {l : List Value} (h : l.length = 9) : ∃ a b c d e f g h i, l = [a, b, c, d, e, f, g, h, i] := by
  match l, h with
  | [a, b, c, d, e, f, g, h, i], _ => exact ⟨a, b, c, d, e, f, g, h, i, rfl⟩
theorem field_of {fs : Array Field} {l : List (Nat × Nat)} (h : fs.toList.map (fun f => (f.type, f.offset)) = l) {t o : Nat} (hm : (t, o) ∈ l) : ∃ f ∈ fs.toList, f.type = t ∧ f.offset = o := by
  rw [← h] at hm
  obtain ⟨f, h1, h2⟩ := List.mem_map.1 hm
  cases h2
  exact ⟨f, h1, rfl, rfl⟩
section
variable {H : Type} {enc : TypeId × Value → H} {W : World} {base : Nat} {spare : Nat → Bool} {held : Bool}
theorem cut {t o : Nat} {fs : Array Field} {l : List (Nat × Nat)} {fuel : Nat} {cs : List Value} (hl : fs.toList.map (fun f => (f.type, f.offset)) = l) (hm : (t, o) ∈ l)
    (h : ∀ f ∈ fs.toList, ∃ r', DataW.trod enc Try.prog W base spare held fuel f.type ((cs.drop f.offset).take (Try.prog.cellsOf f.type)) = some r') :
    ∃ r', DataW.trod enc Try.prog W base spare held fuel t ((cs.drop o).take (Try.prog.cellsOf t)) = some r' := by
  obtain ⟨f, hf, rfl, rfl⟩ := field_of hl hm
  exact h f hf
theorem read_wait {fuel : Nat} {cs : List Value} {r : DataW H × List MemPlace} (h : DataW.trod enc Try.prog W base spare held fuel 23 cs = some r) : ∃ b m n, cs = [.bool b, .int .i64 m, .int .i64 n] := by
  obtain ⟨hlen, fuel', hf⟩ := trod_struct und23p h
  have hl := fl23
  rw [show Try.prog.cellsOf 23 = 3 by kernel_rfl] at hlen
  obtain ⟨a, b, c, rfl⟩ := len3 hlen
  obtain ⟨_, h0⟩ := cut hl (t := 4) (o := 0) (by simp) hf
  obtain ⟨_, h1⟩ := cut hl (t := 3) (o := 1) (by simp) hf
  obtain ⟨_, h2⟩ := cut hl (t := 3) (o := 2) (by simp) hf
  rw [show Try.prog.cellsOf 4 = 1 by kernel_rfl] at h0
  rw [show Try.prog.cellsOf 3 = 1 by kernel_rfl] at h1 h2
  obtain ⟨x, e0⟩ := trod_bool und4p h0
  obtain ⟨y, e1, _⟩ := trod_int und3p h1
  obtain ⟨z, e2, _⟩ := trod_int und3p h2
  simp at e0 e1 e2
  subst e0 e1 e2
  exact ⟨x, y, z, rfl⟩
theorem read_who {fuel : Nat} {cs : List Value} {r : DataW H × List MemPlace} (h : DataW.trod enc Try.prog W base spare held fuel 25 cs = some r) : ∃ x : Int × Int × Wait, cs = [.int .i64 x.1, .int .i64 x.2.1, .bool x.2.2.1, .int .i64 x.2.2.2.1, .int .i64 x.2.2.2.2] := by
  obtain ⟨hlen, fuel', hf⟩ := trod_struct und25p h
  have hl := fl25
  rw [show Try.prog.cellsOf 25 = 5 by kernel_rfl] at hlen
  obtain ⟨a, b, c, d, e, rfl⟩ := len5 hlen
  obtain ⟨_, h0⟩ := cut hl (t := 3) (o := 0) (by simp) hf
  obtain ⟨_, h1⟩ := cut hl (t := 3) (o := 1) (by simp) hf
  obtain ⟨_, h2⟩ := cut hl (t := 23) (o := 2) (by simp) hf
  rw [show Try.prog.cellsOf 23 = 3 by kernel_rfl] at h2
  rw [show Try.prog.cellsOf 3 = 1 by kernel_rfl] at h0 h1
  obtain ⟨y, e0, _⟩ := trod_int und3p h0
  obtain ⟨z, e1, _⟩ := trod_int und3p h1
  obtain ⟨t, m, n, e2⟩ := read_wait h2
  simp at e0 e1 e2
  obtain ⟨rfl, rfl, rfl⟩ := e2
  subst e0 e1
  exact ⟨(y, z, t, m, n), rfl⟩
theorem read_msg {fuel : Nat} {cs : List Value} {r : DataW H × List MemPlace} (hsp : ∀ b, spare b = true) (h : DataW.trod enc Try.prog W base spare held fuel 30 cs = some r) : ∃ m : Msg, cs.map (nv (argN E0 W)) =
    [.int .i64 m.1, .int .i64 m.2.1, .int .u32 m.2.2.1, .int .u64 m.2.2.2.1, .int .i64 m.2.2.2.2.1, .int .i64 m.2.2.2.2.2.1, .int .i64 m.2.2.2.2.2.2.1, .int .i64 m.2.2.2.2.2.2.2.1, .slice m.2.2.2.2.2.2.2.2.a m.2.2.2.2.2.2.2.2.len m.2.2.2.2.2.2.2.2.cap] := by
  obtain ⟨hlen, fuel', hf⟩ := trod_struct und30p h
  have hl := fl30
  rw [show Try.prog.cellsOf 30 = 9 by kernel_rfl] at hlen
  obtain ⟨a, b, c, d, e, f, g, i, j, rfl⟩ := len9 hlen
  obtain ⟨_, h0⟩ := cut hl (t := 3) (o := 0) (by simp) hf
  obtain ⟨_, h1⟩ := cut hl (t := 3) (o := 1) (by simp) hf
  obtain ⟨_, h2⟩ := cut hl (t := 26) (o := 2) (by simp) hf
  obtain ⟨_, h3⟩ := cut hl (t := 27) (o := 3) (by simp) hf
  obtain ⟨_, h4⟩ := cut hl (t := 3) (o := 4) (by simp) hf
  obtain ⟨_, h5⟩ := cut hl (t := 3) (o := 5) (by simp) hf
  obtain ⟨_, h6⟩ := cut hl (t := 3) (o := 6) (by simp) hf
  obtain ⟨_, h7⟩ := cut hl (t := 3) (o := 7) (by simp) hf
  obtain ⟨_, h8⟩ := cut hl (t := 28) (o := 8) (by simp) hf
  rw [show Try.prog.cellsOf 3 = 1 by kernel_rfl] at h0 h1 h4 h5 h6 h7
  rw [show Try.prog.cellsOf 26 = 1 by kernel_rfl] at h2
  rw [show Try.prog.cellsOf 27 = 1 by kernel_rfl] at h3
  rw [show Try.prog.cellsOf 28 = 1 by kernel_rfl] at h8
  obtain ⟨x0, e0, _⟩ := trod_int und3p h0
  obtain ⟨x1, e1, _⟩ := trod_int und3p h1
  obtain ⟨x2, e2, _⟩ := trod_int und26p h2
  obtain ⟨x3, e3, _⟩ := trod_int und27p h3
  obtain ⟨x4, e4, _⟩ := trod_int und3p h4
  obtain ⟨x5, e5, _⟩ := trod_int und3p h5
  obtain ⟨x6, e6, _⟩ := trod_int und3p h6
  obtain ⟨x7, e7, _⟩ := trod_int und3p h7
  obtain ⟨v, s, e8, e9⟩ := trod_sl0 (E := E0) und28p (by rw [el28]; decide) hsp h8
  simp at e0 e1 e2 e3 e4 e5 e6 e7 e8
  subst e0 e1 e2 e3 e4 e5 e6 e7 e8
  exact ⟨(x0, x1, x2, x3, x4, x5, x6, x7, s), by simp [e9]⟩
end

set_option maxRecDepth 100000 in
theorem lifted (os : Os) (started : os.Started) (H : Type) (enc : TypeId × Value → H) :
    ReturnsInHanded {} Try.checked os 3 .any (Rows.chaseLeastSpec.pre6 enc Try.prog Try.f3 Rows.chaseLeastRow.domain false) (Rows.chaseLeastSpec.post enc Try.prog Try.f3 false true false false) := by
  refine returnsInHanded_of_change (C := Try.checked) own started (by kernel_rfl) Try.func3
    (ChangeSpec.witness6 (enc := enc) (C := Try.checked) false ⟨#[], #[.agg #[.int .i64 0, .int .i64 0, .bool false, .int .i64 0, .int .i64 0], .agg #[.int .i64 0, .int .i64 0, .int .u32 0, .int .u64 0, .int .i64 0, .int .i64 0, .int .i64 0, .int .i64 0, .slice none 0 0]], []⟩ 8 (by kernel_rfl) (by kernel_rfl) (by kernel_rfl) (by kernel_rfl)) ?_
  intro W base args ds gs before hval0 hW hcnd _
  have hW' := hW
  obtain ⟨p, q, hA0, hV, rfl, hfz, hnd⟩ := hW
  have hA : DataW.TrodAll enc Try.prog W 0 (fun _ => true) true Try.f3.params.toList args.toList ds p := hA0
  rw [Try.params3] at hA hval0
  obtain ⟨v1, vs1, d1, ds1, p1, q1, e1, rfl, rfl, t1, hA⟩ := trodAll_cons hA
  obtain ⟨v2, vs2, d2, ds2, p2, q2, rfl, rfl, rfl, t2, hA⟩ := trodAll_cons hA
  obtain ⟨rfl, rfl, rfl⟩ := trodAll_nil hA
  obtain ⟨rfl, rfl⟩ := trodVars_none hV
  obtain rfl : args = #[v1, v2] := by cases args; simp_all
  obtain ⟨c1, rfl⟩ := okWide_agg und25p (hval0 0 25 v1 rfl rfl)
  obtain ⟨c2, rfl⟩ := okWide_agg und30p (hval0 1 30 v2 rfl rfl)
  obtain ⟨fu1, t1⟩ := t1
  obtain ⟨fu2, t2⟩ := t2
  obtain ⟨x, hx⟩ := read_who t1
  obtain ⟨m, hm⟩ := read_msg (fun _ => rfl) t2
  have n1 : nv (argN E0 W) (.agg c1) = sv G24 x := by
    rw [nv_agg]
    have : (c1.map (nv (argN E0 W))).toList = encs Sc.enc G24 x := by
      rw [Array.toList_map]
      have hx : c1.toList = _ := hx
      rw [hx]; simp; rfl
    unfold sv
    rw [← this]
  have n2 : nv (argN E0 W) (.agg c2) = sv G29 m := by
    rw [nv_agg]
    have : (c2.map (nv (argN E0 W))).toList = encs Sc.enc G29 m := by
      rw [Array.toList_map]
      have hm : c2.toList.map _ = _ := hm
      rw [hm]; rfl
    unfold sv
    rw [← this]
  have hcalls : Calls Try.prog 3 #[.agg c1, .agg c2] W fun e w' => e = .returned (.bool true) ∧ Below W.heap.size W w' := by
    refine calls_args (DEnv.env_ok _) DEnv.mixed (prim_none_ok fun _ => rfl) (prim_none_lw fun _ => rfl) (E := E0) ?_
    simp only [List.map_cons, List.map_nil, n1, n2]
    exact s3
  refine hcalls.mono fun e W' ⟨he, hb⟩ => ?_
  subst he
  exact ⟨_, rfl, law_post (tb := 4) laidOut rfl Try.underlying4 (by rw [Try.params3]; decide +kernel) rfl rfl hW' hb⟩

theorem said : Rows.ChaseLeastSaid :=
  OpenClaim.holds_of_wide 3 Try.f3 rfl rfl rfl rfl rfl rfl rfl ⟨rfl, rfl, rfl, rfl, rfl⟩ rfl rfl rfl rfl rfl (by kernel_rfl) Try.func3 (by kernel_rfl)
    (of_decide_eq_true (by kernel_rfl)) (by unfold Func.isWrapper; first | (rw [if_pos (by decide +kernel)]; kernel_rfl) | (rw [if_neg (by decide +kernel)]; exact ⟨rfl, rfl⟩))
    (fun os started H enc _ => lifted os started H enc)

end Go.Proofs.Ytcookjolkhcjhaa.ChaseLeastProof
