/- Parts of the proof, put together. -/
import Derived.Test.YtfopfocedlbihaaGreatDoorOC
import Derived.Test.YtfopfocedlbihaaGreatDoorSA
import Derived.Test.YtfopfocedlbihaaGreatDoorDE
import Derived.Test.YtfopfocedlbihaaGreatDoorRows
import Derived.Lib.AtoiErrMem
import Derived.Lib.LaidTab
import Derived.Shelf.Vars
import Derived.Test.YtfopfocedlbihaaGreatDoorCards
import Derived.Test.YtfopfocedlbihaaGreatDoorTie
import Derived.ProofKit
import Derived.LaidMore
import Derived.MakeChecks
import Derived.Deep.DeepHandedRow
import Derived.Deep.DeepWitnessRowRef
import Derived.Lay
/- The library's functions by their contracts; the package's variables. -/
namespace Go.Proofs.YtfopfocedlbihaaGreatDoor
open Go Go.RowKit Go.Proofs.YtfopfocedlbihaaGreatDoor.D
set_option linter.unusedVariables false
set_option linter.unusedSimpArgs false
noncomputable section

theorem primsOk : PrimOk E0 Tryz.prog := by
  refine primsC_ok (N := pN) (B := pB) rfl bldCC bldSS bldII bldUU (primsB_all (N := pN) ?_ ?_ ?_ ?_ ?_ ?_ ?_)
  · exact join_ok ⟨Tryz.f34, Tryz.func34, by kernel_rfl, by kernel_rfl⟩ (fun a c sep w => Tryz.strings_Join_none a c sep w) (fun bk o c xs sep w h1 h2 h3 h4 h5 => Tryz.strings_Join bk o c xs sep w h1 h2 h3 h4 h5)
  · exact split_ok (t9 := 9) (by decide +kernel) ⟨Tryz.f43, Tryz.func43, by kernel_rfl, by kernel_rfl⟩ (fun s sep m w h1 h2 h3 => Tryz.strings_Split s sep m w h1 h2 h3)
  · refine atoi_ok (by decide +kernel) (by decide +kernel) ⟨Tryz.f66, Tryz.func66, by kernel_rfl, by kernel_rfl⟩ ?_ ?_ ?_
    · intro s v w hl h
      refine (Tryz.strconv_Atoi_ok s (by omega) v h w).mono ?_
      rintro e w' ⟨rfl, rfl | ⟨t, rfl⟩⟩
      · exact ⟨rfl, Below.refl _ _⟩
      · exact ⟨rfl, Lib.bytesWorld_below _ _ _⟩
    · intro s ev w hl h hv hev
      refine (Tryz.strconv_Atoi_syntax s hl h ev w hv hev).mono ?_
      rintro e w' ⟨N, rfl, _, _, hb⟩
      exact ⟨⟨_, rfl⟩, hb⟩
    · intro s ev w hl h hv hev
      refine (Tryz.strconv_Atoi_range s hl h ev w hv hev).mono ?_
      rintro e w' ⟨N, rfl, _, _, hb⟩
      exact ⟨⟨_, rfl⟩, hb⟩
  · refine pu_ok (by decide +kernel) (by decide +kernel) ⟨Tryz.f68, Tryz.func68, by kernel_rfl, by kernel_rfl⟩ ?_ ?_ ?_
    · intro s v w hl h
      refine (Tryz.strconv_ParseUint_10_at64_ok s (by omega) v h w).mono ?_
      rintro e w' ⟨rfl, rfl | rfl⟩
      · exact ⟨rfl, Below.refl _ _⟩
      · exact ⟨rfl, Lib.bytesWorld_below _ _ _⟩
    · intro s ev w hl h hv hev
      refine (Tryz.strconv_ParseUint_10_at64_syntax s hl h ev w hv hev).mono ?_
      rintro e w' ⟨N, rfl, _, _, hb⟩
      exact ⟨⟨_, _, rfl⟩, hb⟩
    · intro s ev w hl h hv hev
      refine (Tryz.strconv_ParseUint_10_at64_range s hl h ev w hv hev).mono ?_
      rintro e w' ⟨N, rfl, _, _, hb⟩
      exact ⟨⟨_, _, rfl⟩, hb⟩
  · exact fmt_ok ⟨Tryz.f88, Tryz.func88, by kernel_rfl, by kernel_rfl⟩ (fun blk off cap u d w h1 h2 h3 h4 => Tryz.internal_strconv_formatBase10 blk off cap u d w h1 h2 h3 h4)
  · exact len_ok ⟨Tryz.f105, Tryz.func105, by kernel_rfl, by kernel_rfl⟩ (fun x w h1 h2 => Tryz.bits_Len64 x w h1 h2)
  · exact small_ok ⟨Tryz.f86, Tryz.func86, by kernel_rfl, by kernel_rfl⟩ (fun i w h => Tryz.internal_strconv_small i h w)
theorem primsLw : PrimLw E0 := primsC_lw (N := pN) (B := pB) rfl

/-- What the rows of orders list. -/
abbrev laidO : List (String × DataW Unit) := Rows.diaryTextsRow.laid
end
end Go.Proofs.YtfopfocedlbihaaGreatDoor

/- Orders as arguments; the witness of the rows that list package variables. -/
namespace Go.Proofs.YtfopfocedlbihaaGreatDoor
open Go Go.ChangeShapes Go.WideShapes Go.ChangeAt Go.RowKit Go.Proofs.YtfopfocedlbihaaGreatDoor.D
set_option linter.unusedVariables false
set_option linter.unusedSimpArgs false
noncomputable section

theorem own : ownKnob Tryz.prog.godebug = none := by kernel_rfl
theorem laidOut : laidOutB Tryz.prog = true := by kernel_rfl
noncomputable def fsOf (t : Nat) : Array Field := match Tryz.prog.underlying t with | some (.struct fs) => fs | _ => #[]
theorem und37p : Tryz.prog.underlying 37 = some (.struct (fsOf 37)) := by kernel_rfl
theorem fl37 : (fsOf 37).toList.map (fun f => (f.type, f.offset)) = [(3, 0), (3, 1), (3, 2), (3, 3), (3, 4), (35, 5)] := by kernel_rfl
theorem len6 {l : List Value} (h : l.length = 6) : ∃ a b c d e f, l = [a, b, c, d, e, f] := by
  match l, h with
  | [a, b, c, d, e, f], _ => exact ⟨a, b, c, d, e, f, rfl⟩
theorem field_of {fs : Array Field} {l : List (Nat × Nat)} (h : fs.toList.map (fun f => (f.type, f.offset)) = l) {t o : Nat} (hm : (t, o) ∈ l) : ∃ f ∈ fs.toList, f.type = t ∧ f.offset = o := by
  rw [← h] at hm
  obtain ⟨f, h1, h2⟩ := List.mem_map.1 hm
  cases h2
  exact ⟨f, h1, rfl, rfl⟩
theorem wf_i64 {x : Int} (h : (Lit.int .i64 x).wf = true) : i64 x := by
  simp [Lit.wf] at h
  have h1 : IntKind.i64.min = -9223372036854775808 := by decide
  have h2 : IntKind.i64.max = 9223372036854775807 := by decide
  unfold i64
  omega
theorem wf_u64 {x : Int} (h : (Lit.int .u64 x).wf = true) : 0 ≤ x ∧ x < 18446744073709551616 := by
  simp [Lit.wf] at h
  have h1 : IntKind.u64.min = 0 := by decide
  have h2 : IntKind.u64.max = 18446744073709551615 := by decide
  omega
section
variable {H : Type} {enc : TypeId × Value → H} {W : World} {base b0 : Nat} {spare : Nat → Bool} {held : Bool} {r : Reach}
theorem cut {t o : Nat} {fs : Array Field} {l : List (Nat × Nat)} {fuel : Nat} {cs : List Value} (hl : fs.toList.map (fun f => (f.type, f.offset)) = l) (hm : (t, o) ∈ l)
    (h : ∀ f ∈ fs.toList, ∃ r', DataW.trod enc Tryz.prog W base spare held fuel f.type ((cs.drop f.offset).take (Tryz.prog.cellsOf f.type)) = some r') :
    ∃ r', DataW.trod enc Tryz.prog W base spare held fuel t ((cs.drop o).take (Tryz.prog.cellsOf t)) = some r' := by
  obtain ⟨f, hf, rfl, rfl⟩ := field_of hl hm
  exact h f hf
theorem cells37p : Tryz.prog.cellsOf 37 = 6 := by kernel_rfl
theorem read_ord {fuel : Nat} {cs : List Value} {r : DataW H × List MemPlace} (h : DataW.trod enc Tryz.prog W base spare held fuel 37 cs = some r) : ∃ x : Ord, OrdW x ∧ cs = cellsO x := by
  obtain ⟨hlen, fuel', hf⟩ := trod_struct und37p h
  have hl := fl37
  rw [show Tryz.prog.cellsOf 37 = 6 by kernel_rfl] at hlen
  obtain ⟨a, b, c, d, e, f, rfl⟩ := len6 hlen
  obtain ⟨_, h0⟩ := cut hl (t := 3) (o := 0) (by simp) hf
  obtain ⟨_, h1⟩ := cut hl (t := 3) (o := 1) (by simp) hf
  obtain ⟨_, h2⟩ := cut hl (t := 3) (o := 2) (by simp) hf
  obtain ⟨_, h3⟩ := cut hl (t := 3) (o := 3) (by simp) hf
  obtain ⟨_, h4⟩ := cut hl (t := 3) (o := 4) (by simp) hf
  obtain ⟨_, h5⟩ := cut hl (t := 35) (o := 5) (by simp) hf
  rw [show Tryz.prog.cellsOf 3 = 1 by kernel_rfl] at h0 h1 h2 h3 h4
  rw [show Tryz.prog.cellsOf 35 = 1 by kernel_rfl] at h5
  obtain ⟨x0, e0, w0⟩ := trod_int Tryz.underlying3 h0
  obtain ⟨x1, e1, w1⟩ := trod_int Tryz.underlying3 h1
  obtain ⟨x2, e2, w2⟩ := trod_int Tryz.underlying3 h2
  obtain ⟨x3, e3, w3⟩ := trod_int Tryz.underlying3 h3
  obtain ⟨x4, e4, w4⟩ := trod_int Tryz.underlying3 h4
  obtain ⟨x5, e5, w5⟩ := trod_int Tryz.underlying35 h5
  simp at e0 e1 e2 e3 e4 e5
  subst e0 e1 e2 e3 e4 e5
  exact ⟨(x0, x1, x2, x3, x4, x5), ⟨wf_i64 w0, wf_i64 w1, wf_i64 w2, wf_i64 w3, wf_i64 w4, wf_u64 w5⟩, rfl⟩
set_option maxRecDepth 100000 in
theorem arg_ord {v : Value} {d : DataW H} {ps : List MemPlace} (hok : Value.okWide Tryz.prog W r b0 37 v) (h : DataW.Trod enc Tryz.prog W base spare held 37 v d ps) : ∃ x : Ord, OrdW x ∧ nv (argN E0 W) v = sv G36 x := by
  obtain ⟨c, rfl⟩ := okWide_agg und37p hok
  obtain ⟨fuel, h⟩ := h
  obtain ⟨x, hw, hx⟩ := read_ord h
  refine ⟨x, hw, ?_⟩
  rw [nv_agg]
  have hx : c.toList = cellsO x := hx
  show Value.agg _ = Value.agg _
  congr 1
  apply Array.ext'
  rw [Array.toList_map, hx]
  simp [encs, Sc.enc]
  rfl
set_option maxRecDepth 100000 in
theorem arg_str {v : Value} {d : DataW H} {ps : List MemPlace} (hok : Value.okWide Tryz.prog W r b0 9 v) (h : DataW.Trod enc Tryz.prog W base spare held 9 v d ps) : ∃ l : List UInt8, nv (argN E0 W) v = strV l := by
  obtain ⟨fuel, h⟩ := h
  rw [okWide_cell Tryz.underlying9 rfl hok] at h
  obtain ⟨s, hs, _⟩ := trod_str Tryz.underlying9 h
  cases hs
  exact ⟨s.data.toList, by rw [nv_string]⟩
end
/-- Where a witness starts: the settled world, the listed variables laid in it. -/
theorem lay_met (os : Os) (args : Array Value) : laidMetH Tryz.prog laidO ((World.laidAll Tryz.prog os laidO).forCall (fun _ _ => 0) ⟨#[], args, []⟩).memory := by
  rw [MakeChecks.laidMetH_plain _ _ _ (by kernel_rfl)]
  exact laidMet_laidAll _ (by kernel_rfl) (by kernel_rfl)
end
end Go.Proofs.YtfopfocedlbihaaGreatDoor
