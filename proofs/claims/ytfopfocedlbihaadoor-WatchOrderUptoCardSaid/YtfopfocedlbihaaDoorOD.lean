/- Parts of the proof, put together. -/
import Derived.Test.YtfopfocedlbihaaDoorSB
import Derived.Test.YtfopfocedlbihaaDoorSA
import Derived.Test.YtfopfocedlbihaaDoorDE
import Derived.Test.YtfopfocedlbihaaDoorRows
import Derived.Lib.AtoiErrMem
import Derived.Lib.LaidTab
import Derived.Shelf.Vars
/- The library's functions by their contracts: the watch's. -/
namespace Go.Proofs.YtfopfocedlbihaaDoor
open Go Go.RowKit Go.Proofs.YtfopfocedlbihaaDoor.D
set_option linter.unusedVariables false
set_option linter.unusedSimpArgs false
noncomputable section

theorem primsC_all {E : Env} {P : Program} {N : PNums} {B : BNums}
    (hC : CallOk E P (fun g args S => if g = B.fC then ccP B.T args S else none))
    (hT : CallOk E P (fun g args S => if g = B.fT then strP B.T B.e args S else none))
    (hI : CallOk E P (fun g args S => if g = B.fI then (idxP args S).map (·, S) else none))
    (hU : CallOk E P (fun g args S => if g = B.fU then (cutP B.g1 args S).map (·, S) else none))
    (hB : ∀ f p, primsB N f = some p → CallOk E P (fun g args S => if g = f then p args S else none)) : ∀ f p, primsC N B f = some p → CallOk E P (fun g args S => if g = f then p args S else none) := by
  intro f p hp
  unfold primsC at hp
  split at hp
  · rename_i e; subst e; cases hp; exact hC
  split at hp
  · rename_i e; subst e; cases hp; exact hT
  split at hp
  · rename_i e; subst e; cases hp; exact hI
  split at hp
  · rename_i e; subst e; cases hp; exact hU
  · exact hB f p hp
theorem primsC_lwA {N : PNums} {B : BNums} : ∀ f p, primsC N B f = some p → ∀ args S v S', p args S = some (v, S') → Lw S S' :=
  fun f p hp args S v S' h => primsC_lw (E := { E0 with prim := primsC N B }) (N := N) (B := B) rfl f p hp args S v S' h
theorem ltOf_cfT : Go.Proofs.ltOf cfT = ltT := by
  funext a b
  obtain ⟨a1, a2, a3⟩ := a
  obtain ⟨b1, b2, b3⟩ := b
  unfold Go.Proofs.ltOf cfT ltT Lib.compareInt
  dsimp only
  by_cases h1 : a1 < b1 <;> by_cases h1' : b1 < a1 <;> by_cases h2 : a2 < b2 <;> by_cases h2' : b2 < a2 <;> by_cases h3 : a3 < b3 <;> by_cases h3' : b3 < a3 <;> simp [h1, h1', h2, h2', h3, h3'] <;> omega
theorem swoT : Sort.SWO (Go.Proofs.ltOf cfT) where
  irrefl x := by rw [ltOf_cfT]; simp [ltT]
  trans x y z h1 h2 := by rw [ltOf_cfT] at *; simp only [ltT, decide_eq_true_eq] at *; omega
  ntrans x y z h1 h2 := by rw [ltOf_cfT] at *; simp only [ltT, decide_eq_false_iff_not] at *; omega
theorem totT (x y : Tri) (h1 : Go.Proofs.ltOf cfT x y = false) (h2 : Go.Proofs.ltOf cfT y x = false) : x = y := by
  rw [ltOf_cfT] at *
  exact leT_antisymm (by simp [leT, h2]) (by simp [leT, h1])
theorem one_encT : ∀ x : Tri, ∀ v ∈ encT x, v.oneCell' = true := by
  intro x v hv
  simp only [encT, List.mem_cons, List.not_mem_nil, or_false] at hv
  rcases hv with rfl | rfl | rfl <;> rfl
theorem sortC1 (blk off cap : Nat) (d : Array Tri) (w : World) (hH : Sort.HoldsK encT 3 w blk off d) (hblk : blk < w.heap.size) (hsz : d.size < 4611686018427387904) :
    Calls Tryd.prog 21 #[.slice (some ⟨blk, off, none⟩) d.size cap, .func (.func 22) #[] #[]] w fun e w' => e = .returned (.tuple #[]) ∧ ∃ n os, w' = Sort.grow (Sort.putRowK encT 3 (Sort.ahead w n) blk off (d.toList.mergeSort fun x y => !ltT y x).toArray) os := by
  have h := AnyQ.slices_SortFunc_total Tryd.sortF 3 Tryd.isAgg33 Tryd.sizeOf33 encT (fun _ => rfl) one_encT cfT swoT 22 #[] blk off cap d w (enters_of Tryd.func22 (by kernel_rfl) rfl) (fun m os dk _ x y => by simpa using closure22 x y _) hH hblk hsz totT
  rw [ltOf_cfT] at h
  exact h
theorem primsOk : PrimOk E0 Tryd.prog := by
  refine primsS_ok (N := pN) (B := pB) (s := pS) (lt := ltT) rfl
    (sort_ok ⟨Tryd.f83, Tryd.func83, by kernel_rfl, by kernel_rfl⟩ (fun p c w => Any.slices_Sort_int_none Tryd.lays189 p c w) (fun blk off cap zs w h1 h2 h3 => Any.slices_Sort_int Tryd.lays189 blk off cap zs w h1 h2 h3))
    (sortF_ok ⟨Tryd.f21, Tryd.func21, by kernel_rfl, by kernel_rfl⟩ (fun p c w => AnyF.slices_SortFunc_none (P := Tryd.prog) (ρ := Tryd.sortF_ren) { Tryd.sortF with } p c (.func (.func 22) #[] #[]) w) sortC1)
    (primsC_all bldCC bldSS bldII bldUU (primsB_all (N := pN) ?_ ?_ ?_ ?_ ?_ ?_ ?_))
  · exact join_ok ⟨Tryd.f30, Tryd.func30, by kernel_rfl, by kernel_rfl⟩ (fun a c sep w => Tryd.strings_Join_none a c sep w) (fun bk o c xs sep w h1 h2 h3 h4 h5 => Tryd.strings_Join bk o c xs sep w h1 h2 h3 h4 h5)
  · exact split_ok (t9 := 9) (by decide +kernel) ⟨Tryd.f32, Tryd.func32, by kernel_rfl, by kernel_rfl⟩ (fun s sep m w h1 h2 h3 => Tryd.strings_Split s sep m w h1 h2 h3)
  · refine atoi_ok (by decide +kernel) (by decide +kernel) ⟨Tryd.f69, Tryd.func69, by kernel_rfl, by kernel_rfl⟩ ?_ ?_ ?_
    · intro s v w hl h
      refine (Tryd.strconv_Atoi_ok s (by omega) v h w).mono ?_
      rintro e w' ⟨rfl, rfl | ⟨t, rfl⟩⟩
      · exact ⟨rfl, Below.refl _ _⟩
      · exact ⟨rfl, Lib.bytesWorld_below _ _ _⟩
    · intro s ev w hl h hv hev
      refine (Tryd.strconv_Atoi_syntax s hl h ev w hv hev).mono ?_
      rintro e w' ⟨N, rfl, _, _, hb⟩
      exact ⟨⟨_, rfl⟩, hb⟩
    · intro s ev w hl h hv hev
      refine (Tryd.strconv_Atoi_range s hl h ev w hv hev).mono ?_
      rintro e w' ⟨N, rfl, _, _, hb⟩
      exact ⟨⟨_, rfl⟩, hb⟩
  · refine pu_ok (by decide +kernel) (by decide +kernel) ⟨Tryd.f71, Tryd.func71, by kernel_rfl, by kernel_rfl⟩ ?_ ?_ ?_
    · intro s v w hl h
      refine (Tryd.strconv_ParseUint_10_at64_ok s (by omega) v h w).mono ?_
      rintro e w' ⟨rfl, rfl | rfl⟩
      · exact ⟨rfl, Below.refl _ _⟩
      · exact ⟨rfl, Lib.bytesWorld_below _ _ _⟩
    · intro s ev w hl h hv hev
      refine (Tryd.strconv_ParseUint_10_at64_syntax s hl h ev w hv hev).mono ?_
      rintro e w' ⟨N, rfl, _, _, hb⟩
      exact ⟨⟨_, _, rfl⟩, hb⟩
    · intro s ev w hl h hv hev
      refine (Tryd.strconv_ParseUint_10_at64_range s hl h ev w hv hev).mono ?_
      rintro e w' ⟨N, rfl, _, _, hb⟩
      exact ⟨⟨_, _, rfl⟩, hb⟩
  · exact fmt_ok ⟨Tryd.f120, Tryd.func120, by kernel_rfl, by kernel_rfl⟩ (fun blk off cap u d w h1 h2 h3 h4 => Tryd.internal_strconv_formatBase10 blk off cap u d w h1 h2 h3 h4)
  · exact len_ok ⟨Tryd.f95, Tryd.func95, by kernel_rfl, by kernel_rfl⟩ (fun x w h1 h2 => Tryd.bits_Len64 x w h1 h2)
  · exact small_ok ⟨Tryd.f118, Tryd.func118, by kernel_rfl, by kernel_rfl⟩ (fun i w h => Tryd.internal_strconv_small i h w)
theorem primsLw : PrimLw E0 := primsS_lw (N := pN) (B := pB) (s := pS) (lt := ltT) rfl primsC_lwA
end
end Go.Proofs.YtfopfocedlbihaaDoor
