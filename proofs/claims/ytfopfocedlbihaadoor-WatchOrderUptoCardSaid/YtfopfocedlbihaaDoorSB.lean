/- Parts of the proof, put together. -/
import Derived.Shelf.Sort.Plain
import Derived.Shelf.Slices.In.SortNone
import Derived.Shelf.SlSortCmp.NoneTotal
import Derived.Shelf.SlicesG.Cmp
import Derived.Shelf.SlGeneric
import Derived.Ground.SlsfProg
import Derived.Ground.SlgcProg
import Derived.Ground.MpProg
import Derived.Test.YtfopfocedlbihaaDoorProg
import Derived.Test.YtfopfocedlbihaaDoorWA
import Derived.Test.YtfopfocedlbihaaDoorChecked
import Derived.WalkKit
import Derived.StillTailTactics
/-
  DERIVED: THE SHELF's CONTRACTS AT THIS DUMP, IN PLAIN WORDS (tools/lay-plain.mjs out of 'YtfopfocedlbihaaDoorSrt.lean', which tools/lay-shelf.mjs wrote): THE SAME DECLARATIONS UNDER THE SAME NAMES: 'import', 'namespace', 'open', 'def', 'theorem' AND NOTHING ELSE: no command of the shelf's: FOR A HAND-IN. Each laying: the table of numbers ('.._ren') and one theorem, a field a fact of the dump's own or the kernel's comparison; each contract: ONE APPLICATION.
-/
namespace Go.Proofs
open Go.Shelf
def Tryd.sortF_ren : Go.Shelf.Ren := ⟨fun | 6 => 21 | 15 => 57 | 14 => 56 | 28 => 94 | 29 => 95 | 20 => 86 | 21 => 87 | 22 => 88 | 23 => 89 | 24 => 90 | 25 => 91 | 26 => 92 | 27 => 93 | 46 => 113 | 47 => 114 | 48 => 115 | 49 => 116 | 50 => 117 | 57 => 146 | n => n, fun | 22 => 30 | 24 => 33 | 25 => 68 | 3 => 3 | 39 => 119 | 0 => 0 | 53 => 36 | 55 => 46 | 4 => 4 | 46 => 143 | 45 => 142 | 50 => 147 | 5 => 5 | 9 => 9 | 66 => 162 | 70 => 166 | 76 => 189 | 77 => 190 | n => n, fun | n => n⟩
theorem Tryd.sortF : Go.Proofs.SlLaysF0.n6 Tryd.prog Tryd.sortF_ren := {
  mixed := by kernel_rfl
  f6 := ⟨Tryd.f21.name, by decide, Tryd.func21.trans (congrArg some (by kernel_rfl))⟩
  f14 := ⟨Tryd.f56.name, by decide, Tryd.func56.trans (congrArg some (by kernel_rfl))⟩
  f15 := Tryd.func57.trans (congrArg some (by kernel_rfl))
  f20 := ⟨Tryd.f86.name, by decide, Tryd.func86.trans (congrArg some (by kernel_rfl))⟩
  f21 := ⟨Tryd.f87.name, by decide, Tryd.func87.trans (congrArg some (by kernel_rfl))⟩
  f22 := ⟨Tryd.f88.name, by decide, Tryd.func88.trans (congrArg some (by kernel_rfl))⟩
  f23 := ⟨Tryd.f89.name, by decide, Tryd.func89.trans (congrArg some (by kernel_rfl))⟩
  f24 := ⟨Tryd.f90.name, by decide, Tryd.func90.trans (congrArg some (by kernel_rfl))⟩
  f25 := ⟨Tryd.f91.name, by decide, Tryd.func91.trans (congrArg some (by kernel_rfl))⟩
  f26 := ⟨Tryd.f92.name, by decide, Tryd.func92.trans (congrArg some (by kernel_rfl))⟩
  f27 := ⟨Tryd.f93.name, by decide, Tryd.func93.trans (congrArg some (by kernel_rfl))⟩
  f28 := Tryd.func94.trans (congrArg some (by kernel_rfl))
  f29 := Tryd.func95.trans (congrArg some (by kernel_rfl))
  f46 := ⟨Tryd.f113.name, by decide, Tryd.func113.trans (congrArg some (by kernel_rfl))⟩
  f47 := Tryd.func114.trans (congrArg some (by kernel_rfl))
  f48 := Tryd.func115.trans (congrArg some (by kernel_rfl))
  f49 := ⟨Tryd.f116.name, by decide, Tryd.func116.trans (congrArg some (by kernel_rfl))⟩
  f50 := ⟨Tryd.f117.name, by decide, Tryd.func117.trans (congrArg some (by kernel_rfl))⟩
  f57 := ⟨Tryd.f146.name, by decide, Tryd.func146.trans (congrArg some (by kernel_rfl))⟩
  t0 := Tryd.underlying0
  a0 := Tryd.isAgg0
  z0 := Tryd.sizeOf0
  v0 := Tryd.zeroValue0
  t3 := Tryd.underlying3
  a3 := Tryd.isAgg3
  z3 := Tryd.sizeOf3
  v3 := Tryd.zeroValue3
  t4 := Tryd.underlying4
  a4 := Tryd.isAgg4
  z4 := Tryd.sizeOf4
  v4 := Tryd.zeroValue4
  t5 := Tryd.underlying5
  a5 := Tryd.isAgg5
  z5 := Tryd.sizeOf5
  v5 := Tryd.zeroValue5
  t9 := Tryd.underlying9
  a9 := Tryd.isAgg9
  z9 := Tryd.sizeOf9
  v9 := Tryd.zeroValue9
  t22 := Tryd.underlying30
  a22 := Tryd.isAgg30
  z22 := Tryd.sizeOf30
  v22 := Tryd.zeroValue30
  t25 := Tryd.underlying68
  a25 := Tryd.isAgg68
  z25 := Tryd.sizeOf68
  v25 := Tryd.zeroValue68
  t39 := Tryd.underlying119
  a39 := Tryd.isAgg119
  z39 := Tryd.sizeOf119
  v39 := Tryd.zeroValue119
  t45 := Tryd.underlying142
  a45 := Tryd.isAgg142
  z45 := Tryd.sizeOf142
  v45 := Tryd.zeroValue142
  t46 := Tryd.underlying143
  a46 := Tryd.isAgg143
  z46 := Tryd.sizeOf143
  v46 := Tryd.zeroValue143
  t50 := Tryd.underlying147
  a50 := Tryd.isAgg147
  z50 := Tryd.sizeOf147
  v50 := Tryd.zeroValue147
  t53 := Tryd.underlying36
  a53 := Tryd.isAgg36
  z53 := Tryd.sizeOf36
  v53 := Tryd.zeroValue36
  t55 := Tryd.underlying46
  a55 := Tryd.isAgg46
  z55 := Tryd.sizeOf46
  v55 := Tryd.zeroValue46
  t66 := Tryd.underlying162
  a66 := Tryd.isAgg162
  z66 := Tryd.sizeOf162
  v66 := Tryd.zeroValue162
  t70 := Tryd.underlying166
  a70 := Tryd.isAgg166
  z70 := Tryd.sizeOf166
  v70 := Tryd.zeroValue166
  t76 := Tryd.underlying189
  a76 := Tryd.isAgg189
  z76 := Tryd.sizeOf189
  v76 := Tryd.zeroValue189
  t77 := Tryd.underlying190
  a77 := Tryd.isAgg190
  z77 := Tryd.sizeOf190
  v77 := Tryd.zeroValue190 }
def Tryd.cmpL_ren : Go.Shelf.Ren := ⟨fun | 5 => 24 | 7 => 58 | n => n, fun | 22 => 3 | 3 => 3 | 4 => 4 | n => n, fun | n => n⟩
theorem Tryd.cmpL : Go.Proofs.SlLaysC2.n5 Tryd.prog Tryd.cmpL_ren := {
  mixed := by kernel_rfl
  f5 := ⟨Tryd.f24.name, by decide, Tryd.func24.trans (congrArg some (by kernel_rfl))⟩
  f7 := ⟨Tryd.f58.name, by decide, Tryd.func58.trans (congrArg some (by kernel_rfl))⟩
  t3 := Tryd.underlying3
  a3 := Tryd.isAgg3
  z3 := Tryd.sizeOf3
  v3 := Tryd.zeroValue3
  t4 := Tryd.underlying4
  a4 := Tryd.isAgg4
  z4 := Tryd.sizeOf4
  v4 := Tryd.zeroValue4
  t22 := Tryd.underlying3
  a22 := Tryd.isAgg3
  z22 := Tryd.sizeOf3
  v22 := Tryd.zeroValue3 }
def Tryd.lays189_ren : Go.Shelf.Ren := ⟨fun | 189 => 83 | 125 => 57 | 257 => 112 | 128 => 94 | 129 => 95 | 294 => 137 | 295 => 138 | 296 => 139 | 297 => 140 | 298 => 141 | 299 => 142 | 216 => 143 | 300 => 144 | 301 => 145 | 328 => 155 | 329 => 114 | 330 => 115 | 331 => 156 | 332 => 157 | 215 => 58 | 343 => 160 | n => n, fun | 28 => 22 | 3 => 3 | 46 => 119 | 0 => 0 | 51 => 36 | 53 => 46 | 4 => 4 | 183 => 143 | 182 => 142 | 131 => 147 | 5 => 5 | 9 => 9 | 218 => 162 | 222 => 166 | 228 => 189 | 229 => 190 | n => n, fun | n => n⟩
theorem Tryd.lays189 : Go.Proofs.Lays.n189 Tryd.prog Tryd.lays189_ren := {
  mixed := by kernel_rfl
  f125 := Tryd.func57.trans (congrArg some (by kernel_rfl))
  f128 := Tryd.func94.trans (congrArg some (by kernel_rfl))
  f129 := Tryd.func95.trans (congrArg some (by kernel_rfl))
  f189 := Tryd.func83.trans (congrArg some (by kernel_rfl))
  f215 := Tryd.func58.trans (congrArg some (by kernel_rfl))
  f216 := Tryd.func143.trans (congrArg some (by kernel_rfl))
  f257 := Tryd.func112.trans (congrArg some (by kernel_rfl))
  f294 := Tryd.func137.trans (congrArg some (by kernel_rfl))
  f295 := Tryd.func138.trans (congrArg some (by kernel_rfl))
  f296 := Tryd.func139.trans (congrArg some (by kernel_rfl))
  f297 := Tryd.func140.trans (congrArg some (by kernel_rfl))
  f298 := Tryd.func141.trans (congrArg some (by kernel_rfl))
  f299 := Tryd.func142.trans (congrArg some (by kernel_rfl))
  f300 := Tryd.func144.trans (congrArg some (by kernel_rfl))
  f301 := Tryd.func145.trans (congrArg some (by kernel_rfl))
  f328 := Tryd.func155.trans (congrArg some (by kernel_rfl))
  f329 := Tryd.func114.trans (congrArg some (by kernel_rfl))
  f330 := Tryd.func115.trans (congrArg some (by kernel_rfl))
  f331 := Tryd.func156.trans (congrArg some (by kernel_rfl))
  f332 := Tryd.func157.trans (congrArg some (by kernel_rfl))
  f343 := Tryd.func160.trans (congrArg some (by kernel_rfl))
  t0 := Tryd.underlying0
  a0 := Tryd.isAgg0
  z0 := Tryd.sizeOf0
  v0 := Tryd.zeroValue0
  t3 := Tryd.underlying3
  a3 := Tryd.isAgg3
  z3 := Tryd.sizeOf3
  v3 := Tryd.zeroValue3
  t4 := Tryd.underlying4
  a4 := Tryd.isAgg4
  z4 := Tryd.sizeOf4
  v4 := Tryd.zeroValue4
  t5 := Tryd.underlying5
  a5 := Tryd.isAgg5
  z5 := Tryd.sizeOf5
  v5 := Tryd.zeroValue5
  t9 := Tryd.underlying9
  a9 := Tryd.isAgg9
  z9 := Tryd.sizeOf9
  v9 := Tryd.zeroValue9
  t28 := Tryd.underlying22
  a28 := Tryd.isAgg22
  z28 := Tryd.sizeOf22
  v28 := Tryd.zeroValue22
  t46 := Tryd.underlying119
  a46 := Tryd.isAgg119
  z46 := Tryd.sizeOf119
  v46 := Tryd.zeroValue119
  t51 := Tryd.underlying36
  a51 := Tryd.isAgg36
  z51 := Tryd.sizeOf36
  v51 := Tryd.zeroValue36
  t53 := Tryd.underlying46
  a53 := Tryd.isAgg46
  z53 := Tryd.sizeOf46
  v53 := Tryd.zeroValue46
  t131 := Tryd.underlying147
  a131 := Tryd.isAgg147
  z131 := Tryd.sizeOf147
  v131 := Tryd.zeroValue147
  t182 := Tryd.underlying142
  a182 := Tryd.isAgg142
  z182 := Tryd.sizeOf142
  v182 := Tryd.zeroValue142
  t183 := Tryd.underlying143
  a183 := Tryd.isAgg143
  z183 := Tryd.sizeOf143
  v183 := Tryd.zeroValue143
  t218 := Tryd.underlying162
  a218 := Tryd.isAgg162
  z218 := Tryd.sizeOf162
  v218 := Tryd.zeroValue162
  t222 := Tryd.underlying166
  a222 := Tryd.isAgg166
  z222 := Tryd.sizeOf166
  v222 := Tryd.zeroValue166
  t228 := Tryd.underlying189
  a228 := Tryd.isAgg189
  z228 := Tryd.sizeOf189
  v228 := Tryd.zeroValue189
  t229 := Tryd.underlying190
  a229 := Tryd.isAgg190
  z229 := Tryd.sizeOf190
  v229 := Tryd.zeroValue190 }
end Go.Proofs

/- slices.Sort, slices.SortFunc at this seat: the closure that compares. -/
namespace Go.Proofs.YtfopfocedlbihaaDoor
open Go Go.Shelf Go.RowKit Go.Lib Go.Sort
set_option linter.unusedVariables false
set_option linter.unusedSimpArgs false

theorem cmp_ok (x y : Int) (W : World) : Calls Tryd.prog 24 #[.int .i64 x, .int .i64 y] W fun e w' => e = .returned (.int .i64 (Lib.compareInt x y)) ∧ w' = W :=
  AnyG.cmp_Compare_int Tryd.cmpL x y W
set_option maxHeartbeats 1000000 in
theorem or_ok (b : Nat) (x y z : Int) (W : World) (h0 : W.cell? ⟨b, 0, none⟩ = some (.int .i64 x)) (h1 : W.cell? ⟨b, 1, none⟩ = some (.int .i64 y)) (h2 : W.cell? ⟨b, 2, none⟩ = some (.int .i64 z)) :
    Calls Tryd.prog 23 #[.slice (some ⟨b, 0, none⟩) 3 3] W fun e w' => e = .returned (.int .i64 (if x ≠ 0 then x else if y ≠ 0 then y else z)) ∧ ∃ q, w' = W.drewN q := by
  go_enter Tryd.func23, Tryd.ntmps23
  go_wp2
  by_cases hx : x = 0
  · by_cases hy : y = 0
    · refine wp_loop_rounds 4 ?_
      rw [rounds_succ]
      go_wp2
      rw [rounds_succ]
      go_wp2
      rw [rounds_succ]
      go_wp2
      · go_ret
        exact ⟨rfl, 0, rfl⟩
      · rename_i hz
        obtain rfl : z = 0 := by simpa using hz
        rw [rounds_succ]
        go_wp2
        go_ret
        exact ⟨rfl, 0, rfl⟩
    · refine wp_loop_rounds 2 ?_
      rw [rounds_succ]
      go_wp2
      rw [rounds_succ]
      go_wp2
      go_ret
      exact ⟨rfl, 0, rfl⟩
  · refine wp_loop_rounds 1 ?_
    rw [rounds_succ]
    go_wp2
    go_ret
    exact ⟨rfl, 0, rfl⟩
theorem or3 (x y z : Int) : (if x ≠ 0 then x else if y ≠ 0 then y else z) = if x ≠ 0 then x else if y ≠ 0 then y else z := rfl
def cfT (a b : D.Tri) : Int := if Lib.compareInt a.1 b.1 ≠ 0 then Lib.compareInt a.1 b.1 else if Lib.compareInt a.2.1 b.2.1 ≠ 0 then Lib.compareInt a.2.1 b.2.1 else Lib.compareInt a.2.2 b.2.2
set_option maxHeartbeats 4000000 in
set_option maxRecDepth 100000 in
theorem closure22 (a b : D.Tri) (W : World) : Calls Tryd.prog 22 #[.agg (D.encT a).toArray, .agg (D.encT b).toArray] W fun e w' => e = .returned (.int .i64 (cfT a b)) ∧ ∃ q os, w' = grow (W.drewN q) os := by
  obtain ⟨a1, a2, a3⟩ := a
  obtain ⟨b1, b2, b3⟩ := b
  have h1 := cmp_ok a1 b1
  have h2 := cmp_ok a2 b2
  have h3 := cmp_ok a3 b3
  unfold cfT
  dsimp only
  have h4 := fun (b : Nat) (W : World) => or_ok b (Lib.compareInt a1 b1) (Lib.compareInt a2 b2) (Lib.compareInt a3 b3) W
  generalize (if Lib.compareInt a1 b1 ≠ 0 then Lib.compareInt a1 b1 else if Lib.compareInt a2 b2 ≠ 0 then Lib.compareInt a2 b2 else Lib.compareInt a3 b3) = res at h4 ⊢
  generalize Lib.compareInt a1 b1 = r1 at h1 h4 ⊢
  generalize Lib.compareInt a2 b2 = r2 at h2 h4 ⊢
  generalize Lib.compareInt a3 b3 = r3 at h3 h4 ⊢
  show Calls Tryd.prog 22 #[.agg #[.int .i64 a1, .int .i64 a2, .int .i64 a3], .agg #[.int .i64 b1, .int .i64 b2, .int .i64 b3]] W _
  go_enter Tryd.func22, Tryd.ntmps22
  go_wp2
  obtain ⟨W2, hW2⟩ : ∃ W2, W2 = (W.alloc (Obj.cells #[Value.int IntKind.i64 a1, Value.int IntKind.i64 a2, Value.int IntKind.i64 a3] 33)).alloc (Obj.cells #[Value.int IntKind.i64 b1, Value.int IntKind.i64 b2, Value.int IntKind.i64 b3] 33) := ⟨_, rfl⟩
  rw [← hW2]
  have hg : ∃ os, W2 = grow W os := ⟨#[Obj.cells #[Value.int IntKind.i64 a1, Value.int IntKind.i64 a2, Value.int IntKind.i64 a3] 33, Obj.cells #[Value.int IntKind.i64 b1, Value.int IntKind.i64 b2, Value.int IntKind.i64 b3] 33], by rw [hW2]; rfl⟩
  obtain ⟨os, hg⟩ := hg
  obtain ⟨W3, hW3⟩ : ∃ W3 : World, W3 = { W2 with drawn := W2.drawn + 1 } := ⟨_, rfl⟩
  have f0 : W3.cell? ⟨W.heap.size, 0, none⟩ = some (.int .i64 a1) := by subst hW3; show W2.cell? _ = _; subst hW2; simp
  have f1 : W3.cell? ⟨W.heap.size, 1, none⟩ = some (.int .i64 a2) := by subst hW3; show W2.cell? _ = _; subst hW2; simp
  have f2 : W3.cell? ⟨W.heap.size, 2, none⟩ = some (.int .i64 a3) := by subst hW3; show W2.cell? _ = _; subst hW2; simp
  have g0 : W3.cell? ⟨W.heap.size + 1, 0, none⟩ = some (.int .i64 b1) := by subst hW3; show W2.cell? _ = _; subst hW2; simp
  have g1 : W3.cell? ⟨W.heap.size + 1, 1, none⟩ = some (.int .i64 b2) := by subst hW3; show W2.cell? _ = _; subst hW2; simp
  have g2 : W3.cell? ⟨W.heap.size + 1, 2, none⟩ = some (.int .i64 b3) := by subst hW3; show W2.cell? _ = _; subst hW2; simp
  have hg3 : ∃ os, W3 = grow (W.drewN 1) os := ⟨os, by subst hW3; rw [hg]; rfl⟩
  generalize hn : W.heap.size = n at f0 f1 f2 g0 g1 g2 ⊢
  refine wp_region_still_tail 15 (by kernel_rfl) (by kernel_rfl) ?_
  rw [← hW3]
  simp only [List.take_succ_cons, List.take_zero, List.drop_succ_cons, List.drop_zero]
  clear hW2 hW3 hg
  still_step
  still_step
  still_step
  still_step
  still_call (h1 _)
  still_step
  still_step
  still_step
  still_step
  still_call (h2 _)
  still_step
  still_step
  still_step
  still_step
  still_call (h3 _)
  refine wpStill_nil ?_
  clear f0 f1 f2 g0 g1 g2 h1 h2 h3
  go_wp2_with (go_at_call 23; refine (h4 _ _ (by simp) (by simp) (by simp)).mono ?_; rintro e w' ⟨rfl, q, rfl⟩)
  go_ret
  obtain ⟨os, hg3⟩ := hg3
  subst hg3
  refine ⟨rfl, 1 + q, os ++ #[Obj.cells #[Value.int IntKind.i64 r1, Value.int IntKind.i64 r2, Value.int IntKind.i64 r3] 3], ?_⟩
  rw [alloc_eq_grow, grow_grow]
  simp [World.drewN, grow, Nat.add_assoc]
  exact ⟨rfl, rfl, rfl⟩
end Go.Proofs.YtfopfocedlbihaaDoor
