/- Parts of the proof, put together. -/
import Derived.Shelf.Sort.Plain
import Derived.Shelf.Slices.In.SortNone
import Derived.Shelf.SlSortCmp.NoneTotal
import Derived.Shelf.SlicesG.Cmp
import Derived.Shelf.SlGeneric
import Derived.Ground.SlsfProg
import Derived.Ground.SlgcProg
import Derived.Ground.MpProg
import Derived.Test.YtcdignblakejoaaProg
import Derived.Test.YtcdignblakejoaaKB
import Derived.StillTailTactics
/-
  DERIVED: THE SHELF's CONTRACTS AT THIS DUMP, IN PLAIN WORDS (tools/lay-plain.mjs out of 'YtcdignblakejoaaSrt.lean', which tools/lay-shelf.mjs wrote): THE SAME DECLARATIONS UNDER THE SAME NAMES: 'import', 'namespace', 'open', 'def', 'theorem' AND NOTHING ELSE: no command of the shelf's: FOR A HAND-IN. Each laying: the table of numbers ('.._ren') and one theorem, a field a fact of the dump's own or the kernel's comparison; each contract: ONE APPLICATION.
-/
namespace Go.Proofs
open Go.Shelf
def Try.sortF_ren : Go.Shelf.Ren := ⟨fun | 6 => 55 | 15 => 60 | 14 => 63 | 28 => 73 | 29 => 74 | 20 => 76 | 21 => 77 | 22 => 78 | 23 => 79 | 24 => 80 | 25 => 81 | 26 => 82 | 27 => 83 | 46 => 89 | 47 => 85 | 48 => 86 | 49 => 90 | 50 => 91 | 57 => 93 | n => n, fun | 22 => 101 | 24 => 68 | 25 => 106 | 3 => 3 | 39 => 62 | 0 => 0 | 53 => 30 | 55 => 131 | 4 => 4 | 46 => 123 | 45 => 122 | 50 => 77 | 5 => 5 | 9 => 9 | 66 => 138 | 70 => 142 | 76 => 146 | 77 => 147 | n => n, fun | n => n⟩
theorem Try.sortF : Go.Proofs.SlLaysF0.n6 Try.prog Try.sortF_ren := {
  mixed := by kernel_rfl
  f6 := ⟨Try.f55.name, by decide, Try.func55.trans (congrArg some (by kernel_rfl))⟩
  f14 := ⟨Try.f63.name, by decide, Try.func63.trans (congrArg some (by kernel_rfl))⟩
  f15 := Try.func60.trans (congrArg some (by kernel_rfl))
  f20 := ⟨Try.f76.name, by decide, Try.func76.trans (congrArg some (by kernel_rfl))⟩
  f21 := ⟨Try.f77.name, by decide, Try.func77.trans (congrArg some (by kernel_rfl))⟩
  f22 := ⟨Try.f78.name, by decide, Try.func78.trans (congrArg some (by kernel_rfl))⟩
  f23 := ⟨Try.f79.name, by decide, Try.func79.trans (congrArg some (by kernel_rfl))⟩
  f24 := ⟨Try.f80.name, by decide, Try.func80.trans (congrArg some (by kernel_rfl))⟩
  f25 := ⟨Try.f81.name, by decide, Try.func81.trans (congrArg some (by kernel_rfl))⟩
  f26 := ⟨Try.f82.name, by decide, Try.func82.trans (congrArg some (by kernel_rfl))⟩
  f27 := ⟨Try.f83.name, by decide, Try.func83.trans (congrArg some (by kernel_rfl))⟩
  f28 := Try.func73.trans (congrArg some (by kernel_rfl))
  f29 := Try.func74.trans (congrArg some (by kernel_rfl))
  f46 := ⟨Try.f89.name, by decide, Try.func89.trans (congrArg some (by kernel_rfl))⟩
  f47 := Try.func85.trans (congrArg some (by kernel_rfl))
  f48 := Try.func86.trans (congrArg some (by kernel_rfl))
  f49 := ⟨Try.f90.name, by decide, Try.func90.trans (congrArg some (by kernel_rfl))⟩
  f50 := ⟨Try.f91.name, by decide, Try.func91.trans (congrArg some (by kernel_rfl))⟩
  f57 := ⟨Try.f93.name, by decide, Try.func93.trans (congrArg some (by kernel_rfl))⟩
  t0 := Try.underlying0
  a0 := Try.isAgg0
  z0 := Try.sizeOf0
  v0 := Try.zeroValue0
  t3 := Try.underlying3
  a3 := Try.isAgg3
  z3 := Try.sizeOf3
  v3 := Try.zeroValue3
  t4 := Try.underlying4
  a4 := Try.isAgg4
  z4 := Try.sizeOf4
  v4 := Try.zeroValue4
  t5 := Try.underlying5
  a5 := Try.isAgg5
  z5 := Try.sizeOf5
  v5 := Try.zeroValue5
  t9 := Try.underlying9
  a9 := Try.isAgg9
  z9 := Try.sizeOf9
  v9 := Try.zeroValue9
  t22 := Try.underlying101
  a22 := Try.isAgg101
  z22 := Try.sizeOf101
  v22 := Try.zeroValue101
  t25 := Try.underlying106
  a25 := Try.isAgg106
  z25 := Try.sizeOf106
  v25 := Try.zeroValue106
  t39 := Try.underlying62
  a39 := Try.isAgg62
  z39 := Try.sizeOf62
  v39 := Try.zeroValue62
  t45 := Try.underlying122
  a45 := Try.isAgg122
  z45 := Try.sizeOf122
  v45 := Try.zeroValue122
  t46 := Try.underlying123
  a46 := Try.isAgg123
  z46 := Try.sizeOf123
  v46 := Try.zeroValue123
  t50 := Try.underlying77
  a50 := Try.isAgg77
  z50 := Try.sizeOf77
  v50 := Try.zeroValue77
  t53 := Try.underlying30
  a53 := Try.isAgg30
  z53 := Try.sizeOf30
  v53 := Try.zeroValue30
  t55 := Try.underlying131
  a55 := Try.isAgg131
  z55 := Try.sizeOf131
  v55 := Try.zeroValue131
  t66 := Try.underlying138
  a66 := Try.isAgg138
  z66 := Try.sizeOf138
  v66 := Try.zeroValue138
  t70 := Try.underlying142
  a70 := Try.isAgg142
  z70 := Try.sizeOf142
  v70 := Try.zeroValue142
  t76 := Try.underlying146
  a76 := Try.isAgg146
  z76 := Try.sizeOf146
  v76 := Try.zeroValue146
  t77 := Try.underlying147
  a77 := Try.isAgg147
  z77 := Try.sizeOf147
  v77 := Try.zeroValue147 }
def Try.cmpL_ren : Go.Shelf.Ren := ⟨fun | 5 => 45 | 7 => 57 | n => n, fun | 22 => 3 | 3 => 3 | 4 => 4 | n => n, fun | n => n⟩
theorem Try.cmpL : Go.Proofs.SlLaysC2.n5 Try.prog Try.cmpL_ren := {
  mixed := by kernel_rfl
  f5 := ⟨Try.f45.name, by decide, Try.func45.trans (congrArg some (by kernel_rfl))⟩
  f7 := ⟨Try.f57.name, by decide, Try.func57.trans (congrArg some (by kernel_rfl))⟩
  t3 := Try.underlying3
  a3 := Try.isAgg3
  z3 := Try.sizeOf3
  v3 := Try.zeroValue3
  t4 := Try.underlying4
  a4 := Try.isAgg4
  z4 := Try.sizeOf4
  v4 := Try.zeroValue4
  t22 := Try.underlying3
  a22 := Try.isAgg3
  z22 := Try.sizeOf3
  v22 := Try.zeroValue3 }
def Try.lays189_ren : Go.Shelf.Ren := ⟨fun | 189 => 47 | 125 => 60 | 257 => 59 | 128 => 73 | 129 => 74 | 294 => 64 | 295 => 65 | 296 => 66 | 297 => 67 | 298 => 68 | 299 => 69 | 216 => 70 | 300 => 71 | 301 => 72 | 328 => 84 | 329 => 85 | 330 => 86 | 331 => 87 | 332 => 88 | 215 => 57 | 343 => 92 | n => n, fun | 28 => 22 | 3 => 3 | 46 => 62 | 0 => 0 | 51 => 30 | 53 => 131 | 4 => 4 | 183 => 123 | 182 => 122 | 131 => 77 | 5 => 5 | 9 => 9 | 218 => 138 | 222 => 142 | 228 => 146 | 229 => 147 | n => n, fun | n => n⟩
theorem Try.lays189 : Go.Proofs.Lays.n189 Try.prog Try.lays189_ren := {
  mixed := by kernel_rfl
  f125 := Try.func60.trans (congrArg some (by kernel_rfl))
  f128 := Try.func73.trans (congrArg some (by kernel_rfl))
  f129 := Try.func74.trans (congrArg some (by kernel_rfl))
  f189 := Try.func47.trans (congrArg some (by kernel_rfl))
  f215 := Try.func57.trans (congrArg some (by kernel_rfl))
  f216 := Try.func70.trans (congrArg some (by kernel_rfl))
  f257 := Try.func59.trans (congrArg some (by kernel_rfl))
  f294 := Try.func64.trans (congrArg some (by kernel_rfl))
  f295 := Try.func65.trans (congrArg some (by kernel_rfl))
  f296 := Try.func66.trans (congrArg some (by kernel_rfl))
  f297 := Try.func67.trans (congrArg some (by kernel_rfl))
  f298 := Try.func68.trans (congrArg some (by kernel_rfl))
  f299 := Try.func69.trans (congrArg some (by kernel_rfl))
  f300 := Try.func71.trans (congrArg some (by kernel_rfl))
  f301 := Try.func72.trans (congrArg some (by kernel_rfl))
  f328 := Try.func84.trans (congrArg some (by kernel_rfl))
  f329 := Try.func85.trans (congrArg some (by kernel_rfl))
  f330 := Try.func86.trans (congrArg some (by kernel_rfl))
  f331 := Try.func87.trans (congrArg some (by kernel_rfl))
  f332 := Try.func88.trans (congrArg some (by kernel_rfl))
  f343 := Try.func92.trans (congrArg some (by kernel_rfl))
  t0 := Try.underlying0
  a0 := Try.isAgg0
  z0 := Try.sizeOf0
  v0 := Try.zeroValue0
  t3 := Try.underlying3
  a3 := Try.isAgg3
  z3 := Try.sizeOf3
  v3 := Try.zeroValue3
  t4 := Try.underlying4
  a4 := Try.isAgg4
  z4 := Try.sizeOf4
  v4 := Try.zeroValue4
  t5 := Try.underlying5
  a5 := Try.isAgg5
  z5 := Try.sizeOf5
  v5 := Try.zeroValue5
  t9 := Try.underlying9
  a9 := Try.isAgg9
  z9 := Try.sizeOf9
  v9 := Try.zeroValue9
  t28 := Try.underlying22
  a28 := Try.isAgg22
  z28 := Try.sizeOf22
  v28 := Try.zeroValue22
  t46 := Try.underlying62
  a46 := Try.isAgg62
  z46 := Try.sizeOf62
  v46 := Try.zeroValue62
  t51 := Try.underlying30
  a51 := Try.isAgg30
  z51 := Try.sizeOf30
  v51 := Try.zeroValue30
  t53 := Try.underlying131
  a53 := Try.isAgg131
  z53 := Try.sizeOf131
  v53 := Try.zeroValue131
  t131 := Try.underlying77
  a131 := Try.isAgg77
  z131 := Try.sizeOf77
  v131 := Try.zeroValue77
  t182 := Try.underlying122
  a182 := Try.isAgg122
  z182 := Try.sizeOf122
  v182 := Try.zeroValue122
  t183 := Try.underlying123
  a183 := Try.isAgg123
  z183 := Try.sizeOf123
  v183 := Try.zeroValue123
  t218 := Try.underlying138
  a218 := Try.isAgg138
  z218 := Try.sizeOf138
  v218 := Try.zeroValue138
  t222 := Try.underlying142
  a222 := Try.isAgg142
  z222 := Try.sizeOf142
  v222 := Try.zeroValue142
  t228 := Try.underlying146
  a228 := Try.isAgg146
  z228 := Try.sizeOf146
  v228 := Try.zeroValue146
  t229 := Try.underlying147
  a229 := Try.isAgg147
  z229 := Try.sizeOf147
  v229 := Try.zeroValue147 }
end Go.Proofs

/- slices.SortedFunc of a map's keys at this seat's shelf. -/
namespace Go.Proofs.Ytcdignblakejoaa
open Go Go.Shelf Go.RowKit Go.Lib Go.Sort
open Go.Proofs.Ytcdignblakejoaa.D (Pr prV prC sortP2 leP)
set_option linter.unusedVariables false
set_option linter.unusedSimpArgs false

theorem cmp_ok (x y : Int) (W : World) : Calls Try.prog 45 #[.int .i64 x, .int .i64 y] W fun e w' => e = .returned (.int .i64 (Lib.compareInt x y)) ∧ w' = W :=
  AnyG.cmp_Compare_int Try.cmpL x y W
set_option maxHeartbeats 1000000 in
theorem or_ok (b : Nat) (x y : Int) (W : World) (h0 : W.cell? ⟨b, 0, none⟩ = some (.int .i64 x)) (h1 : W.cell? ⟨b, 1, none⟩ = some (.int .i64 y)) :
    Calls Try.prog 44 #[.slice (some ⟨b, 0, none⟩) 2 2] W fun e w' => e = .returned (.int .i64 (if x ≠ 0 then x else y)) ∧ ∃ q, w' = W.drewN q := by
  go_enter Try.func44, Try.ntmps44
  go_wp2
  by_cases hx : x = 0
  · refine wp_loop_rounds 3 ?_
    rw [rounds_succ]
    go_wp2
    rw [rounds_succ]
    go_wp2
    · go_ret
      exact ⟨rfl, 0, rfl⟩
    · rename_i hz
      obtain rfl : y = 0 := by simpa using hz
      rw [rounds_succ]
      go_wp2
      go_ret
      exact ⟨rfl, 0, rfl⟩
  · refine wp_loop_rounds 1 ?_
    rw [rounds_succ]
    go_wp2
    go_ret
    exact ⟨rfl, 0, rfl⟩
def cfP (a b : Pr) : Int := if Lib.compareInt a.1 b.1 ≠ 0 then Lib.compareInt a.1 b.1 else Lib.compareInt a.2 b.2
set_option maxHeartbeats 4000000 in
set_option maxRecDepth 100000 in
theorem closure43 (a b : Pr) (W : World) : Calls Try.prog 43 #[.agg (prC a).toArray, .agg (prC b).toArray] W fun e w' => e = .returned (.int .i64 (cfP a b)) ∧ ∃ q os, w' = grow (W.drewN q) os := by
  obtain ⟨a1, a2⟩ := a
  obtain ⟨b1, b2⟩ := b
  have h1 := cmp_ok a1 b1
  have h2 := cmp_ok a2 b2
  unfold cfP
  dsimp only
  have h4 := fun (b : Nat) (W : World) => or_ok b (Lib.compareInt a1 b1) (Lib.compareInt a2 b2) W
  generalize (if Lib.compareInt a1 b1 ≠ 0 then Lib.compareInt a1 b1 else Lib.compareInt a2 b2) = res at h4 ⊢
  generalize Lib.compareInt a1 b1 = r1 at h1 h4 ⊢
  generalize Lib.compareInt a2 b2 = r2 at h2 h4 ⊢
  show Calls Try.prog 43 #[.agg #[.int .i64 a1, .int .i64 a2], .agg #[.int .i64 b1, .int .i64 b2]] W _
  go_enter Try.func43, Try.ntmps43
  go_wp2
  obtain ⟨W2, hW2⟩ : ∃ W2, W2 = (W.alloc (Obj.cells #[Value.int IntKind.i64 a1, Value.int IntKind.i64 a2] 68)).alloc (Obj.cells #[Value.int IntKind.i64 b1, Value.int IntKind.i64 b2] 68) := ⟨_, rfl⟩
  rw [← hW2]
  have hg : ∃ os, W2 = grow W os := ⟨#[Obj.cells #[Value.int IntKind.i64 a1, Value.int IntKind.i64 a2] 68, Obj.cells #[Value.int IntKind.i64 b1, Value.int IntKind.i64 b2] 68], by rw [hW2]; rfl⟩
  obtain ⟨os, hg⟩ := hg
  obtain ⟨W3, hW3⟩ : ∃ W3 : World, W3 = { W2 with drawn := W2.drawn + 1 } := ⟨_, rfl⟩
  have f0 : W3.cell? ⟨W.heap.size, 0, none⟩ = some (.int .i64 a1) := by subst hW3; show W2.cell? _ = _; subst hW2; simp
  have f1 : W3.cell? ⟨W.heap.size, 1, none⟩ = some (.int .i64 a2) := by subst hW3; show W2.cell? _ = _; subst hW2; simp
  have g0 : W3.cell? ⟨W.heap.size + 1, 0, none⟩ = some (.int .i64 b1) := by subst hW3; show W2.cell? _ = _; subst hW2; simp
  have g1 : W3.cell? ⟨W.heap.size + 1, 1, none⟩ = some (.int .i64 b2) := by subst hW3; show W2.cell? _ = _; subst hW2; simp
  have hg3 : ∃ os, W3 = grow (W.drewN 1) os := ⟨os, by subst hW3; rw [hg]; rfl⟩
  generalize hn : W.heap.size = n at f0 f1 g0 g1 ⊢
  refine wp_region_still_tail 10 (by kernel_rfl) (by kernel_rfl) ?_
  rw [← hW3]
  simp only [List.take_succ_cons, List.take_zero, List.drop_succ_cons, List.drop_zero]
  clear hW2 hW3 hg
  still_step
  still_step
  still_step
  still_step
  still_call (h1 _)
  still_step
  still_step
  still_step
  still_step
  still_call (h2 _)
  refine wpStill_nil ?_
  clear f0 f1 g0 g1 h1 h2
  go_wp2_with (go_at_call 44; refine (h4 _ _ (by simp) (by simp)).mono ?_; rintro e w' ⟨rfl, q, rfl⟩)
  go_ret
  obtain ⟨os, hg3⟩ := hg3
  subst hg3
  refine ⟨rfl, 1 + q, os ++ #[Obj.cells #[Value.int IntKind.i64 r1, Value.int IntKind.i64 r2] 3], ?_⟩
  rw [alloc_eq_grow, grow_grow]
  simp [World.drewN, grow, Nat.add_assoc]
  exact ⟨rfl, rfl, rfl⟩
theorem ltOf_cfP : Go.Proofs.ltOf cfP = fun a b => !leP b a := by
  funext a b
  obtain ⟨a1, a2⟩ := a
  obtain ⟨b1, b2⟩ := b
  unfold Go.Proofs.ltOf cfP leP Lib.compareInt
  dsimp only
  by_cases h1 : a1 < b1 <;> by_cases h1' : b1 < a1 <;> by_cases h2 : a2 < b2 <;> by_cases h2' : b2 < a2 <;> simp [h1, h1', h2, h2'] <;> omega
theorem swoP : Sort.SWO (Go.Proofs.ltOf cfP) where
  irrefl x := by rw [ltOf_cfP]; simp [leP]
  trans x y z h1 h2 := by rw [ltOf_cfP] at *; simp only [leP, Bool.not_eq_true', decide_eq_false_iff_not] at *; omega
  ntrans x y z h1 h2 := by rw [ltOf_cfP] at *; simp only [leP, Bool.not_eq_false', decide_eq_true_eq] at *; omega
theorem totP (x y : Pr) (h1 : Go.Proofs.ltOf cfP x y = false) (h2 : Go.Proofs.ltOf cfP y x = false) : x = y := by
  rw [ltOf_cfP] at *
  simp only [Bool.not_eq_false'] at h1 h2
  exact D.leP_antisymm h2 h1
theorem one_prC' : ∀ x : Pr, ∀ v ∈ prC x, v.oneCell' = true := one_prC
theorem flatK_prC (d : Array Pr) : (Sort.flatK prC 2 d).toList = d.toList.flatMap prC := by
  have key : ∀ (ts : List Pr) (i : Nat) (h : i < ts.length * 2), (ts.flatMap prC)[i]? = some (prC ts[i / 2]!)[i % 2]! := by
    intro ts
    induction ts with
    | nil => intro i h; simp at h
    | cons t ts ih =>
      intro i h
      rw [List.flatMap_cons]
      match i, h with
      | 0, _ => rfl
      | 1, _ => rfl
      | i + 2, h =>
        rw [List.getElem?_append_right (by simp [prC]), show i + 2 - (prC t).length = i from rfl, ih i (by simp at h; omega), show (i + 2) / 2 = i / 2 + 1 by omega, show (i + 2) % 2 = i % 2 by omega]
        simp
  refine List.ext_getElem? fun i => ?_
  by_cases h : i < d.size * 2
  · have h' : i < (Sort.flatK prC 2 d).size := by simpa using h
    rw [key d.toList i (by simpa using h), Array.getElem?_toList, Array.getElem?_eq_getElem h', ← getElem!_pos _ i h', Sort.get_flatK _ _ _ _ h]
    have hd : i / 2 < d.size := by omega
    rw [getElem!_pos d _ hd, getElem!_pos d.toList _ (by simpa using hd), Array.getElem_toList]
  · rw [List.getElem?_eq_none (by simp; omega), List.getElem?_eq_none (by rw [D.prC_len]; simp; omega)]
theorem sortC1 (blk off cap : Nat) (d : Array Pr) (w : World) (hH : Sort.HoldsK prC 2 w blk off d) (hblk : blk < w.heap.size) (hsz : d.size < 4611686018427387904) :
    Calls Try.prog 55 #[.slice (some ⟨blk, off, none⟩) d.size cap, .func (.func 43) #[] #[]] w fun e w' => e = .returned (.tuple #[]) ∧ ∃ n os, w' = Sort.grow (Sort.putRowK prC 2 (Sort.ahead w n) blk off (sortP2 d.toList).toArray) os := by
  have h := AnyQ.slices_SortFunc_total Try.sortF 2 Try.isAgg68 Try.sizeOf68 prC (fun _ => rfl) one_prC cfP swoP 43 #[] blk off cap d w (enters_of Try.func43 (by kernel_rfl) rfl) (fun m os dk _ x y => by simpa using closure43 x y _) hH hblk hsz totP
  rw [ltOf_cfP] at h
  have e : (fun x y => !(fun a b => !leP b a) y x) = leP := by funext x y; simp
  rw [e] at h
  exact h
theorem holds_of {w : World} {g : Nat} {cur : Array Value} {t : TypeId} (ss : List Pr) (hg : w.heap[g]? = some (.cells cur t (0, 0))) (h : cur.toList.take (ss.length * 2) = ss.flatMap prC) : Sort.HoldsK prC 2 w g 0 ss.toArray := by
  intro j hj
  have hj' : j < ss.length * 2 := by simpa using hj
  refine ⟨?_, by simp [World.frozen?, hg]⟩
  have e1 := congrArg (fun l : List Value => l[j]?) (flatK_prC ss.toArray)
  rw [show ss.toArray.toList = ss from rfl, ← h, List.getElem?_take_of_lt hj', Array.getElem?_toList, Array.getElem?_toList, Array.getElem?_eq_getElem hj] at e1
  rw [World.cell?, hg]
  simp only [Nat.zero_add]
  rw [getElem!_pos _ j hj]
  exact e1.symm
theorem heap_sortedK {w : World} {g n : Nat} {os : Array Obj} {cur : Array Value} {e : TypeId} {fr : Nat × Nat} (d : Array Pr) (hb : w.heap[g]? = some (.cells cur e fr)) :
    (Sort.grow (Sort.putRowK prC 2 (Sort.ahead w n) g 0 d) os).heap[g]? = some (.cells (Sort.putCells id 0 (Sort.flatK prC 2 d) cur) e fr) := by
  have hg : g < w.heap.size := (Array.getElem?_eq_some_iff.1 hb).1
  rw [Sort.heap_grow_old _ _ (by simpa [Sort.putRowK, Sort.putRow, Sort.mapBlock, Sort.ahead] using hg)]
  simp [Sort.putRowK, Sort.putRow, Sort.mapBlock, Sort.ahead, Array.getElem?_modify, hb, Sort.onCells]
theorem grown_sortedK {w : World} {g n : Nat} {os : Array Obj} (d : Array Pr) : w.grownBy (Sort.grow (Sort.putRowK prC 2 (Sort.ahead w n) g 0 d) os) (some g) := by
  refine ⟨rfl, rfl, rfl, by simp [Sort.putRowK, Sort.putRow, Sort.mapBlock, Sort.ahead, Sort.grow], fun k hk hne => ?_⟩
  rw [Sort.heap_grow_old _ _ (by simpa [Sort.putRowK, Sort.putRow, Sort.mapBlock, Sort.ahead] using hk)]
  have : g ≠ k := fun e => hne (by rw [e])
  simp [Sort.putRowK, Sort.putRow, Sort.mapBlock, Sort.ahead, Array.getElem?_modify, this]
theorem row_sorted {w : World} {g cap q : Nat} {cur : Array Value} {ss : List Pr} {os : Array Obj} (hg : w.heap[g]? = some (.cells cur 68 (0, 0))) (h1 : ss.length ≤ cap) (h2 : cap ≤ maxLen) (h3 : cur.size = cap * 2) {base : Nat} (hb : base ≤ g) :
    (Sort.grow (Sort.putRowK prC 2 (Sort.ahead w q) g 0 (sortP2 ss).toArray) os).ownsRow base 68 2 (.slice (some ⟨g, 0, none⟩) ss.length cap) ss.length ((sortP2 ss).flatMap prC) := by
  refine ⟨by rw [D.prC_len, D.sortP2_len], .inr ⟨g, cap, _, rfl, hb, heap_sortedK _ hg, h1, h2, by simp [Sort.putCells, h3], ?_⟩⟩
  have hF : (Sort.flatK prC 2 (sortP2 ss).toArray).size = ss.length * 2 := by simp [D.sortP2_len]
  have := D.putCells_list (base := 0) (o := 0) (n := ss.length * 2) (F := Sort.flatK prC 2 (sortP2 ss).toArray) (c := cur) (by omega) (by omega)
  rw [List.drop_zero] at this
  rw [this, flatK_prC]
  have hl : ((sortP2 ss).flatMap prC).length = ss.length * 2 := by rw [D.prC_len, D.sortP2_len]
  show List.take 0 _ ++ ((sortP2 ss).flatMap prC ++ List.drop (0 + ((sortP2 ss).flatMap prC).length) _) = _
  rw [List.take_zero, List.nil_append, hl, List.drop_of_length_le (by simp; omega), List.append_nil]
set_option maxRecDepth 100000 in
set_option maxHeartbeats 2000000 in
theorem sortedK (Bm ob N : Nat) (hN : N ≤ 1000000) (S : List Pr → Prop) (w : World) (hseq : SeqStopsK Fence.wide 2 Try.prog 56 #[.pointer (some ⟨Bm, ob, none⟩)] (fun x : Pr => #[prV x]) KeepsWalks S (fun _ => True) N w) :
    Calls Try.prog 41 #[.func (.func 56) #[] #[.pointer (some ⟨Bm, ob, none⟩)], .func (.func 43) #[] #[]] w fun e w' => ∃ (v : Value) (ss : List Pr), e = .returned v ∧ S ss ∧ w'.ownsRow w.heap.size 68 2 v ss.length ((sortP2 ss).flatMap prC) ∧ (ss = [] → v = .slice none 0 0) ∧ RowKit.Below w.heap.size w w' := by
  refine (callsIn_wide (n := 5)).1 ?_
  have h1 : 1 ≤ 5 := by omega
  refine callsIn_of_wp Try.func41 rfl trivial ?_ rfl
  simp only [Try.ntmps41, List.size_toArray, List.length_cons, List.length_nil, Nat.reduceAdd, Nat.reduceSub, Array.replicate_succ, Array.replicate_zero, List.push_toArray, List.append_toArray, List.nil_append, List.cons_append]
  gi_wp2_with (refine ⟨trivial, ?_⟩; gi_at_call 54; refine (collectK Fence.wide 4 trivial trivial rfl (by omega) 56 _ trivial (enters_of Try.func56 (by kernel_rfl) rfl) S N hN _ hseq).mono ?_; rintro e w1 ⟨v, ss, rfl, hS, hrow, hnil, hl, hb⟩)
  rcases hrow.2 with ⟨rfl, hz⟩ | ⟨g, cap, cur, rfl, hbase, hg, r1, r2, r3, r4⟩
  · have hss : ss = [] := List.eq_nil_of_length_eq_zero hz
    subst hss
    gi_wp2_with (refine ⟨trivial, ?_⟩; gi_at_call 55; refine (callsIn_wide.2 (AnyF.slices_SortFunc_none (P := Try.prog) (ρ := Try.sortF_ren) { Try.sortF with } none 0 (.func (.func 43) #[] #[]) _)).mono ?_; rintro e w2 ⟨rfl, rfl⟩)
    go_ret
    exact ⟨.slice none 0 0, [], rfl, hS, ⟨by rw [D.prC_len, D.sortP2_len], .inl ⟨rfl, rfl⟩⟩, fun _ => rfl, hb⟩
  · have hH := holds_of ss hg r4
    have hgl : g < w1.heap.size := (Array.getElem?_eq_some_iff.1 hg).1
    have hC := sortC1 g 0 cap ss.toArray w1 hH hgl (by simp; omega)
    rw [show ss.toArray.size = ss.length by simp, show ss.toArray.toList = ss from rfl] at hC
    gi_wp2_with (refine ⟨trivial, ?_⟩; gi_at_call 55; refine (callsIn_wide.2 hC).mono ?_; rintro e w2 ⟨rfl, nn, os, rfl⟩)
    go_ret
    exact ⟨_, ss, rfl, hS, row_sorted hg r1 r2 r3 (by omega), fun h => by subst h; simp at hnil, hb.grown (grown_sortedK _) hb.size (fun j hj => by cases hj; omega)⟩
theorem skC0 (Bm o : Nat) (w : World) (h1 : Bm < w.heap.size) (h2 : w.cell? ⟨Bm, o, none⟩ = some (.map none)) (h3 : w.frozen? ⟨Bm, o, none⟩ = false) :
    Calls Try.prog 41 #[.func (.func 56) #[] #[.pointer (some ⟨Bm, o, none⟩)], .func (.func 43) #[] #[]] w fun e w' => e = .returned (.slice none 0 0) ∧ RowKit.Below w.heap.size w w' := by
  refine (sortedK Bm o 0 (by omega) (fun xs => xs.Perm []) w (keysK0 Fence.wide 2 trivial rfl (by omega) Bm o w h1 h2)).mono ?_
  rintro e w' ⟨v, ss, rfl, hS, hrow, hn, hb⟩
  obtain rfl := hS.eq_nil
  rw [hn rfl]
  exact ⟨rfl, hb⟩
theorem skC1 (Bm o b clock : Nat) (es : Array MapEntry) (ks : List Pr) (w : World) (h1 : Bm < w.heap.size) (h2 : w.cell? ⟨Bm, o, none⟩ = some (.map (some b))) (h3 : w.frozen? ⟨Bm, o, none⟩ = false) (h4 : w.heap[b]? = some (.map es clock))
    (h5 : es.toList.map (·.key) = ks.map prV) (h6 : (es.toList.map (·.born)).Nodup) (h7 : ∀ x ∈ es.toList, x.born < clock) (h8 : ks.length ≤ 1000000) :
    Calls Try.prog 41 #[.func (.func 56) #[] #[.pointer (some ⟨Bm, o, none⟩)], .func (.func 43) #[] #[]] w fun e w' => ∃ v, e = .returned v ∧ w'.ownsRow w.heap.size 68 2 v ks.length ((sortP2 ks).flatMap prC) ∧ (ks = [] → v = .slice none 0 0) ∧ RowKit.Below w.heap.size w w' := by
  refine (sortedK Bm o ks.length h8 (fun xs => xs.Perm ks) w (keysK Fence.wide 2 trivial rfl (by omega) Bm o b clock es ks w h1 h2 h4 h5 h6 h7)).mono ?_
  rintro e w' ⟨v, ss, rfl, hS, hrow, hn, hb⟩
  refine ⟨v, rfl, ?_, fun h => hn (by subst h; exact hS.eq_nil), hb⟩
  rw [← D.sortP2_perm hS, ← hS.length_eq]
  exact hrow
end Go.Proofs.Ytcdignblakejoaa
