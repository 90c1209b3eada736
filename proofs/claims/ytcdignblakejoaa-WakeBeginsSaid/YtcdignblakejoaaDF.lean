/- Parts of the proof, put together. -/
import Derived.Test.YtcdignblakejoaaDE
import Derived.Shelf.GgSortFunc.RowK
/-
  D, part 39: slices.Sort at ints, slices.SortFunc at structs of three ints: by contracts.
-/
namespace Go.Proofs.Ytcdignblakejoaa.D
noncomputable section
open Go.RowKit
set_option linter.unusedVariables false
set_option linter.unusedSimpArgs false

theorem putCells_list {base o n : Nat} {F c : Array Value} (h1 : base + n ≤ c.size) (h2 : o + F.size ≤ n) :
    ((Sort.putCells id (base + o) F c).toList.drop base).take n = splice ((c.toList.drop base).take n) o F.toList := by
  have hL : ((c.toList.drop base).take n).length = n := by simp; omega
  have hg : ∀ i, i < n → ((c.toList.drop base).take n)[i]? = c[base + i]? := fun i hi => by rw [List.getElem?_take_of_lt hi, List.getElem?_drop, Array.getElem?_toList]
  refine List.ext_getElem? fun i => ?_
  by_cases hi : i < n
  · have hb : base + i < c.size := by omega
    rw [List.getElem?_take_of_lt hi, List.getElem?_drop, Array.getElem?_toList]
    unfold Sort.putCells splice
    rw [Array.getElem?_mapIdx, Array.getElem?_eq_getElem hb, Option.map_some]
    by_cases g1 : i < o
    · rw [if_neg (by omega), List.getElem?_append_left (by rw [List.length_take, hL]; omega), List.getElem?_take_of_lt g1, hg i hi, Array.getElem?_eq_getElem hb]
    · have e1 : (List.take o ((c.toList.drop base).take n)).length = o := by rw [List.length_take, hL]; omega
      rw [List.getElem?_append_right (by rw [e1]; omega), e1]
      by_cases g2 : i < o + F.size
      · have hF : i - o < F.size := by omega
        rw [if_pos (by omega), List.getElem?_append_left (by rw [Array.length_toList]; omega), Array.getElem?_toList, Array.getElem?_eq_getElem hF, show base + i - (base + o) = i - o by omega, getElem!_pos F (i - o) hF]
        rfl
      · rw [if_neg (by omega), List.getElem?_append_right (by rw [Array.length_toList]; omega), List.getElem?_drop, Array.length_toList, show o + F.size + (i - o - F.size) = i by omega, hg i hi, Array.getElem?_eq_getElem hb]
  · rw [List.getElem?_eq_none (by simp [Sort.putCells]; omega), List.getElem?_eq_none (by rw [splice_length (by rw [hL, Array.length_toList]; exact h2), hL]; omega)]
def isI : Value → Bool
  | .int _ _ => true
  | _ => false
theorem vr_same {m : Mp} {v v' : Value} (h : VR m v v') (hi : isI v = true) : v' = v := by
  cases h <;> first | rfl | cases hi
theorem vr_isI {m : Mp} {v : Value} (hi : isI v = true) : VR m v v := by
  cases v <;> first | exact .int _ _ | cases hi
section
variable {E : Env} {m : Mp} {S : St} {w : World} (hH : HR E m S w)
include hH
/-- A row of ints is written anew; new blocks. -/
theorem put_ok {b : Nat} {cs : List Value} {more : Option Nat} {x : BM} (hg : S.heap.get b = some (.cells cs more false none)) (hm : m b = some x) {o : Nat} {F : Array Value} (hF : ∀ v ∈ F.toList, isI v = true)
    (ho : o + F.size ≤ cs.length) (q : Nat) (os : Array Obj) :
    HR E m (S.upd b (.cells (splice cs o F.toList) more false none)) (Sort.grow (Sort.putRow id (Sort.ahead w q) x.blk (x.base + o) F) os) ∧
      Fr m S w m (S.upd b (.cells (splice cs o F.toList) more false none)) (Sort.grow (Sort.putRow id (Sort.ahead w q) x.blk (x.base + o) F) os) := by
  obtain ⟨ccs, e, fr, h1, h2, h3, h4, h5, h6⟩ := hH.obj b _ x hg rfl hm
  have hw : (Sort.putRow id (Sort.ahead w q) x.blk (x.base + o) F).heap[x.blk]? = some (.cells (Sort.putCells id (x.base + o) F ccs) e fr) := by
    simp only [Sort.putRow, Sort.mapBlock, Sort.ahead, Array.getElem?_modify, if_pos rfl, h1, Option.map_some, Sort.onCells]
    exact if_pos trivial
  have hl : (splice cs o F.toList).length = cs.length := splice_length (by rw [Array.length_toList]; exact ho)
  obtain ⟨k1, k2⟩ := hH.upd (o' := .cells (splice cs o F.toList) more false none) (w' := Sort.putRow id (Sort.ahead w q) x.blk (x.base + o) F) hg rfl hm
    ⟨_, e, fr, hw, by simpa [Sort.putCells] using h2, by rw [hl]; exact h3, by
      rw [hl, putCells_list (by omega) ho]
      exact h4.splice (VRs.map_same fun v hv => vr_isI (hF v hv)) o, h5, by rw [hl]; exact h6⟩
    (by simp) (fun c hc => by simp only [Sort.putRow, Sort.mapBlock, Sort.ahead, Array.getElem?_modify]; rw [if_neg (Ne.symm hc)]) rfl rfl rfl
  obtain ⟨j1, j2⟩ := hr_below (w' := Sort.grow (Sort.putRow id (Sort.ahead w q) x.blk (x.base + o) F) os) k1 ⟨rfl, rfl, rfl, by simp, fun c hc => Sort.heap_grow_old _ _ hc⟩
  exact ⟨j1, k2.trans j2⟩
theorem row_at {b : Nat} {cs : List Value} {more : Option Nat} {x : BM} (hg : S.heap.get b = some (.cells cs more false none)) (hm : m b = some x) {o : Nat} {F : Array Value} (hF : ∀ v ∈ F.toList, isI v = true)
    (h : (cs.drop o).take F.size = F.toList) : Sort.Holds id w x.blk (x.base + o) F ∧ x.blk < w.heap.size := by
  obtain ⟨ccs, e, fr, h1, h2, h3, h4, h5, h6⟩ := hH.obj b _ x hg rfl hm
  obtain rfl : fr = (0, 0) := h5
  refine ⟨fun j hj => ?_, (Array.getElem?_eq_some_iff.1 h1).1⟩
  have e1 : cs[o + j]? = some F[j] := by
    have := congrArg (fun l : List Value => l[j]?) h
    rw [List.getElem?_take_of_lt hj, List.getElem?_drop] at this
    rw [this, Array.getElem?_toList, Array.getElem?_eq_getElem hj]
  obtain ⟨v', h7, h8⟩ := h4.get e1
  have hlt : o + j < cs.length := (List.getElem?_eq_some_iff.1 e1).1
  rw [List.getElem?_take_of_lt hlt, List.getElem?_drop, Array.getElem?_toList, ← Nat.add_assoc] at h7
  obtain rfl := vr_same h8 (hF _ (by simp))
  exact ⟨by simp [World.cell?, h1, h7, getElem!_pos F j hj], by simp [World.frozen?, h1]⟩
end

def intsOf : List Value → Option (List Int)
  | [] => some []
  | .int .i64 n :: r => (intsOf r).map (n :: ·)
  | _ => none
theorem intsOf_eq : ∀ {l : List Value} {zs : List Int}, intsOf l = some zs → l = zs.map (Value.int .i64)
  | [], zs, h => by cases h; rfl
  | v :: r, zs, h => by
    unfold intsOf at h
    split at h
    · rename_i h1; cases h1
    · rename_i n r' h1; cases h1
      rw [Option.map_eq_some_iff] at h
      obtain ⟨ys, h1, rfl⟩ := h
      rw [intsOf_eq h1]; rfl
    · cases h
theorem intsOf_map (zs : List Int) : intsOf (zs.map (Value.int .i64)) = some zs := by
  induction zs with
  | nil => rfl
  | cons z zs ih => simp only [List.map_cons, intsOf, ih, Option.map_some]
abbrev Tri := Int × Int × Int
def encT (x : Tri) : List Value := [.int .i64 x.1, .int .i64 x.2.1, .int .i64 x.2.2]
def trisOf : List Value → Option (List Tri)
  | [] => some []
  | .int .i64 a :: .int .i64 b :: .int .i64 c :: r => (trisOf r).map ((a, b, c) :: ·)
  | _ => none
theorem trisOf_eq : ∀ {l : List Value} {ts : List Tri}, trisOf l = some ts → l = ts.flatMap encT
  | l, ts, h => by
    unfold trisOf at h
    split at h
    · cases h; rfl
    · rename_i a b c r
      rw [Option.map_eq_some_iff] at h
      obtain ⟨ys, h1, rfl⟩ := h
      rw [trisOf_eq h1]; rfl
    · cases h
theorem trisOf_flat (ts : List Tri) : trisOf (ts.flatMap encT) = some ts := by
  induction ts with
  | nil => rfl
  | cons t ts ih => simp only [List.flatMap_cons, encT, List.cons_append, List.nil_append, trisOf, ih, Option.map_some]
theorem encT_len (ts : List Tri) : (ts.flatMap encT).length = ts.length * 3 := by
  induction ts with
  | nil => rfl
  | cons t ts ih => simp only [List.flatMap_cons, List.length_append, ih, List.length_cons, encT, List.length_nil]; omega
theorem flatK_encT (d : Array Tri) : (Sort.flatK encT 3 d).toList = d.toList.flatMap encT := by
  have key : ∀ (ts : List Tri) (i : Nat) (h : i < ts.length * 3), (ts.flatMap encT)[i]? = some (encT ts[i / 3]!)[i % 3]! := by
    intro ts
    induction ts with
    | nil => intro i h; simp at h
    | cons t ts ih =>
      intro i h
      rw [List.flatMap_cons]
      match i, h with
      | 0, _ => rfl
      | 1, _ => rfl
      | 2, _ => rfl
      | i + 3, h =>
        rw [List.getElem?_append_right (by simp [encT]), show i + 3 - (encT t).length = i from rfl, ih i (by simp at h; omega), show (i + 3) / 3 = i / 3 + 1 by omega, show (i + 3) % 3 = i % 3 by omega]
        simp
  refine List.ext_getElem? fun i => ?_
  by_cases h : i < d.size * 3
  · have h' : i < (Sort.flatK encT 3 d).size := by simpa using h
    rw [key d.toList i (by simpa using h), Array.getElem?_toList, Array.getElem?_eq_getElem h', ← getElem!_pos _ i h', Sort.get_flatK _ _ _ _ h]
    have hd : i / 3 < d.size := by omega
    rw [getElem!_pos d _ hd, getElem!_pos d.toList _ (by simpa using hd), Array.getElem_toList]
  · rw [List.getElem?_eq_none (by simp; omega), List.getElem?_eq_none (by rw [encT_len]; simp; omega)]

/-- slices.Sort. -/
def sortP : List Value → St → Option (Value × St)
  | [.slice _ 0 _], S => some (.tuple #[], S)
  | [.slice (some ⟨b, o, none⟩) (n + 1) _], S =>
    match S.heap.get b with
    | some (.cells cs more false none) =>
      (intsOf ((cs.drop o).take (n + 1))).bind fun zs => cond (Nat.beq zs.length (n + 1) && Nat.ble (n + 1) 140737488355328)
        (some (.tuple #[], S.upd b (.cells (splice cs o ((zs.mergeSort fun x y => decide (x ≤ y)).map (Value.int .i64))) more false none))) none
    | _ => none
  | _, _ => none
/-- slices.SortFunc; g: the closure that tells which of two is less. -/
def sortFP (g : Nat) (lt : Tri → Tri → Bool) : List Value → St → Option (Value × St)
  | [.slice _ 0 _, .func (.func g') fi ca], S => cond (Nat.beq g' g && Nat.beq fi.size 0 && Nat.beq ca.size 0) (some (.tuple #[], S)) none
  | [.slice (some ⟨b, o, none⟩) (n + 1) _, .func (.func g') fi ca], S =>
    match S.heap.get b with
    | some (.cells cs more false none) =>
      (trisOf ((cs.drop o).take ((n + 1) * 3))).bind fun ts => cond (Nat.beq ts.length (n + 1) && Nat.ble (n + 1) 140737488355328 && (Nat.beq g' g && Nat.beq fi.size 0 && Nat.beq ca.size 0))
        (some (.tuple #[], S.upd b (.cells (splice cs o ((ts.mergeSort fun x y => !lt y x).flatMap encT)) more false none))) none
    | _ => none
  | _, _ => none
theorem fn_beq {g g' : Nat} {fi ca : Array Value} (h : (Nat.beq g' g && Nat.beq fi.size 0 && Nat.beq ca.size 0) = true) : g' = g ∧ fi = #[] ∧ ca = #[] := by
  simp only [Bool.and_eq_true] at h
  exact ⟨Nat.eq_of_beq_eq_true h.1.1, Array.eq_empty_of_size_eq_zero (Nat.eq_of_beq_eq_true h.1.2), Array.eq_empty_of_size_eq_zero (Nat.eq_of_beq_eq_true h.2)⟩
theorem isI_map (zs : List Int) : ∀ v ∈ zs.map (Value.int .i64), isI v = true := by
  intro v hv
  obtain ⟨z, _, rfl⟩ := List.mem_map.1 hv
  rfl
theorem isI_flat (ts : List Tri) : ∀ v ∈ ts.flatMap encT, isI v = true := by
  intro v hv
  obtain ⟨z, _, h⟩ := List.mem_flatMap.1 hv
  simp only [encT, List.mem_cons, List.not_mem_nil, or_false] at h
  rcases h with rfl | rfl | rfl <;> rfl
theorem putRow_map (w : World) (b o : Nat) (d : Array Int) : Sort.putRow (Value.int .i64) w b o d = Sort.putRow id w b o (d.map (Value.int .i64)) := by
  unfold Sort.putRow
  congr 1
  funext c
  unfold Sort.putCells
  refine Array.ext_getElem? fun i => ?_
  simp only [Array.getElem?_mapIdx, Array.size_map]
  congr 1
  funext v
  split
  · rename_i h
    rw [getElem!_pos d _ (by omega), getElem!_pos (d.map (Value.int .i64)) _ (by simp; omega)]
    simp
  · rfl
theorem vr_func {m : Mp} {g : Nat} {v' : Value} (h : VR m (.func (.func g) #[] #[]) v') : v' = .func (.func g) #[] #[] := by
  cases h with
  | fn f fs fs' cs cs' _ h1 _ h3 _ =>
    rw [Array.eq_empty_of_size_eq_zero (xs := fs') (by rw [← h1]; rfl), Array.eq_empty_of_size_eq_zero (xs := cs') (by rw [← h3]; rfl)]
theorem sort_ok {E : Env} {P : Program} {f : Nat} (hen : Enterable P f)
    (c0 : ∀ (p : Option Addr) (c : Nat) (w : World), Calls P f #[.slice p 0 c] w fun e w' => e = .returned (.tuple #[]) ∧ w' = w)
    (c1 : ∀ (blk off cap : Nat) (zs : List Int) (w : World), Sort.Holds (Value.int .i64) w blk off zs.toArray → blk < w.heap.size → zs.length < 4611686018427387904 →
      Calls P f #[.slice (some ⟨blk, off, none⟩) zs.length cap] w fun e w' => e = .returned (.tuple #[]) ∧ ∃ n os, w' = Sort.grow (Sort.putRow (Value.int .i64) (Sort.ahead w n) blk off (zs.mergeSort fun x y => decide (x ≤ y)).toArray) os) :
    CallOk E P (fun g args S => if g = f then sortP args S else none) := by
  refine callOk_any hen fun args S v S' h m w args' hH hv => ?_
  unfold sortP at h
  split at h
  · rename_i a cap
    obtain ⟨x', e1, hx⟩ := VRs.inv1 hv
    obtain ⟨a', cap', rfl⟩ := vr_slice0 hx
    obtain rfl : args' = #[_] := Array.ext' e1
    cases h
    refine (c0 a' cap' w).mono ?_
    rintro e w' ⟨rfl, rfl⟩
    exact ⟨_, m, rfl, .tup _ _ rfl (fun i u u' hu => by simp at hu), hH, .refl _ _ _⟩
  · rename_i b o n cap
    split at h
    · rename_i cs more hg
      rw [Option.bind_eq_some_iff] at h
      obtain ⟨zs, hz, h⟩ := h
      obtain ⟨hb, h⟩ := cond_some h
      cases h
      simp only [Bool.and_eq_true, Nat.ble_eq] at hb
      obtain ⟨hl, hn⟩ := hb
      have hl := Nat.eq_of_beq_eq_true hl
      have hz := intsOf_eq hz
      obtain ⟨x', e1, hx⟩ := VRs.inv1 hv
      obtain ⟨x, cap', hm, rfl, hc⟩ := vr_slice hx
      obtain rfl : args' = #[_] := Array.ext' e1
      have hF : ((zs.map (Value.int .i64)).toArray).size = n + 1 := by simp [hl]
      obtain ⟨r1, r2⟩ := row_at hH hg hm (o := o) (F := (zs.map (Value.int .i64)).toArray) (isI_map zs) (by rw [hF, hz])
      have hk : o + (n + 1) ≤ cs.length := by
        have := congrArg List.length hz
        rw [List.length_take, List.length_drop, List.length_map, hl] at this
        omega
      have hh : Sort.Holds (Value.int .i64) w x.blk (x.base + o) zs.toArray := fun j hj => by
        have := r1 j (by simpa using hj)
        have hj' : j < zs.length := by simpa using hj
        rw [getElem!_pos zs.toArray j hj, List.getElem_toArray]
        rw [getElem!_pos (zs.map (Value.int .i64)).toArray j (by simpa using hj')] at this
        simpa using this
      have hc1 := c1 x.blk (x.base + o) cap' zs w hh r2 (by omega)
      rw [hl] at hc1
      refine hc1.mono ?_
      rintro e w' ⟨rfl, q, os, rfl⟩
      rw [putRow_map]
      have hp := put_ok hH hg hm (o := o) (F := (((zs.mergeSort fun x y => decide (x ≤ y)).toArray).map (Value.int .i64))) (by simpa using isI_map _) (by simp [hl]; omega) q os
      have e2 : (((zs.mergeSort fun x y => decide (x ≤ y)).toArray).map (Value.int .i64)).toList = (zs.mergeSort fun x y => decide (x ≤ y)).map (Value.int .i64) := by simp
      rw [e2] at hp
      exact ⟨_, m, rfl, .tup _ _ rfl (fun i u u' hu => by simp at hu), hp.1, hp.2⟩
    · cases h
  · cases h
theorem sortF_ok {E : Env} {P : Program} {f g : Nat} {lt : Tri → Tri → Bool} (hen : Enterable P f)
    (c0 : ∀ (p : Option Addr) (c : Nat) (w : World), Calls P f #[.slice p 0 c, .func (.func g) #[] #[]] w fun e w' => e = .returned (.tuple #[]) ∧ w' = w)
    (c1 : ∀ (blk off cap : Nat) (d : Array Tri) (w : World), Sort.HoldsK encT 3 w blk off d → blk < w.heap.size → d.size < 4611686018427387904 →
      Calls P f #[.slice (some ⟨blk, off, none⟩) d.size cap, .func (.func g) #[] #[]] w fun e w' => e = .returned (.tuple #[]) ∧ ∃ n os, w' = Sort.grow (Sort.putRowK encT 3 (Sort.ahead w n) blk off (d.toList.mergeSort fun x y => !lt y x).toArray) os) :
    CallOk E P (fun g' args S => if g' = f then sortFP g lt args S else none) := by
  refine callOk_any hen fun args S v S' h m w args' hH hv => ?_
  unfold sortFP at h
  split at h
  · rename_i a cap g' fi ca
    obtain ⟨hb, h1⟩ := cond_some h
    clear h
    obtain ⟨rfl, rfl, rfl⟩ := fn_beq hb
    cases h1
    obtain ⟨x', y', e1, hx, hy⟩ := VRs.inv2 hv
    obtain ⟨a', cap', rfl⟩ := vr_slice0 hx
    obtain rfl := vr_func hy
    obtain rfl : args' = #[_, _] := Array.ext' e1
    refine (c0 a' cap' w).mono ?_
    rintro e w' ⟨rfl, rfl⟩
    exact ⟨_, m, rfl, .tup _ _ rfl (fun i u u' hu => by simp at hu), hH, .refl _ _ _⟩
  · rename_i b o n cap g' fi ca
    split at h
    · rename_i cs more hg
      rw [Option.bind_eq_some_iff] at h
      obtain ⟨ts, hz, h⟩ := h
      obtain ⟨hb, h⟩ := cond_some h
      cases h
      rw [Bool.and_eq_true, Bool.and_eq_true, Nat.ble_eq] at hb
      obtain ⟨⟨hl, hn⟩, hgg⟩ := hb
      have hl := Nat.eq_of_beq_eq_true hl
      obtain ⟨rfl, rfl, rfl⟩ := fn_beq hgg
      have hz := trisOf_eq hz
      obtain ⟨x', y', e1, hx, hy⟩ := VRs.inv2 hv
      obtain ⟨x, cap', hm, rfl, hc⟩ := vr_slice hx
      obtain rfl := vr_func hy
      obtain rfl : args' = #[_, _] := Array.ext' e1
      have hF : (Sort.flatK encT 3 ts.toArray).size = (n + 1) * 3 := by simp [hl]
      obtain ⟨r1, r2⟩ := row_at hH hg hm (o := o) (F := Sort.flatK encT 3 ts.toArray) (by rw [flatK_encT]; exact isI_flat ts) (by rw [hF, flatK_encT, hz])
      have hk : o + (n + 1) * 3 ≤ cs.length := by
        have := congrArg List.length hz
        rw [List.length_take, List.length_drop, encT_len, hl] at this
        omega
      have hc1 := c1 x.blk (x.base + o) cap' ts.toArray w r1 r2 (by simp [hl]; omega)
      rw [show ts.toArray.size = n + 1 by simp [hl]] at hc1
      refine hc1.mono ?_
      rintro e w' ⟨rfl, q, os, rfl⟩
      have hp := put_ok hH hg hm (o := o) (F := Sort.flatK encT 3 (ts.mergeSort fun x y => !lt y x).toArray) (by rw [flatK_encT]; exact isI_flat _) (by simp [hl]; omega) q os
      rw [flatK_encT] at hp
      exact ⟨_, m, rfl, .tup _ _ rfl (fun i u u' hu => by simp at hu), hp.1, hp.2⟩
    · cases h
  · cases h
/-- Their numbers: Sort, SortFunc, its closure. -/
structure SNums where
  fS : Nat
  fF : Nat
  g : Nat
def primsS (lt : Tri → Tri → Bool) (s : SNums) (N : PNums) (B : BNums) (f : Nat) : Option (List Value → St → Option (Value × St)) :=
  if f = s.fS then some sortP else if f = s.fF then some (sortFP s.g lt) else primsC N B f
theorem primsS_ok {E : Env} {P : Program} {N : PNums} {B : BNums} {s : SNums} {lt : Tri → Tri → Bool} (hE : E.prim = primsS lt s N B)
    (hS : CallOk E P (fun g args S => if g = s.fS then sortP args S else none))
    (hF : CallOk E P (fun g args S => if g = s.fF then sortFP s.g lt args S else none))
    (hB : ∀ f p, primsC N B f = some p → CallOk E P (fun g args S => if g = f then p args S else none)) : PrimOk E P := by
  intro f p hp
  rw [hE] at hp
  unfold primsS at hp
  split at hp
  · rename_i e; subst e; cases hp; exact hS
  split at hp
  · rename_i e; subst e; cases hp; exact hF
  · exact hB f p hp
theorem primsS_lw {E : Env} {N : PNums} {B : BNums} {s : SNums} {lt : Tri → Tri → Bool} (hE : E.prim = primsS lt s N B)
    (hB : ∀ f p, primsC N B f = some p → ∀ args S v S', p args S = some (v, S') → Lw S S') : PrimLw E := by
  intro f p hp args S v S' h
  rw [hE] at hp
  unfold primsS at hp
  split at hp
  · cases hp
    unfold sortP at h
    split at h
    · cases h; exact Lw.refl _
    · split at h
      · rw [Option.bind_eq_some_iff] at h
        obtain ⟨zs, _, h⟩ := h
        obtain ⟨_, h⟩ := cond_some h
        cases h; exact Lw.upd _ _ _
      · cases h
    · cases h
  split at hp
  · cases hp
    unfold sortFP at h
    split at h
    · obtain ⟨_, h⟩ := cond_some h
      cases h; exact Lw.refl _
    · split at h
      · rw [Option.bind_eq_some_iff] at h
        obtain ⟨zs, _, h⟩ := h
        obtain ⟨_, h⟩ := cond_some h
        cases h; exact Lw.upd _ _ _
      · cases h
    · cases h
  · exact hB f p hp args S v S' h
end
end Go.Proofs.Ytcdignblakejoaa.D
