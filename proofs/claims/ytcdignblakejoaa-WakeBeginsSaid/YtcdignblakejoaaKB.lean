/- Parts of the proof, put together. -/
import Derived.Test.YtcdignblakejoaaDG
import Derived.Test.YtcdignblakejoaaChecked
import Derived.RangeFuncNested
import Derived.Maps.RangeRun
import Derived.Maps.RangeWalk
import Derived.Sort.MapsRangeIn
import Derived.Maps.AppendAt
import Derived.LoopNIn
import Derived.LoopIn
import Derived.WalkKit
import Derived.OwnWalkIn
import Derived.TacticsInMore
import Derived.RegionIn
import Derived.Shelf.SlIter.Collect
/- A map's keys, whatever the order in which they come: maps.Keys, slices.Collect, slices.SortedFunc at this seat's shelf. -/
namespace Go.Proofs.Ytcdignblakejoaa
open Go Go.RowKit
open Go.Proofs.Ytcdignblakejoaa.D (Pr prV prC)
set_option linter.unusedVariables false
set_option linter.unusedSimpArgs false

section
variable {F : Fence} {n : Nat} {P : Program} {w : World} {ops : Array Oper} {rest : List Oper} {o : Oper} {a : Act} {Q : Exit → Act → World → Prop}
/-- A draw more, or none. -/
def Drw (w w1 : World) : Prop := w1 = w ∨ w1 = w.drew
/-- One step through a map, by its block alone. -/
theorem next_raw (hg : o.guard = none) (it : Operand) (hop : o.op = Op.next it false) (r b since c0 clock : Nat) (seen : Array Nat) (es : Array MapEntry)
    (hit : a.eval it = .pointer (some ⟨r, 0, none⟩)) (hr : w.heap[r]? = some (.mapIter (some b) since seen c0)) (hb : w.heap[b]? = some (.map es clock)) (hold : ∀ x ∈ es.toList, x.born < since) (hsc : since ≤ c0)
    (hDone : (leftOf es seen).size = 0 → wpListIn F n P ops Q rest (a.put o.dst (.tuple #[.bool false])) w)
    (hMore : ∀ e ∈ (leftOf es seen).toList, ∀ w1 : World, Drw w w1 → wpListIn F n P ops Q rest (a.put o.dst (.tuple #[.bool true, e.key, e.val])) (ChangeMaps.setBlock w1 r (.mapIter (some b) since (seen.push e.born) clock))) :
    wpListIn F n P ops Q (o :: rest) a w := by
  refine wpListIn_plain hg fun K' hK' => ?_
  unfold Oper.wpIn
  refine ⟨by simp [Oper.about, hop], ?_⟩
  rw [Oper.semAt_plain F _ _ (by rw [hop]; intro c hc'; cases hc')]
  rcases run_next_at (P := P) w o.type r b since c0 seen es clock hr hb hold hsc with ⟨h0, hrun⟩ | ⟨e, he, w1, hw1, hrun⟩
  · simp [execOp, hop, hit, hrun, Result.andThen]
    exact hK' _ _ (hDone h0)
  · simp [execOp, hop, hit, hrun, Result.andThen]
    exact hK' _ _ (hMore e he w1 hw1)
end

/-! ### Keys -/
theorem left_push {es : Array MapEntry} {seen : Array Nat} {e : MapEntry} (he : e ∈ (leftOf es seen).toList) (hn : (es.toList.map (·.born)).Nodup) :
    (leftOf es seen).toList.Perm (e :: (leftOf es (seen.push e.born)).toList) ∧ (leftOf es (seen.push e.born)).size < (leftOf es seen).size := by
  have h1 : (leftOf es (seen.push e.born)).toList = (leftOf es seen).toList.filter fun x => !(x.born == e.born) := by
    unfold leftOf
    rw [Array.toList_filter, Array.toList_filter, List.filter_filter]
    refine List.filter_congr fun x _ => ?_
    rw [Array.contains_push, Bool.not_or, Bool.and_comm]
  have hsub : (leftOf es seen).toList.Sublist es.toList := by unfold leftOf; rw [Array.toList_filter]; exact List.filter_sublist
  have hnd : ((leftOf es seen).toList.map (·.born)).Nodup := hn.sublist (hsub.map _)
  have key : ∀ l : List MapEntry, (l.map (·.born)).Nodup → e ∈ l → l.Perm (e :: l.filter fun x => !(x.born == e.born)) := by
    intro l
    induction l with
    | nil => intro _ h; simp at h
    | cons x l ih =>
      intro hd hm
      rw [List.map_cons, List.nodup_cons] at hd
      by_cases hx : x.born = e.born
      · have hxe : x = e := by
          rcases List.mem_cons.1 hm with h | h
          · exact h.symm
          · exact (hd.1 (by rw [hx]; exact List.mem_map.2 ⟨e, h, rfl⟩)).elim
        subst hxe
        have : l.filter (fun y => !(y.born == x.born)) = l := List.filter_eq_self.2 fun y hy => by
          have : ¬ y.born = x.born := fun hh => hd.1 (List.mem_map.2 ⟨y, hy, hh⟩)
          simp [this]
        rw [List.filter_cons, this]
        simp
      · have hm' : e ∈ l := by
          rcases List.mem_cons.1 hm with h | h
          · exact (hx (by rw [h])).elim
          · exact h
        rw [List.filter_cons_of_pos (by simp [hx])]
        exact ((ih hd.2 hm').cons x).trans (List.Perm.swap _ _ _)
  have hp := key _ hnd he
  rw [← h1] at hp
  refine ⟨hp, ?_⟩
  have := hp.length_eq
  simp only [List.length_cons, Array.length_toList] at this
  omega

theorem set_eq {W : World} {r : Nat} {o' : Obj} : (ChangeMaps.setBlock W r o').grownBy (ChangeMaps.setBlock W r o') none := ⟨rfl, rfl, rfl, Nat.le_refl _, fun _ _ _ => rfl⟩
theorem setB_grown {W w1 : World} (h : Drw W w1) (r : Nat) (o' : Obj) : W.grownBy (ChangeMaps.setBlock w1 r o') (some r) := by
  refine ⟨by rcases h with rfl | rfl <;> rfl, by rcases h with rfl | rfl <;> rfl, by rcases h with rfl | rfl <;> rfl, by rcases h with rfl | rfl <;> simp [ChangeMaps.setBlock], fun i hi hr => ?_⟩
  have hne : i ≠ r := fun e => hr (by rw [e])
  have : (ChangeMaps.setBlock w1 r o').heap[i]? = w1.heap[i]? := by
    simp only [ChangeMaps.setBlock]
    rw [Array.getElem?_setIfInBounds_ne (Ne.symm hne)]
  rw [this]
  rcases h with rfl | rfl <;> rfl
theorem setB_same {W w1 : World} (h : Drw W w1) {r : Nat} (hr : r < W.heap.size) (o' : Obj) : (ChangeMaps.setBlock w1 r o').heap[r]? = some o' := by
  have : r < w1.heap.size := by rcases h with rfl | rfl <;> exact hr
  simp only [ChangeMaps.setBlock]
  rw [Array.getElem?_setIfInBounds_self_of_lt this]
set_option maxRecDepth 100000 in
set_option maxHeartbeats 4000000 in
/-- maps.Keys' iterator: the keys come, each once, in some order. -/
theorem keysK (F : Fence) (n : Nat) (h56 : F.fn 56) (hro : F.round = none) (hn : 1 ≤ n) (Bm ob b clock : Nat) (es : Array MapEntry) (ks : List Pr) (w : World) (hBm : Bm < w.heap.size)
    (hm : w.cell? ⟨Bm, ob, none⟩ = some (.map (some b))) (hb : w.heap[b]? = some (.map es clock)) (hk : es.toList.map (·.key) = ks.map prV) (hnd : (es.toList.map (·.born)).Nodup) (hold : ∀ x ∈ es.toList, x.born < clock) :
    SeqStopsK F n Try.prog 56 #[.pointer (some ⟨Bm, ob, none⟩)] (fun x : Pr => #[prV x]) KeepsWalks (fun xs => xs.Perm ks) (fun _ => True) ks.length w := by
  intro l J Jx W hW hJ hJx hY h0
  have hblt : b < w.heap.size := (Array.getElem?_eq_some_iff.1 hb).1
  have hbW : W.heap[b]? = some (.map es clock) := (hW.block b hblt).trans hb
  have hmW : W.cell? ⟨Bm, ob, none⟩ = some (.map (some b)) := (hW.cell (p := ⟨Bm, ob, none⟩) hBm).trans hm
  have hsz := hW.size
  refine callsIn_of_wp Try.func56 rfl h56 ?_ hro
  simp only [Try.ntmps56, List.size_toArray, List.length_cons, List.length_nil, Nat.reduceAdd, Nat.reduceSub, Array.replicate_succ, Array.replicate_zero, List.push_toArray, List.append_toArray, List.nil_append, List.cons_append]
  have hrg := run_range_map (P := Try.prog) W 36 _ _ b es clock Try.underlying36 hbW
  gi_wp2
  gi_loopw [3] (fun _ wr => ∃ (seen : Array Nat) (pre lks : List Pr), wr.heap[W.heap.size]? = some (.mapIter (some b) clock seen clock) ∧ wr.heap[b]? = some (.map es clock) ∧ (leftOf es seen).toList.map (·.key) = lks.map prV ∧ (pre ++ lks).Perm ks ∧ J pre wr)
    (fun _ wr => wr.rangeLeft b W.heap.size)
  case atStart =>
    refine ⟨#[], [], ks, World.alloc_heap_new W _, (Below.heap_alloc W _ b (by omega)).trans hbW, ?_, by simp, hJ [] W _ none h0 (World.grownBy_alloc W _ none) (fun r e => by cases e)⟩
    rw [show leftOf es #[] = es by simp [leftOf]]
    exact hk
  case round =>
    obtain ⟨seen, pre, lks, hr, hbr, hkl, hpm, hJs⟩ := hrel
    have hrlt : W.heap.size < wr.heap.size := (Array.getElem?_eq_some_iff.1 hr).1
    gi_wp2_with (first
      | (gi_at_next; refine next_raw rfl _ rfl W.heap.size b clock clock clock seen es rfl hr hbr hold (Nat.le_refl _) ?_ ?_)
      | gi_in)
    · -- nothing is left
      intro hz
      have hl0 : (leftOf es seen) = #[] := by first | exact hz | exact Array.eq_empty_of_size_eq_zero hz
      rw [hl0] at hkl
      have : lks = [] := by simpa using hkl.symm
      subst this
      gi_wp2
      go_end0
      exact ⟨⟨_, rfl⟩, .inl ⟨pre, by simpa using hpm, hJs⟩⟩
    · intro e he w1 hw1
      have he : e ∈ (leftOf es seen).toList := by simpa using he
      obtain ⟨hpush, hlt⟩ := left_push he hnd
      have hk1 := hpush.map (·.key)
      rw [List.map_cons, hkl] at hk1
      obtain ⟨x, hx⟩ : ∃ x, e.key = prV x := by
        have : e.key ∈ lks.map prV := hk1.mem_iff.2 (by simp)
        obtain ⟨x, _, hx⟩ := List.mem_map.1 this
        exact ⟨x, hx.symm⟩
      have hes : e ∈ es.toList := by
        unfold leftOf at he
        rw [Array.toList_filter] at he
        exact (List.mem_filter.1 he).1
      have hg2 := setB_grown hw1 W.heap.size (.mapIter (some b) clock (seen.push e.born) clock)
      have hr2 := setB_same hw1 hrlt (.mapIter (some b) clock (seen.push e.born) clock)
      have hb2 : (ChangeMaps.setBlock w1 W.heap.size (.mapIter (some b) clock (seen.push e.born) clock)).heap[b]? = some (.map es clock) := (hg2.block b (Array.getElem?_eq_some_iff.1 hbr).1 (fun h => by cases h; omega)).trans hbr
      have hen := run_entry_at (P := Try.prog) _ W.heap.size b clock seen es clock e hr2 hb2 hes hnd
      rw [hx] at hen
      generalize ChangeMaps.setBlock w1 W.heap.size (.mapIter (some b) clock (seen.push e.born) clock) = w2 at hg2 hr2 hb2 hen ⊢
      rw [hx]
      have hJ3 : J pre (w2.alloc (.cells #[.int .i64 x.1, .int .i64 x.2] 68)) := by
        refine hJ pre w2 _ none ?_ (World.grownBy_alloc w2 _ none) (fun r e => by cases e)
        exact hJ pre wr w2 (some W.heap.size) hJs hg2 (fun r e => by cases e; exact ⟨Nat.le_refl _, _, hr, rfl⟩)
      have hpl : pre.length < ks.length := by
        have h1 := hpm.length_eq
        have h2 : 0 < lks.length := by
          have := congrArg List.length hkl
          simp only [List.length_map, Array.length_toList] at this
          omega
        simp only [List.length_append] at h1
        omega
      obtain ⟨lks', hl1, hl2⟩ : ∃ lks', lks.Perm (x :: lks') ∧ (leftOf es (seen.push e.born)).toList.map (·.key) = lks'.map prV := by
        have hinv : ∀ (l : List Value) (q : List Pr), (∀ v ∈ l, v ∈ q.map prV) → ∃ r : List Pr, l = r.map prV := by
          intro l q
          induction l with
          | nil => intro _; exact ⟨[], rfl⟩
          | cons v l ih =>
            intro h
            obtain ⟨r, hr⟩ := ih fun v hv => h v (by simp [hv])
            obtain ⟨y, _, hy⟩ := List.mem_map.1 (h v (by simp))
            exact ⟨y :: r, by rw [List.map_cons, hy, hr]⟩
        obtain ⟨r, hrr⟩ := hinv ((leftOf es (seen.push e.born)).toList.map (·.key)) lks fun v hv => hk1.mem_iff.2 (List.mem_cons_of_mem _ hv)
        refine ⟨r, ?_, hrr⟩
        rw [hrr, hx, ← List.map_cons] at hk1
        have : ((lks.map prV).filterMap D.prOf).Perm (((x :: r).map prV).filterMap D.prOf) := hk1.filterMap _
        simpa [List.filterMap_map, Function.comp_def, D.prOf_V] using this
      have hpm' : ((pre ++ [x]) ++ lks').Perm ks := by
        rw [List.append_assoc]
        exact ((hl1.append_left pre).symm).trans hpm
      obtain ⟨fn, tmps, assign, body, hy, hR⟩ := hY pre x _ hJ3 hpl
      have hr3 : (w2.alloc (.cells #[.int .i64 x.1, .int .i64 x.2] 68)).heap[W.heap.size]? = some (.mapIter (some b) clock (seen.push e.born) clock) := (Below.heap_alloc _ _ _ (Array.getElem?_eq_some_iff.1 hr2).1).trans hr2
      have hb3 : (w2.alloc (.cells #[.int .i64 x.1, .int .i64 x.2] 68)).heap[b]? = some (.map es clock) := (Below.heap_alloc _ _ _ (Array.getElem?_eq_some_iff.1 hb2).1).trans hb2
      clear hpush hk1 hes
      gi_wp2
      refine hR.mono ?_
      rintro e2 W3 (⟨rfl, hJ4, hk4⟩ | ⟨rfl, hJx4⟩)
      · gi_wp2
        have hr4 := hk4.same _ _ hr3 rfl
        have hb4 := hk4.same _ _ hb3 rfl
        go_roundw
        case rel => exact ⟨seen.push e.born, pre ++ [x], lks', hr4, hb4, hl2, hpm', hJ4⟩
        case measure =>
          unfold World.rangeLeft
          rw [hr4, hb4, hr, hbr]
          exact hlt
      · gi_wp2
        refine bodyPost_ret (results_none rfl _ _ _) rfl ?_
        exact ⟨⟨_, rfl⟩, .inr ⟨pre ++ [x], trivial, hJx4⟩⟩
set_option maxRecDepth 100000 in
set_option maxHeartbeats 2000000 in
/-- Of no map at all: none. -/
theorem keysK0 (F : Fence) (n : Nat) (h56 : F.fn 56) (hro : F.round = none) (hn : 1 ≤ n) (Bm ob : Nat) (w : World) (hBm : Bm < w.heap.size) (hm : w.cell? ⟨Bm, ob, none⟩ = some (.map none)) :
    SeqStopsK F n Try.prog 56 #[.pointer (some ⟨Bm, ob, none⟩)] (fun x : Pr => #[prV x]) KeepsWalks (fun xs => xs.Perm []) (fun _ => True) 0 w := by
  intro l J Jx W hW hJ hJx hY h0
  have hmW : W.cell? ⟨Bm, ob, none⟩ = some (.map none) := (hW.cell (p := ⟨Bm, ob, none⟩) hBm).trans hm
  refine callsIn_of_wp Try.func56 rfl h56 ?_ hro
  simp only [Try.ntmps56, List.size_toArray, List.length_cons, List.length_nil, Nat.reduceAdd, Nat.reduceSub, Array.replicate_succ, Array.replicate_zero, List.push_toArray, List.append_toArray, List.nil_append, List.cons_append]
  have hrg := run_range_nilMap (P := Try.prog) W 36 _ _ Try.underlying36
  have hnx : ∀ ty, (Instr.next (.pointer (some ⟨W.heap.size, 0, none⟩)) false ty).run Try.prog (W.alloc (.mapIter none 0 #[] 0)) = _ := fun ty => run_next_nilMap _ ty 0 0 #[]
  gi_wp2
  refine wpIn_loop_rounds 1 ?_
  rw [roundsIn_succ]
  gi_wp2
  go_end0
  exact ⟨⟨_, rfl⟩, .inl ⟨[], .nil, hJ [] W _ none h0 (World.grownBy_alloc W _ none) (fun r e => by cases e)⟩⟩
theorem one_prC : ∀ x : Pr, ∀ u ∈ prC x, u.oneCell' = true := by
  intro x u hu
  simp only [prC, List.mem_cons, List.not_mem_nil, or_false] at hu
  rcases hu with rfl | rfl <;> rfl
/-- The caller's list, and its box. -/
structure ApI (w0 : World) (N : Nat) (pre : List Pr) (W : World) : Prop where
  box : ∃ v, W.heap[w0.heap.size]? = some (.cells #[v] 101 (0, 0)) ∧ W.ownsRow (w0.heap.size + 1) 68 2 v pre.length (pre.flatMap prC) ∧ (v = .slice none 0 0 ↔ pre = [])
  below : Below w0.heap.size w0 W
  len : pre.length ≤ N
theorem ApI.ownF (w0 : World) (N : Nat) : OwnFrom (w0.heap.size + 1) (ApI w0 N) := by
  intro s W W' row h hg hrow
  obtain ⟨v, hv, hr, hn⟩ := h.box
  refine ⟨⟨v, (grownBy_keeps_cells hg (fun r e => (hrow r e).2) hv rfl).trans hv, ?_, hn⟩, h.below.grown hg h.below.size fun k e => by have := (hrow k e).1; omega, h.len⟩
  refine hr.kept hg ?_
  rcases hr.2 with ⟨rfl, _⟩ | ⟨g, cap, cur, rfl, _, hg2, _⟩
  · exact .inl rfl
  · refine .inr fun e => ?_
    obtain ⟨o, h1, h2⟩ := (hrow g e.symm).2
    rw [hg2] at h1; cases h1; cases h2
set_option maxRecDepth 100000 in
set_option maxHeartbeats 4000000 in
theorem appK (F : Fence) (n : Nat) (h62 : F.fn 62) (hro : F.round = none) (hn : 2 ≤ n) (g : Nat) (lb : Array Value) (hFg : F.fn g) (eg : ∀ args w, (callFunc g args).run Try.prog w = .ok (.enter g args) w) (S : List Pr → Prop) (N : Nat) (hN : N ≤ 1000000) (w : World)
    (hseq : SeqStopsK F (n - 1) Try.prog g lb (fun x : Pr => #[prV x]) KeepsWalks S (fun _ => True) N w) :
    CallsIn F n Try.prog 62 #[.slice none 0 0, .func (.func g) #[] lb] w fun e w' => ∃ (v : Value) (ss : List Pr), e = .returned v ∧ S ss ∧ w'.ownsRow (w.heap.size + 1) 68 2 v ss.length (ss.flatMap prC) ∧ (v = .slice none 0 0 ↔ ss = []) ∧ ss.length ≤ N ∧ Below w.heap.size w w' := by
  have h1 : 1 ≤ n := by omega
  refine callsIn_of_wp_marks Try.func62 rfl h62 ?_ hro
  simp only [Try.ntmps62, List.size_toArray, List.length_cons, List.length_nil, Nat.reduceAdd, Nat.reduceSub, Array.replicate_succ, Array.replicate_zero, List.push_toArray, List.append_toArray, List.nil_append, List.cons_append]
  gi_wp2
  have hs1 : (w.alloc (.cells #[.slice none 0 0] 101)).heap.size = w.heap.size + 1 := by simp
  refine wpIn_rangeFunc_ownH hro h1 (gf := g) (lb := lb) rfl hFg eg (encs := fun x : Pr => #[prV x]) (Kp := KeepsWalks) (S := S) (Sp := fun _ => True) (N := N) (w0 := w) hseq (fun h k => h.trans k) (fun W l o o' _ hl _ hw => KeepsWalks.putObj o' hl hw)
    ((Below.refl _ w).alloc (Nat.le_refl _) _) (fun _ => rfl) (ApI w N) (fun _ _ _ => False) (by rw [hs1]; exact ApI.ownF w N) (fun _ _ _ _ _ hs _ _ => hs) ⟨⟨_, World.alloc_heap_new w _, ⟨rfl, .inl ⟨rfl, rfl⟩⟩, by simp⟩, (Below.refl _ w).alloc (Nat.le_refl _) _, Nat.zero_le _⟩
    (fun x a' W => ∃ bx, w.heap.size + 1 ≤ bx ∧ W.heap[bx]? = some (.cells #[.int .i64 x.1, .int .i64 x.2] 68 (0, 0)) ∧ a' = { tmps := #[.slice none 0 0, .func (.func g) #[] lb, .pointer (some ⟨w.heap.size, 0, none⟩), undef, .slice none 0 0, .pointer (some ⟨bx, 0, none⟩), .func (.func g) #[] lb, prV x, undef, undef, undef, undef, undef], defers := [] })
    (fun x a' _ W W' row hs hg hrow => by
      obtain ⟨bx, q1, q2, q3⟩ := hs
      exact ⟨bx, q1, (grownBy_keeps_cells hg (fun r e => (hrow r e).2) q2 rfl).trans q2, q3⟩) ?assign ?body ?done ?stop
  case assign =>
    intro l pre x W K hI hK
    gi_wp2_with (rw [Oper.semAt_eq _ _ _ (fun c h => by cases h)]; go_simp; try go_bits)
    have hlt : w.heap.size < W.heap.size := by obtain ⟨v, hv, _⟩ := hI.box; exact (Array.getElem?_eq_some_iff.1 hv).1
    refine hK _ _ ((KeepsOthers.alloc W _).from _) (KeepsWalks.alloc W _) (ApI.ownF w N pre W _ none hI (World.grownBy_alloc W _ none) (fun r e => by cases e)) ⟨W.heap.size, by omega, World.alloc_heap_new W _, rfl⟩
  case body =>
    rintro l pre x a' W hl hrec hI ⟨bx, hbx, hcx, rfl⟩ hlt
    obtain ⟨v, hv, hrow, hnil⟩ := hI.box
    have hc : W.cell? ⟨w.heap.size, 0, none⟩ = some v := by simp [World.cell?, hv]
    have hf : W.frozen? ⟨w.heap.size, 0, none⟩ = false := by simp [World.frozen?, hv]
    have hc0 : W.cell? ⟨bx, 0, none⟩ = some (.int .i64 x.1) := by simp [World.cell?, hcx]
    have hc1 : W.cell? ⟨bx, 1, none⟩ = some (.int .i64 x.2) := by simp [World.cell?, hcx]
    have hf0 : W.frozen? ⟨bx, 0, none⟩ = false := by simp [World.frozen?, hcx]
    have hwl : w.heap.size < W.heap.size := (Array.getElem?_eq_some_iff.1 hv).1
    have hi68 : (Try.prog.info? 68).map (fun i => (i.zero, i.size, i.bytes)) = some (some (.agg #[.int .i64 0, .int .i64 0]), 2, 16) := by kernel_rfl
    obtain ⟨i0, hi1, hi2, hi3, hi4⟩ := info_parts hi68
    have hlen := hI.len
    have hbel := hI.below
    have hcn0 : (W.alloc (.cells #[.int .i64 x.1, .int .i64 x.2] 68)).cell? ⟨W.heap.size, 0, none⟩ = some (.int .i64 x.1) := by unfold World.cell?; rw [World.alloc_heap_new]; rfl
    have hcn1 : (W.alloc (.cells #[.int .i64 x.1, .int .i64 x.2] 68)).cell? ⟨W.heap.size, 1, none⟩ = some (.int .i64 x.2) := by unfold World.cell?; rw [World.alloc_heap_new]; rfl
    gi_wp2_with (first
      | (gi_at_builtin; refine wpListIn_append_own _ rfl _ _ 101 rfl (w.heap.size + 1) 68 i0 _ 2 16 Try.underlying101 hi1 hi2 hi3 hi4 rfl (by decide) v pre.length (pre.flatMap prC) rfl (hrow.alloc _) ⟨W.heap.size, 0, none⟩ 1 1 (prC x) rfl rfl (fun j u hj => by
          match j, hj with
          | 0, hj => cases hj; exact hcn0
          | 1, hj => cases hj; exact hcn1) (one_prC x) (by simp only [maxLen]; omega) (by omega) (by simp; omega) ?_; intro v' w3 hown' hg3 hnil3
         have hg3' : (W.alloc (.cells #[.int .i64 x.1, .int .i64 x.2] 68)).grownBy w3 v.ownBlock := hg3
         have hvo : ∀ j, v.ownBlock = some j → w.heap.size + 1 ≤ j ∧ ∃ c, W.heap[j]? = some (.cells c 68 (0, 0)) := fun j e => by
           rcases hrow.2 with ⟨rfl, _⟩ | ⟨g', cap, cur, rfl, q1, q2, _⟩
           · cases e
           · cases e; exact ⟨q1, _, q2⟩
         have hv3 : w3.heap[w.heap.size]? = some (.cells #[v] 101 (0, 0)) := (hg3'.block _ (by simp; omega) (fun e => by have := (hvo _ e.symm).1; omega)).trans ((Below.heap_alloc _ _ _ hwl).trans hv)
         have hc3 : w3.cell? ⟨w.heap.size, 0, none⟩ = some v := by simp [World.cell?, hv3]
         have hf3 : w3.frozen? ⟨w.heap.size, 0, none⟩ = false := by simp [World.frozen?, hv3]
         obtain ⟨g', cap', rfl, hg'⟩ : ∃ g' cap', v' = .slice (some ⟨g', 0, none⟩) (pre.length + 1) cap' ∧ w.heap.size + 1 ≤ g' := by
           rcases hown'.2 with ⟨_, h0⟩ | ⟨g', cap', cur', rfl, q1, _⟩
           · omega
           · exact ⟨_, _, rfl, q1⟩
         go_frame)
      | (rw [Oper.semAt_eq _ _ _ (fun c h => by cases h)]; go_simp; try go_bits))
    have hk3 : KeepsOthers W w3 := (KeepsOthers.alloc W _).trans (KeepsOthers.of_grownBy hg3' fun j o e ho => by
      obtain ⟨_, c, hc⟩ := hvo j e
      rw [(Below.heap_alloc _ _ j (Array.getElem?_eq_some_iff.1 hc).1).trans hc] at ho
      cases ho; rfl)
    have hk4 := hk3.trans (KeepsOthers.setCell w3 ⟨w.heap.size, 0, none⟩ (.slice (some ⟨g', 0, none⟩) (pre.length + 1) cap'))
    have hg4 : w3.grownBy (w3.setCell ⟨w.heap.size, 0, none⟩ (.slice (some ⟨g', 0, none⟩) (pre.length + 1) cap')) (some w.heap.size) := grownBy_setCell0_a _ _ _
    have hbel3 : Below w.heap.size w w3 := (hbel.alloc hbel.size _).grown hg3' (by have := hbel.size; simp; omega) (fun k e => by have := (hvo k e).1; omega)
    refine ⟨hk4.from _, hk4.walks, ⟨⟨.slice (some ⟨g', 0, none⟩) (pre.length + 1) cap', heap_setCell_box_a _ hv3, ?_, by simp⟩, hbel3.grown hg4 hbel3.size (fun k e => by cases e; exact Nat.le_refl _), by simp; omega⟩⟩
    have := hown'.kept hg4 (.inr fun e => by simp only [Value.ownBlock, Option.some.injEq] at e; omega)
    simpa [List.flatMap_append] using this
  case done =>
    intro D xs W hD hS hI hK
    obtain ⟨v, hv, hrow, hnil⟩ := hI.box
    have hc : W.cell? ⟨w.heap.size, 0, none⟩ = some v := by simp [World.cell?, hv]
    have hf : W.frozen? ⟨w.heap.size, 0, none⟩ = false := by simp [World.frozen?, hv]
    gi_wp2
    refine ⟨by simp, .inl ⟨_, _, rfl, run_takeDeferred hK, ?_⟩⟩
    have hgD : W.grownBy (W.putObj D (.deferred none)) (some D) := grownBy_putObj' _ _ _
    refine ⟨_, results_tmp rfl _ _ _, v, xs, rfl, hS, hrow.kept hgD ?_, hnil, hI.len, hI.below.grown hgD hI.below.size (fun k e => by cases e; omega)⟩
    rcases hrow.2 with ⟨rfl, _⟩ | ⟨g', cap, cur, rfl, _, q2, _⟩
    · exact .inl rfl
    · refine .inr fun e => ?_
      simp only [Value.ownBlock, Option.some.injEq] at e
      rw [e, hK] at q2; cases q2
  case stop =>
    intro D c pre W _ _ h _
    exact h.elim
set_option maxRecDepth 100000 in
set_option maxHeartbeats 2000000 in
theorem collectK (F : Fence) (n : Nat) (h54 : F.fn 54) (h62 : F.fn 62) (hro : F.round = none) (hn : 3 ≤ n) (g : Nat) (lb : Array Value) (hFg : F.fn g) (eg : ∀ args w, (callFunc g args).run Try.prog w = .ok (.enter g args) w) (S : List Pr → Prop) (N : Nat) (hN : N ≤ 1000000) (w : World)
    (hseq : SeqStopsK F (n - 1 - 1) Try.prog g lb (fun x : Pr => #[prV x]) KeepsWalks S (fun _ => True) N w) :
    CallsIn F n Try.prog 54 #[.func (.func g) #[] lb] w fun e w' => ∃ (v : Value) (ss : List Pr), e = .returned v ∧ S ss ∧ w'.ownsRow (w.heap.size + 1) 68 2 v ss.length (ss.flatMap prC) ∧ (v = .slice none 0 0 ↔ ss = []) ∧ ss.length ≤ N ∧ Below w.heap.size w w' := by
  have h1 : 1 ≤ n := by omega
  refine callsIn_of_wp Try.func54 rfl h54 ?_ hro
  simp only [Try.ntmps54, List.size_toArray, List.length_cons, List.length_nil, Nat.reduceAdd, Nat.reduceSub, Array.replicate_succ, Array.replicate_zero, List.push_toArray, List.append_toArray, List.nil_append, List.cons_append]
  gi_wp2_with (gi_at_call 62; refine (appK F (n - 1) h62 hro (by omega) g lb hFg eg S N hN _ hseq).mono ?_; rintro e w' ⟨v, ss, rfl, hS, hrow, hnil, hl, hb⟩)
  go_ret
  exact ⟨v, ss, rfl, hS, hrow, hnil, hl, hb⟩
end Go.Proofs.Ytcdignblakejoaa
