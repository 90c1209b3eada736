/- Parts of the proof, put together. -/
import Derived.Test.YtcdignblakejoaaDF
import Derived.Test.YtcdignblakejoaaDE
/-
  D, part 43: slices.SortedFunc of a map's keys that are pairs of numbers (whatever the order in which the map tells them), slices.Sort, slices.Insert: as primitives.
-/
namespace Go.Proofs.Ytcdignblakejoaa.D
noncomputable section
open Go.RowKit
set_option linter.unusedVariables false
set_option linter.unusedSimpArgs false

abbrev Pr := Int × Int
abbrev prV (x : Pr) : Value := .agg #[.int .i64 x.1, .int .i64 x.2]
abbrev prC (x : Pr) : List Value := [.int .i64 x.1, .int .i64 x.2]
def prOf : Value → Option Pr
  | .agg a => match a.toList with
    | [.int .i64 x, .int .i64 y] => some (x, y)
    | _ => none
  | _ => none
theorem prOf_eq {v : Value} {x : Pr} (h : prOf v = some x) : v = prV x := by
  unfold prOf at h
  split at h
  · rename_i a
    split at h
    · rename_i p q e
      cases h
      have : a = #[.int .i64 p, .int .i64 q] := Array.ext' e
      rw [this]
    · cases h
  · cases h
theorem prOf_V (x : Pr) : prOf (prV x) = some x := rfl
def keysOf : List MapEntry → Option (List Pr)
  | [] => some []
  | e :: r => (prOf e.key).bind fun x => (keysOf r).map (x :: ·)
theorem keysOf_eq : ∀ {es : List MapEntry} {ks : List Pr}, keysOf es = some ks → es.map (·.key) = ks.map prV
  | [], ks, h => by cases h; rfl
  | e :: r, ks, h => by
    unfold keysOf at h
    rw [Option.bind_eq_some_iff] at h
    obtain ⟨x, h1, h⟩ := h
    rw [Option.map_eq_some_iff] at h
    obtain ⟨ys, h2, rfl⟩ := h
    rw [List.map_cons, List.map_cons, prOf_eq h1, keysOf_eq h2]
theorem keysOf_of : ∀ {es : List MapEntry} {ks : List Pr}, es.map (·.key) = ks.map prV → keysOf es = some ks
  | [], [], _ => rfl
  | [], _ :: _, h => by simp at h
  | _ :: _, [], h => by simp at h
  | e :: r, x :: ks, h => by
    rw [List.map_cons, List.map_cons, List.cons.injEq] at h
    unfold keysOf
    rw [h.1, prOf_V, Option.bind_some, keysOf_of h.2, Option.map_some]
def leP (a b : Pr) : Bool := decide (a.1 < b.1 ∨ (a.1 = b.1 ∧ a.2 ≤ b.2))
theorem leP_antisymm {a b : Pr} (h1 : leP a b = true) (h2 : leP b a = true) : a = b := by
  obtain ⟨a1, a2⟩ := a
  obtain ⟨b1, b2⟩ := b
  simp only [leP, decide_eq_true_eq] at h1 h2
  have : a1 = b1 ∧ a2 = b2 := by omega
  rw [this.1, this.2]
theorem leP_trans (a b c : Pr) (h1 : leP a b = true) (h2 : leP b c = true) : leP a c = true := by
  simp only [leP, decide_eq_true_eq] at *; omega
theorem leP_total (a b : Pr) : (leP a b || leP b a) = true := by
  simp only [leP, Bool.or_eq_true, decide_eq_true_eq]; omega
def sortP2 (l : List Pr) : List Pr := l.mergeSort leP
theorem sortP2_perm {a b : List Pr} (h : a.Perm b) : sortP2 a = sortP2 b :=
  List.Perm.eq_of_pairwise (le := fun x y => leP x y = true) (fun _ _ _ _ h1 h2 => leP_antisymm h1 h2) (List.pairwise_mergeSort leP_trans leP_total a) (List.pairwise_mergeSort leP_trans leP_total b)
    ((List.mergeSort_perm a leP).trans (h.trans (List.mergeSort_perm b leP).symm))
theorem sortP2_len (l : List Pr) : (sortP2 l).length = l.length := (List.mergeSort_perm l _).length_eq
theorem sortP2_sorted {a b : List Pr} (h : a.Perm b) (hb : b.Pairwise fun x y => leP x y = true) : sortP2 a = b := by
  rw [sortP2_perm h]; exact List.mergeSort_of_pairwise hb
theorem prC_len (ts : List Pr) : (ts.flatMap prC).length = ts.length * 2 := by
  induction ts with
  | nil => rfl
  | cons t ts ih => simp only [List.flatMap_cons, List.length_append, ih, List.length_cons, prC, List.length_nil]; omega

/-! ### A block of the model's that is laid already -/
theorem HR.lay {E : Env} {m : Mp} {S : St} {w : World} (h : HR E m S w) (o : DObj) (x : BM) (hx : ∀ b o' y, S.heap.get b = some o' → o'.live = true → m b = some y → y.blk ≠ x.blk) (ho : OR (m.put S.next x) x o w.heap[x.blk]?) :
    HR E (m.put S.next x) (S.alloc o).2 w := by
  have hf := h.fresh
  have hle : m.le (m.put S.next x) := Mp.le_put hf
  have hback : ∀ b y, b ≠ S.next → m.put S.next x b = some y → m b = some y := fun b y hb e => by rwa [Mp.put_ne hb] at e
  refine ⟨?_, ?_, ?_, ?_⟩
  · intro b y e
    by_cases hb : b = S.next
    · subst hb; simp [St.alloc]
    · have := h.dom b y (hback b y hb e); simp [St.alloc]; omega
  · intro g hg
    obtain ⟨y, h1, h2⟩ := h.glob g hg
    exact ⟨y, hle _ _ h1, h2⟩
  · intro b o' y hg hl e
    simp only [St.alloc, PM.get_set] at hg
    by_cases hb : b = S.next
    · rw [if_pos hb] at hg; cases hg
      rw [hb] at e; simp at e; subst e
      exact ho
    · rw [if_neg hb] at hg
      exact (h.obj b o' y hg hl (hback b y hb e)).mono hle
  · intro b b' o1 o2 y y' hg hg' hl hl' hne hw e e'
    simp only [St.alloc, PM.get_set] at hg hg'
    by_cases hb : b = S.next
    · by_cases hb' : b' = S.next
      · exact absurd (hb.trans hb'.symm) hne
      · rw [if_neg hb'] at hg'
        have e2 := hback b' y' hb' e'
        rw [hb] at e; simp at e; subst e
        exact fun hh => hx b' o2 y' hg' hl' e2 hh.symm
    · rw [if_neg hb] at hg
      have e2 := hback b y hb e
      by_cases hb' : b' = S.next
      · rw [hb'] at e'; simp at e'; subst e'
        exact hx b o1 y hg hl e2
      · rw [if_neg hb'] at hg'
        exact h.inj b b' o1 o2 y y' hg hg' hl hl' hne hw e2 (hback b' y' hb' e')

/-! ### slices.SortedFunc over a map's keys -/
def bornOk (es : List MapEntry) (clock : Nat) : Bool := es.all (fun e => Nat.blt e.born clock) && decide ((es.map (·.born)).Nodup)
/-- g1: the map's iterator, g2: who compares. -/
def skP (g1 g2 : Nat) : List Value → St → Option (Value × St)
  | [.func (.func g1') fi1 ca1, .func (.func g2') fi2 ca2], S =>
    cond (Nat.beq g1' g1 && Nat.beq fi1.size 0 && (Nat.beq g2' g2 && Nat.beq fi2.size 0 && Nat.beq ca2.size 0))
      (match ca1.toList with
       | [.pointer (some ⟨bx, 0, none⟩)] =>
         (match S.heap.get bx with
          | some (.cells [.map none] none false none) => some (.slice none 0 0, S)
          | some (.cells [.map (some b)] none false none) =>
            (match S.heap.get b with
             | some (.map es clock) =>
               cond (bornOk es clock && Nat.ble es.length 1000000)
                 ((keysOf es).bind fun ks => match ks with
                   | [] => some (.slice none 0 0, S)
                   | k :: r => some (.slice (some ⟨S.next, 0, none⟩) (k :: r).length inex, (S.alloc (.cells ((sortP2 (k :: r)).flatMap prC) (some 2) false none)).2)) none
             | _ => none)
          | _ => none)
       | _ => none) none
  | _, _ => none
theorem ERs.keys {m : Mp} : ∀ {es es' : List MapEntry} {ks : List Pr}, ERs m es es' → es.map (·.key) = ks.map prV → es'.map (·.key) = ks.map prV
  | [], _, ks, h, e => by cases h; exact e
  | x :: r, _, [], h, e => by simp at e
  | x :: r, _, k :: ks, h, e => by
    cases h with
    | cons h1 h2 =>
      rw [List.map_cons, List.map_cons, List.cons.injEq] at e
      rw [List.map_cons, List.map_cons, ERs.keys h2 e.2]
      congr 1
      have hk := h1.key
      rw [e.1] at hk
      exact keyOk_vr (by rfl) hk
theorem ERs.borns {m : Mp} : ∀ {es es' : List MapEntry}, ERs m es es' → es'.map (·.born) = es.map (·.born)
  | _, _, .nil => rfl
  | _, _, .cons h1 h2 => by rw [List.map_cons, List.map_cons, h1.born, ERs.borns h2]
theorem skP_ok {E : Env} {P : Program} {f g1 g2 tk : Nat} (hen : Enterable P f)
    (c0 : ∀ (Bm o : Nat) (w : World), Bm < w.heap.size → w.cell? ⟨Bm, o, none⟩ = some (.map none) → w.frozen? ⟨Bm, o, none⟩ = false →
      Calls P f #[.func (.func g1) #[] #[.pointer (some ⟨Bm, o, none⟩)], .func (.func g2) #[] #[]] w fun e w' => e = .returned (.slice none 0 0) ∧ Below w.heap.size w w')
    (c1 : ∀ (Bm o b clock : Nat) (es : Array MapEntry) (ks : List Pr) (w : World), Bm < w.heap.size → w.cell? ⟨Bm, o, none⟩ = some (.map (some b)) → w.frozen? ⟨Bm, o, none⟩ = false → w.heap[b]? = some (.map es clock) →
      es.toList.map (·.key) = ks.map prV → (es.toList.map (·.born)).Nodup → (∀ x ∈ es.toList, x.born < clock) → ks.length ≤ 1000000 →
      Calls P f #[.func (.func g1) #[] #[.pointer (some ⟨Bm, o, none⟩)], .func (.func g2) #[] #[]] w fun e w' => ∃ v, e = .returned v ∧ w'.ownsRow w.heap.size tk 2 v ks.length ((sortP2 ks).flatMap prC) ∧ (ks = [] → v = .slice none 0 0) ∧ Below w.heap.size w w') :
    CallOk E P (fun g args S => if g = f then skP g1 g2 args S else none) := by
  refine callOk_any hen fun args S v S' h m w args' hH hv => ?_
  unfold skP at h
  split at h
  · rename_i g1' fi1 ca1 g2' fi2 ca2
    obtain ⟨hb, h1⟩ := cond_some h
    clear h
    simp only [Bool.and_eq_true] at hb
    obtain ⟨⟨hg1, hf1⟩, ⟨hg2, hf2⟩, hc2⟩ := hb
    obtain rfl := Nat.eq_of_beq_eq_true hg1
    obtain rfl := Nat.eq_of_beq_eq_true hg2
    obtain rfl : fi1 = #[] := Array.eq_empty_of_size_eq_zero (Nat.eq_of_beq_eq_true hf1)
    obtain rfl : fi2 = #[] := Array.eq_empty_of_size_eq_zero (Nat.eq_of_beq_eq_true hf2)
    obtain rfl : ca2 = #[] := Array.eq_empty_of_size_eq_zero (Nat.eq_of_beq_eq_true hc2)
    obtain ⟨x', y', e1, hx, hy⟩ := VRs.inv2 hv
    obtain rfl := vr_func hy
    obtain rfl : args' = #[_, _] := Array.ext' e1
    split at h1
    · rename_i bx hca
      obtain rfl : ca1 = #[.pointer (some ⟨bx, 0, none⟩)] := Array.ext' hca
      obtain ⟨X, hmX, rfl⟩ : ∃ X, m bx = some X ∧ x' = .func (.func g1') #[] #[.pointer (some ⟨X.blk, X.base + 0, none⟩)] := by
        cases hx with
        | fn f fs fs' cs cs' _ h2 _ h4 h5 =>
          obtain rfl : fs' = #[] := Array.eq_empty_of_size_eq_zero (by rw [← h2]; rfl)
          have hs1 : cs'.size = 1 := by rw [← h4]; rfl
          obtain ⟨p, rfl⟩ : ∃ p, cs' = #[p] := ⟨cs'[0], by
            apply Array.ext
            · simpa using hs1
            · intro i h1 h2
              have : i = 0 := by omega
              subst this; rfl⟩
          have := h5 0 _ p rfl rfl
          cases this with
          | ptr _ _ X hX => exact ⟨X, hX, rfl⟩
      split at h1
      · rename_i hbx
        cases h1
        obtain ⟨v', h2, h3⟩ := hH.cell_at (b := bx) (o := 0) (v := .map none) hmX (by unfold St.load1; rw [hbx]; rfl)
        cases h3
        obtain ⟨ccs, e, fr, k1, k2, k3, k4, k5, k6⟩ := hH.obj bx _ X hbx rfl hmX
        obtain rfl : fr = (0, 0) := k5
        have hlt : X.blk < w.heap.size := (Array.getElem?_eq_some_iff.1 k1).1
        refine (c0 X.blk (X.base + 0) w hlt h2 (by simp [World.frozen?, k1])).mono ?_
        rintro e w' ⟨rfl, hbel⟩
        obtain ⟨j1, j2⟩ := hr_below hH hbel
        exact ⟨_, m, rfl, .nils, j1, j2⟩
      · rename_i b hbx
        obtain ⟨v', h2, h3⟩ := hH.cell_at (b := bx) (o := 0) (v := .map (some b)) hmX (by unfold St.load1; rw [hbx]; rfl)
        obtain ⟨ccs, e, fr, k1, k2, k3, k4, k5, k6⟩ := hH.obj bx _ X hbx rfl hmX
        obtain rfl : fr = (0, 0) := k5
        have hlt : X.blk < w.heap.size := (Array.getElem?_eq_some_iff.1 k1).1
        cases h3 with
        | mp _ Y hmY =>
        split at h1
        · rename_i es clock hges
          obtain ⟨hbo, h1⟩ := cond_some h1
          simp only [Bool.and_eq_true, Nat.ble_eq] at hbo
          obtain ⟨hbo, hlen⟩ := hbo
          rw [Option.bind_eq_some_iff] at h1
          obtain ⟨ks, hks, h1⟩ := h1
          have hks := keysOf_eq hks
          have hkl : ks.length = es.length := by have := congrArg List.length hks; simpa using this.symm
          obtain ⟨ces, l1, l2⟩ := hH.obj b _ Y hges rfl hmY
          unfold bornOk at hbo
          simp only [Bool.and_eq_true, List.all_eq_true, Nat.blt_eq, decide_eq_true_eq] at hbo
          have hbn := l2.borns
          have hc := c1 X.blk (X.base + 0) Y.blk clock ces ks w hlt h2 (by simp [World.frozen?, k1]) l1 (l2.keys hks) (by rw [hbn]; exact hbo.2) (fun x hx => by
            have : x.born ∈ ces.toList.map (·.born) := List.mem_map.2 ⟨x, hx, rfl⟩
            rw [hbn] at this
            obtain ⟨y, hy, hyx⟩ := List.mem_map.1 this
            rw [← hyx]; exact hbo.1 y hy) (by omega)
          refine hc.mono ?_
          rintro e w' ⟨v', rfl, hrow, hnil, hbel⟩
          obtain ⟨j1, j2⟩ := hr_below hH hbel
          split at h1
          · cases h1
            rw [hnil rfl]
            exact ⟨_, m, rfl, .nils, j1, j2⟩
          · rename_i k r _
            cases h1
            rcases hrow.2 with ⟨_, h0⟩ | ⟨g, cap, cur, rfl, hg1, hg2, hg3, hg4, hg5, hg6⟩
            · simp at h0
            have hx : ∀ b o' y, S.heap.get b = some o' → o'.live = true → m b = some y → y.blk ≠ g := fun b o' y q1 q2 q3 hh => by
              have := OR.lt q2 (hH.obj b o' y q1 q2 q3)
              omega
            have hcl : ((sortP2 (k :: r)).flatMap prC).length = (k :: r).length * 2 := by rw [prC_len, sortP2_len]
            have hmx : cap ≤ 9223372036854775807 := hg4
            have hlay := j1.lay (.cells ((sortP2 (k :: r)).flatMap prC) (some 2) false none) ⟨g, 0, cap * 2, 2⟩ hx ⟨cur, tk, (0, 0), hg2, hg5, by rw [hcl]; show 0 + _ ≤ cap * 2; omega, by
              rw [List.drop_zero, hcl, hg6]
              exact VRs.map_same fun v hv => by
                obtain ⟨q, _, hq⟩ := List.mem_flatMap.1 hv
                simp only [prC, List.mem_cons, List.not_mem_nil, or_false] at hq
                rcases hq with rfl | rfl <;> exact .int _ _, rfl, fun s hs => by
                cases hs
                exact TY.low rfl (by decide) fun _ => by show cap * 2 ≤ _; omega⟩
            refine ⟨_, _, rfl, VR.slx S.next 0 (k :: r).length cap ⟨g, 0, cap * 2, 2⟩ (by simp) hg3 (by simp), hlay, ?_⟩
            refine ⟨Mp.le_put j1.fresh, j2.size, j2.os, j2.tape, j2.output, fun c hc hn => hbel.block c hc, ?_, Nat.le_succ _, fun b hb hn => ⟨by rw [Mp.put_ne (by omega)]; exact hn, PM.get_set_ne (by omega)⟩⟩
            rintro c hc ⟨b, o', y, q1, q2, q3, rfl⟩
            simp only [St.alloc, PM.get_set] at q1
            by_cases hb : b = S.next
            · rw [hb] at q3; simp at q3; subst q3
              exact absurd hg1 (by show ¬ w.heap.size ≤ g; exact Nat.not_le.2 hc)
            · rw [if_neg hb] at q1
              exact ⟨b, o', y, q1, q2, by rwa [Mp.put_ne hb] at q3, rfl⟩
        · cases h1
      · cases h1
    · cases h1
  · cases h

/-! ### A table -/
structure KNums where
  /-- stringslite.IndexByte -/
  fI : Option Nat
  /-- slices.Insert, and how many cells an element has -/
  fN : Nat
  sz : Nat
  /-- slices.Sort of numbers -/
  fS : Option Nat
  /-- slices.SortedFunc, the iterator, who compares -/
  fK : Nat
  g1 : Nat
  g2 : Nat
def primsK (N : KNums) (f : Nat) : Option (List Value → St → Option (Value × St)) :=
  if some f = N.fI then some (withS idxP) else if f = N.fN then some (insP N.sz) else if some f = N.fS then some sortP else if f = N.fK then some (skP N.g1 N.g2) else none
theorem sort_lw {args : List Value} {S S' : St} {v : Value} (h : sortP args S = some (v, S')) : Lw S S' := by
  unfold sortP at h
  split at h
  · cases h; exact Lw.refl _
  · split at h
    · rw [Option.bind_eq_some_iff] at h
      obtain ⟨zs, _, h⟩ := h
      obtain ⟨_, h⟩ := cond_some h
      cases h; exact Lw.upd _ _ _
    · cases h
  · cases h
theorem sk_lw {g1 g2 : Nat} {args : List Value} {S S' : St} {v : Value} (h : skP g1 g2 args S = some (v, S')) : Lw S S' := by
  unfold skP at h
  split at h
  · obtain ⟨_, h⟩ := cond_some h
    split at h
    · split at h
      · cases h; exact Lw.refl _
      · split at h
        · obtain ⟨_, h⟩ := cond_some h
          rw [Option.bind_eq_some_iff] at h
          obtain ⟨ks, _, h⟩ := h
          split at h
          · cases h; exact Lw.refl _
          · cases h; exact Lw.alloc _ _
        · cases h
      · cases h
    · cases h
  · cases h
theorem primsK_lw {E : Env} {N : KNums} (hE : E.prim = primsK N) : PrimLw E := by
  intro f p hp args S v S' h
  rw [hE] at hp
  unfold primsK at hp
  split at hp
  · cases hp; exact withS_lw h
  split at hp
  · cases hp; exact ins_lw h
  split at hp
  · cases hp; exact sort_lw h
  split at hp
  · cases hp; exact sk_lw h
  · cases hp
theorem primsK_ok {E : Env} {P : Program} {N : KNums} (hE : E.prim = primsK N)
    (hI : ∀ f, N.fI = some f → CallOk E P (fun g args S => if g = f then (idxP args S).map (·, S) else none))
    (hN : CallOk E P (fun g args S => if g = N.fN then insP N.sz args S else none))
    (hS : ∀ f, N.fS = some f → CallOk E P (fun g args S => if g = f then sortP args S else none))
    (hK : CallOk E P (fun g args S => if g = N.fK then skP N.g1 N.g2 args S else none)) : PrimOk E P := by
  intro f p hp
  rw [hE] at hp
  unfold primsK at hp
  split at hp
  · rename_i e; cases hp; exact hI f e.symm
  split at hp
  · rename_i e; subst e; cases hp; exact hN
  split at hp
  · rename_i e; cases hp; exact hS f e.symm
  split at hp
  · rename_i e; subst e; cases hp; exact hK
  · cases hp
end
end Go.Proofs.Ytcdignblakejoaa.D
