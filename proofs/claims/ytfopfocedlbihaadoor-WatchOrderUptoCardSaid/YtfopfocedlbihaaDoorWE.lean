/- Parts of the proof, put together. -/
import Derived.Test.YtfopfocedlbihaaDoorWD
import Derived.Test.YtfopfocedlbihaaDoorOD
import Derived.Test.YtfopfocedlbihaaDoorCards
import Derived.Test.YtfopfocedlbihaaDoorTie
import Derived.ProofKit
import Derived.LaidMore
import Derived.MakeChecks
import Derived.Deep.DeepHandedRow
import Derived.Deep.DeepWitnessRowRef
import Derived.Lay
/- A view as an argument, where what is read is of a bulk; what the row lists. -/
namespace Go.Proofs.YtfopfocedlbihaaDoor
open Go Go.ChangeShapes Go.WideShapes Go.ChangeAt Go.RowKit Go.Proofs.YtfopfocedlbihaaDoor.D
set_option linter.unusedVariables false
set_option linter.unusedSimpArgs false
noncomputable section

/-! ### Bulk -/
theorem bulk_one {H : Type} (d : DataW H) : 1 ≤ Rows.uptoBulk d := by
  cases d with
  | lit l => cases l <;> simp [Rows.uptoBulk]
  | nil => simp [Rows.uptoBulk]
  | ptr d => simp [Rows.uptoBulk]
  | slice elems spare => simp [Rows.uptoBulk]
  | agg parts => simp [Rows.uptoBulk]
  | iface t d => simp [Rows.uptoBulk]
  | map entries => simp [Rows.uptoBulk]
  | held h => simp [Rows.uptoBulk]
theorem bulk_part {H : Type} {d : DataW H} {l : List (DataW H)} (h : d ∈ l) : Rows.uptoBulk d ≤ Rows.uptoBulkAll l := by
  induction l with
  | nil => cases h
  | cons x r ih =>
    simp only [Rows.uptoBulkAll]
    cases List.mem_cons.1 h with
    | inl e => subst e; omega
    | inr e => have := ih e; omega
theorem bulk_len {H : Type} (l : List (DataW H)) : l.length ≤ Rows.uptoBulkAll l := by
  induction l with
  | nil => simp [Rows.uptoBulkAll]
  | cons x r ih => have := bulk_one x; simp only [Rows.uptoBulkAll, List.length_cons]; omega
theorem bulk_slice {H : Type} (elems spare : List (DataW H)) : Rows.uptoBulkAll elems + 1 ≤ Rows.uptoBulk (.slice elems spare) := by
  simp only [Rows.uptoBulk]
  omega
section
variable {H : Type} {enc : TypeId × Value → H} {P : Program} {W : World} {base : Nat} {spare : Nat → Bool} {held : Bool} {E : Env}
theorem trod_slB {α : Type} {f : α → List Value} {sz : Nat} {Wf : α → Prop} (B : Nat) (hf : ∀ x, (f x).length = sz) (hsz : 0 < sz) {t e : TypeId} (hu : P.underlying t = some (.slice e)) (hce : P.cellsOf e = sz)
    (hel : ∀ fuel cs r, DataW.trod enc P W base spare held fuel e cs = some r → cs.length = sz → Rows.uptoBulk r.1 ≤ B → ∃ x, Wf x ∧ cs.map (nv (argN E W)) = f x) (hsp : ∀ b, spare b = true)
    {fuel : Nat} {v : Value} {d : DataW H} {ps : List MemPlace} (h : DataW.trod enc P W base spare held fuel t [v] = some (d, ps)) (hB : Rows.uptoBulk d ≤ B) :
    ∃ s l, nv (argN E W) v = .slice s.a s.len s.cap ∧ SlOf f sz (argS E W) s l ∧ (∀ x ∈ l, Wf x) ∧ s.len ≤ s.cap ∧ s.cap < inex ∧ (∀ a, s.a = some a → a.spot = none) ∧ l.length ≤ B := by
  cases fuel with
  | zero => cases h
  | succ fuel =>
    unfold DataW.trod at h
    rw [hu] at h
    split at h <;> first | (cases (‹some (TypeDesc.slice e) = some _›); done) | (cases h; done) | skip
    · rename_i he hv
      cases hv
      exact ⟨⟨none, 0, 0⟩, [], by unfold nv; rfl, ⟨rfl, fun h => (h rfl).elim⟩, by simp, Nat.le_refl _, by decide, (fun a h => by cases h), Nat.zero_le _⟩
    · rename_i e' a len cap he hv
      cases he
      cases hv
      split at h
      · rename_i hc
        obtain ⟨hc1, hc2, hc3⟩ := hc
        rw [hce] at h
        rw [Option.bind_eq_some_iff] at h
        obtain ⟨elems, h1, h⟩ := h
        rw [Option.map_eq_some_iff] at h
        obtain ⟨rest, h2, hd⟩ := h
        have hd1 : d = .slice (elems.map (·.1)) (rest.map (·.1)) := (congrArg Prod.fst hd).symm
        have hBe : Rows.uptoBulkAll (elems.map (·.1)) ≤ B := by rw [hd1] at hB; have := bulk_slice (elems.map (·.1)) (rest.map (·.1)); omega
        rw [hsp, if_pos rfl] at h2
        obtain ⟨g1, g2⟩ := mapM_range h1
        obtain ⟨g3, g4⟩ := mapM_range h2
        have hcap : cap < inex := by
          have : cap ≤ 2 ^ 63 - 1 := hc3
          unfold inex
          omega
        by_cases h0 : cap = 0
        · subst h0
          have : len = 0 := by omega
          subst this
          exact ⟨⟨some ⟨0, 0, none⟩, 0, 0⟩, [], by unfold nv; rfl, ⟨rfl, fun h => (h rfl).elim⟩, by simp, Nat.le_refl _, by decide, (fun a h => by cases h; rfl), Nat.zero_le _⟩
        · -- the first cell is read: the address is one
          have hat : ∀ i, i < cap → ∃ cs r, W.cells? base (a.add (i * sz)) sz = some cs ∧ DataW.trod enc P W base spare held fuel e cs = some r := by
            intro i hi
            by_cases hl : i < len
            · have := g2 i (by omega)
              rw [Option.bind_eq_some_iff] at this
              obtain ⟨cs, h5, h6⟩ := this
              exact ⟨cs, _, h5, h6⟩
            · have := g4 (i - len) (by omega)
              rw [Option.bind_eq_some_iff, show len + (i - len) = i by omega] at this
              obtain ⟨cs, h5, h6⟩ := this
              exact ⟨cs, _, h5, h6⟩
          obtain ⟨cs0, r0, h5, h6⟩ := hat 0 (by omega)
          obtain ⟨hs0, c, et, fr, hw, hA, _, _⟩ := cells_at (E := E) h5 hsz
          simp only [Nat.zero_mul, show a.add 0 = a by simp [Addr.add]] at hs0 hw hA
          obtain ⟨l, hl1, hl2⟩ := list_of (p := fun i x => Wf x ∧ ((c.toList.map (nv (argN E W))).drop (a.off + i * sz)).take sz = f x) (n := len) (fun i hi => by
            have g2i := g2 i (by omega)
            rw [Option.bind_eq_some_iff] at g2i
            obtain ⟨cs, h7, h8⟩ := g2i
            have hbi : Rows.uptoBulk elems[i].1 ≤ B := by
              have h9 : elems[i].1 ∈ elems.map (·.1) := List.mem_map_of_mem (List.getElem_mem (by omega))
              have := bulk_part h9
              omega
            obtain ⟨_, c', et', fr', hw', hA', ht, hlen⟩ := cells_at (E := E) h7 hsz
            rw [add_off hs0] at hw' ht
            rw [hw] at hw'
            cases hw'
            obtain ⟨x, hx1, hx2⟩ := hel fuel cs _ h8 hlen hbi
            exact ⟨x, hx1, by rw [← hx2]; exact ht⟩)
          have hok : okA (argN E W) a = true := by
            have := hA.lt
            simp only [okA, hs0, Option.isNone_none, Bool.true_and]
            exact Nat.blt_eq.mpr this
          have ha : a = ⟨a.block, a.off, none⟩ := by
            obtain ⟨b, o, s⟩ := a
            simp at hs0
            rw [hs0]
          refine ⟨⟨some a, len, cap⟩, l, ?_, ⟨hl1.symm, fun _ => ⟨a.block, a.off, _, _, _, _, congrArg some ha, hA, take_flat (fun i hi => (hl2 i hi).2) hf⟩⟩, ?_, hc2, hcap, (fun a' h => by cases h; exact hs0), by rw [hl1]; have := bulk_len (elems.map (·.1)); rw [List.length_map] at this; omega⟩
          · unfold nv
            have e1 : (Nat.beq len 0 && Nat.beq cap 0) = false := by
              rw [Bool.and_eq_false_iff]
              exact .inr (PM.beq_f h0)
            rw [e1, hok, Nat.ble_eq_true_of_le hc2, Nat.blt_eq.mpr hcap]
            rfl
          · intro x hx
            obtain ⟨i, hi, rfl⟩ := List.getElem_of_mem hx
            exact (hl2 i hi).1
      · cases h

theorem mapM_mem {α β : Type} {g : α → Option β} : ∀ {l : List α} {xs : List β}, l.mapM g = some xs → ∀ a ∈ l, ∃ y ∈ xs, g a = some y := by
  intro l
  induction l with
  | nil => intro xs _ a ha; cases ha
  | cons x l ih =>
    intro xs h a ha
    rw [List.mapM_cons] at h
    cases hx : g x with
    | none => rw [hx] at h; cases h
    | some y =>
      rw [hx] at h
      cases hl : l.mapM g with
      | none => rw [hl] at h; cases h
      | some ys =>
        rw [hl] at h
        cases h
        rcases List.mem_cons.1 ha with rfl | ha
        · exact ⟨y, List.mem_cons_self, hx⟩
        · obtain ⟨z, hz, e⟩ := ih hl a ha
          exact ⟨z, List.mem_cons_of_mem _ hz, e⟩
theorem trod_structB {t : TypeId} {fs : Array Field} (hu : P.underlying t = some (.struct fs)) {fuel : Nat} {cs : List Value} {r : DataW H × List MemPlace} (h : DataW.trod enc P W base spare held fuel t cs = some r) :
    cs.length = P.cellsOf t ∧ ∃ fuel', ∀ f ∈ fs.toList, ∃ r', DataW.trod enc P W base spare held fuel' f.type ((cs.drop f.offset).take (P.cellsOf f.type)) = some r' ∧ Rows.uptoBulk r'.1 ≤ Rows.uptoBulk r.1 := by
  cases fuel with
  | zero => cases h
  | succ fuel =>
    unfold DataW.trod at h
    rw [hu] at h
    split at h <;> first | (cases (‹some (TypeDesc.struct fs) = some _›); done) | (cases h; done) | (exact ((‹∀ fs_1 : Array Field, some (TypeDesc.struct fs) = some (TypeDesc.struct fs_1) → False›) _ rfl).elim) | skip
    rename_i fs' he
    cases he
    split at h
    · rename_i hc
      rw [Option.map_eq_some_iff] at h
      obtain ⟨xs, h1, h2⟩ := h
      refine ⟨hc, fuel, fun f hf => ?_⟩
      obtain ⟨y, hy, e⟩ := mapM_mem h1 f hf
      refine ⟨y, e, ?_⟩
      rw [← h2]
      have h3 : y.1 ∈ xs.map (·.1) := List.mem_map_of_mem hy
      have := bulk_part h3
      show Rows.uptoBulk y.1 ≤ Rows.uptoBulk (.agg (xs.map (·.1)))
      simp only [Rows.uptoBulk]
      omega
    · cases h
end
theorem own : ownKnob Tryd.prog.godebug = none := by kernel_rfl
theorem laidOut : laidOutB Tryd.prog = true := by kernel_rfl
noncomputable def fsOf (t : Nat) : Array Field := match Tryd.prog.underlying t with | some (.struct fs) => fs | _ => #[]
theorem und27p : Tryd.prog.underlying 27 = some (.struct (fsOf 27)) := by kernel_rfl
theorem fl27 : (fsOf 27).toList.map (fun f => (f.type, f.offset)) = [(22, 0), (23, 1), (22, 2), (24, 3), (22, 4), (25, 5), (22, 6), (25, 7), (3, 8)] := by kernel_rfl
theorem und38p : Tryd.prog.underlying 38 = some (.struct (fsOf 38)) := by kernel_rfl
theorem fl38 : (fsOf 38).toList.map (fun f => (f.type, f.offset)) = [(3, 0), (36, 1)] := by kernel_rfl
theorem len1 {l : List Value} (h : l.length = 1) : ∃ a, l = [a] := by
  match l, h with
  | [a], _ => exact ⟨a, rfl⟩
theorem len2 {l : List Value} (h : l.length = 2) : ∃ a b, l = [a, b] := by
  match l, h with
  | [a, b], _ => exact ⟨a, b, rfl⟩
theorem len9 {l : List Value} (h : l.length = 9) : ∃ a b c d e f g i j, l = [a, b, c, d, e, f, g, i, j] := by
  match l, h with
  | [a, b, c, d, e, f, g, i, j], _ => exact ⟨a, b, c, d, e, f, g, i, j, rfl⟩
theorem field_of {fs : Array Field} {l : List (Nat × Nat)} (h : fs.toList.map (fun f => (f.type, f.offset)) = l) {t o : Nat} (hm : (t, o) ∈ l) : ∃ f ∈ fs.toList, f.type = t ∧ f.offset = o := by
  rw [← h] at hm
  obtain ⟨f, h1, h2⟩ := List.mem_map.1 hm
  cases h2
  exact ⟨f, h1, rfl, rfl⟩
section
variable {H : Type} {enc : TypeId × Value → H} {W : World} {base b0 : Nat} {spare : Nat → Bool} {held : Bool} {r : Reach}
theorem cutB {t o : Nat} {fs : Array Field} {l : List (Nat × Nat)} {fuel B : Nat} {cs : List Value} (hl : fs.toList.map (fun f => (f.type, f.offset)) = l) (hm : (t, o) ∈ l)
    (h : ∀ f ∈ fs.toList, ∃ r', DataW.trod enc Tryd.prog W base spare held fuel f.type ((cs.drop f.offset).take (Tryd.prog.cellsOf f.type)) = some r' ∧ Rows.uptoBulk r'.1 ≤ B) :
    ∃ r', DataW.trod enc Tryd.prog W base spare held fuel t ((cs.drop o).take (Tryd.prog.cellsOf t)) = some r' ∧ Rows.uptoBulk r'.1 ≤ B := by
  obtain ⟨f, hf, rfl, rfl⟩ := field_of hl hm
  exact h f hf
theorem read_clm {fuel : Nat} {cs : List Value} {r : DataW H × List MemPlace} (h : DataW.trod enc Tryd.prog W base spare held fuel 38 cs = some r) : ∃ c : Clm, cs = encC c := by
  obtain ⟨hlen, fuel', hf⟩ := trod_structB und38p h
  have hl := fl38
  rw [show Tryd.prog.cellsOf 38 = 2 by kernel_rfl] at hlen
  obtain ⟨a, b, rfl⟩ := len2 hlen
  obtain ⟨_, h0, _⟩ := cutB hl (t := 3) (o := 0) (by simp) hf
  obtain ⟨_, h1, _⟩ := cutB hl (t := 36) (o := 1) (by simp) hf
  rw [show Tryd.prog.cellsOf 3 = 1 by kernel_rfl] at h0
  rw [show Tryd.prog.cellsOf 36 = 1 by kernel_rfl] at h1
  obtain ⟨x0, e0, _⟩ := trod_int Tryd.underlying3 h0
  obtain ⟨x1, e1, _⟩ := trod_int Tryd.underlying36 h1
  simp at e0 e1
  subst e0 e1
  exact ⟨(x0, x1), rfl⟩
/-- Ints. -/
theorem read_ints {B fuel : Nat} {v : Value} {d : DataW H} {ps : List MemPlace} (hsp : ∀ b, spare b = true) (h : DataW.trod enc Tryd.prog W base spare held fuel 22 [v] = some (d, ps)) (hB : Rows.uptoBulk d ≤ B) :
    ∃ (s : Sl) (l : List Int), nv (argN E0 W) v = .slice s.a s.len s.cap ∧ SlOf encI 1 (argS E0 W) s l ∧ s.len ≤ s.cap ∧ s.cap < inex ∧ l.length ≤ B := by
  obtain ⟨s, l, h1, h2, _, h3, h4, _, h5⟩ := trod_slB (E := E0) (f := encI) (sz := 1) (Wf := fun _ => True) B (fun _ => rfl) (by omega) Tryd.underlying22 (by kernel_rfl) (fun fuel cs r h _ _ => by
    obtain ⟨z, rfl, _⟩ := trod_int Tryd.underlying3 h
    exact ⟨z, trivial, by simp [encI, nv_int]⟩) hsp h hB
  exact ⟨s, l, h1, h2, h3, h4, h5⟩
theorem read_us {B fuel : Nat} {v : Value} {d : DataW H} {ps : List MemPlace} (hsp : ∀ b, spare b = true) (h : DataW.trod enc Tryd.prog W base spare held fuel 25 [v] = some (d, ps)) (hB : Rows.uptoBulk d ≤ B) :
    ∃ (s : Sl) (l : List Int), nv (argN E0 W) v = .slice s.a s.len s.cap ∧ SlOf encU 1 (argS E0 W) s l ∧ l.length ≤ B := by
  obtain ⟨s, l, h1, h2, _, h3, h4, _, h5⟩ := trod_slB (E := E0) (f := encU) (sz := 1) (Wf := fun _ => True) B (fun _ => rfl) (by omega) Tryd.underlying25 (by kernel_rfl) (fun fuel cs r h _ _ => by
    obtain ⟨z, rfl, _⟩ := trod_int Tryd.underlying36 h
    exact ⟨z, trivial, by simp [encU, nv_int]⟩) hsp h hB
  exact ⟨s, l, h1, h2, h5⟩
theorem read_cls {B fuel : Nat} {v : Value} {d : DataW H} {ps : List MemPlace} (hsp : ∀ b, spare b = true) (h : DataW.trod enc Tryd.prog W base spare held fuel 23 [v] = some (d, ps)) (hB : Rows.uptoBulk d ≤ B) :
    ∃ (s : Sl) (l : List CL), nv (argN E0 W) v = .slice s.a s.len s.cap ∧ SlOf fCL 1 (argS E0 W) s l ∧ (∀ p ∈ l, SlOf encC 2 (argS E0 W) p.1 p.2 ∧ p.2.length ≤ B) ∧ l.length ≤ B := by
  obtain ⟨s, l, h1, h2, h3, _, _, _, h5⟩ := trod_slB (E := E0) (f := fCL) (sz := 1) (Wf := fun p : CL => SlOf encC 2 (argS E0 W) p.1 p.2 ∧ p.2.length ≤ B) B (fun _ => rfl) (by omega) Tryd.underlying23 (by kernel_rfl) (fun fuel cs r h hl hb => by
    obtain ⟨v, rfl⟩ := len1 hl
    obtain ⟨d, ps⟩ := r
    obtain ⟨s, l, h1, h2, _, _, _, _, h5⟩ := trod_slB (E := E0) (f := encC) (sz := 2) (Wf := fun _ => True) B (fun _ => rfl) (by omega) Tryd.underlying35 (by kernel_rfl) (fun fuel cs r h _ _ => by
      obtain ⟨c, rfl⟩ := read_clm h
      exact ⟨c, trivial, by simp [encC, nv_int]⟩) hsp h hb
    exact ⟨(s, l), ⟨h2, h5⟩, by simp [h1]⟩) hsp h hB
  exact ⟨s, l, h1, h2, h3, h5⟩
theorem read_ils {B fuel : Nat} {v : Value} {d : DataW H} {ps : List MemPlace} (hsp : ∀ b, spare b = true) (h : DataW.trod enc Tryd.prog W base spare held fuel 24 [v] = some (d, ps)) (hB : Rows.uptoBulk d ≤ B) :
    ∃ (s : Sl) (l : List IL), nv (argN E0 W) v = .slice s.a s.len s.cap ∧ SlOf fIL 1 (argS E0 W) s l ∧ (∀ p ∈ l, SlOf encI 1 (argS E0 W) p.1 p.2 ∧ p.2.length ≤ B) ∧ l.length ≤ B := by
  obtain ⟨s, l, h1, h2, h3, _, _, _, h5⟩ := trod_slB (E := E0) (f := fIL) (sz := 1) (Wf := fun p : IL => SlOf encI 1 (argS E0 W) p.1 p.2 ∧ p.2.length ≤ B) B (fun _ => rfl) (by omega) Tryd.underlying24 (by kernel_rfl) (fun fuel cs r h hl hb => by
    obtain ⟨v, rfl⟩ := len1 hl
    obtain ⟨d, ps⟩ := r
    obtain ⟨s, l, h1, h2, _, _, h5⟩ := read_ints hsp h hb
    exact ⟨(s, l), ⟨h2, h5⟩, by simp [h1]⟩) hsp h hB
  exact ⟨s, l, h1, h2, h3, h5⟩
set_option maxRecDepth 100000 in
set_option maxHeartbeats 2000000 in
theorem arg_vw {v : Value} {d : DataW H} {ps : List MemPlace} (hsp : ∀ b, spare b = true) (hok : Value.okWide Tryd.prog W r b0 27 v) (h : DataW.Trod enc Tryd.prog W base spare held 27 v d ps) (hB : Rows.uptoBulk d ≤ 1048576) :
    ∃ (x : PVx) (w : PV) (cs : List CL) (os : List IL), nv (argN E0 W) v = sv G26 x ∧ Vw (argS E0 W) x w cs os ∧ Bd w := by
  obtain ⟨c, rfl⟩ := okWide_agg und27p hok
  obtain ⟨fuel, h⟩ := h
  have h : DataW.trod enc Tryd.prog W base spare held fuel 27 c.toList = some (d, ps) := h
  obtain ⟨hlen, fuel', hf0⟩ := trod_structB und27p h
  have hf : ∀ f ∈ (fsOf 27).toList, ∃ r', DataW.trod enc Tryd.prog W base spare held fuel' f.type ((c.toList.drop f.offset).take (Tryd.prog.cellsOf f.type)) = some r' ∧ Rows.uptoBulk r'.1 ≤ 1048576 := fun f hm => by
    obtain ⟨r', h1, h2⟩ := hf0 f hm
    exact ⟨r', h1, Nat.le_trans h2 hB⟩
  have hl := fl27
  rw [show Tryd.prog.cellsOf 27 = 9 by kernel_rfl] at hlen
  obtain ⟨a0, a1, a2, a3, a4, a5, a6, a7, a8, hcs⟩ := len9 hlen
  rw [hcs] at hf
  obtain ⟨⟨d0, p0⟩, h0, k0⟩ := cutB hl (t := 22) (o := 0) (by simp) hf
  obtain ⟨⟨d1, p1⟩, h1, k1⟩ := cutB hl (t := 23) (o := 1) (by simp) hf
  obtain ⟨⟨d2, p2⟩, h2, k2⟩ := cutB hl (t := 22) (o := 2) (by simp) hf
  obtain ⟨⟨d3, p3⟩, h3, k3⟩ := cutB hl (t := 24) (o := 3) (by simp) hf
  obtain ⟨⟨d4, p4⟩, h4, k4⟩ := cutB hl (t := 22) (o := 4) (by simp) hf
  obtain ⟨⟨d5, p5⟩, h5, k5⟩ := cutB hl (t := 25) (o := 5) (by simp) hf
  obtain ⟨⟨d6, p6⟩, h6, k6⟩ := cutB hl (t := 22) (o := 6) (by simp) hf
  obtain ⟨⟨d7, p7⟩, h7, k7⟩ := cutB hl (t := 25) (o := 7) (by simp) hf
  obtain ⟨⟨d8, p8⟩, h8, k8⟩ := cutB hl (t := 3) (o := 8) (by simp) hf
  rw [show Tryd.prog.cellsOf 22 = 1 by kernel_rfl] at h0 h2 h4 h6
  rw [show Tryd.prog.cellsOf 23 = 1 by kernel_rfl] at h1
  rw [show Tryd.prog.cellsOf 24 = 1 by kernel_rfl] at h3
  rw [show Tryd.prog.cellsOf 25 = 1 by kernel_rfl] at h5 h7
  rw [show Tryd.prog.cellsOf 3 = 1 by kernel_rfl] at h8
  obtain ⟨s0, l0, e0, g0, c0, c0', b0⟩ := read_ints hsp h0 k0
  obtain ⟨s1, l1, e1, g1, i1, b1⟩ := read_cls hsp h1 k1
  obtain ⟨s2, l2, e2, g2, _, _, b2⟩ := read_ints hsp h2 k2
  obtain ⟨s3, l3, e3, g3, i3, b3⟩ := read_ils hsp h3 k3
  obtain ⟨s4, l4, e4, g4, _, _, b4⟩ := read_ints hsp h4 k4
  obtain ⟨s5, l5, e5, g5, b5⟩ := read_us hsp h5 k5
  obtain ⟨s6, l6, e6, g6, _, _, b6⟩ := read_ints hsp h6 k6
  obtain ⟨s7, l7, e7, g7, b7⟩ := read_us hsp h7 k7
  obtain ⟨z8, e8, _⟩ := trod_int Tryd.underlying3 h8
  simp at e8
  subst e8
  refine ⟨(s0, s1, s2, s3, s4, s5, s6, s7, z8), { at_ := l0, claims := l1.map (·.2), goals := l2, opn := l3.map (·.2), records := l4, epochs := l5, holders := l6, gens := l7, flights := z8 }, l1, l3, ?_,
    ⟨g0, g1, fun p hp => (i1 p hp).1, rfl, g2, g3, fun p hp => (i3 p hp).1, rfl, g4, g5, g6, g7, rfl, ⟨c0, c0'⟩⟩, ⟨b0, b2, b4, b5, b6, b7, by simpa using b1, fun l hl => ?_, by simpa using b3, fun l hl => ?_⟩⟩
  · rw [nv_agg]
    show Value.agg _ = Value.agg _
    congr 1
    apply Array.ext'
    rw [Array.toList_map, hcs]
    simp [encs, Sc.enc, e0, e1, e2, e3, e4, e5, e6, e7, nv_int]
    rfl
  · obtain ⟨p, hp, rfl⟩ := List.mem_map.1 hl
    exact (i1 p hp).2
  · obtain ⟨p, hp, rfl⟩ := List.mem_map.1 hl
    exact (i3 p hp).2
end
abbrev laidW : List (String × DataW Unit) := Rows.watchOrderUptoRow.laid
theorem gl_laidW {W : World} (h : laidMetH Tryd.prog laidW W) : Gl (argS E0 W) where
  names := by
    obtain ⟨g, t, cs, fuel, p, e1, e2, e3, e4⟩ := laid_mem h (n := "wagonway/watch.names") (d := Rows.laid_wagonway_watch_names) (List.mem_of_getElem? (i := 3) rfl) rfl
    obtain rfl : g = 0 := Option.some.inj (e1.symm.trans (by kernel_rfl : Tryd.prog.globalNamed "wagonway/watch.names" = some 0))
    obtain rfl : t = 70 := Option.some.inj (e2.symm.trans (by kernel_rfl : (Tryd.prog.globals[0]?).map (·.type) = some 70))
    have hat := var_at (E := E0) e1 e3
    have hd : (Rows.laid_wagonway_watch_names : DataW Unit) = .agg (tabN.map fun l => .lit (.string l)) := by kernel_rfl
    rw [hd] at e4
    rw [trod_strs (n := 8) Tryd.underlying70 Tryd.underlying9 (by kernel_rfl) (by kernel_rfl) e4, List.map_map] at hat
    refine ⟨none, true, some (0, cs.size), ?_⟩
    rw [show tabN.map strV = tabN.map (nv (argN E0 W) ∘ fun l => Value.string ⟨l.toArray⟩) from List.map_congr_left fun l _ => (nv_string _ _).symm]
    exact hat
  pow := by
    obtain ⟨g, t, cs, fuel, p, e1, e2, e3, e4⟩ := laid_mem h (n := "internal/strconv.uint64pow10") (d := Rows.laid_internal_strconv_uint64pow10) (List.mem_of_getElem? (i := 2) rfl) rfl
    obtain rfl : g = 4 := Option.some.inj (e1.symm.trans (by kernel_rfl : Tryd.prog.globalNamed "internal/strconv.uint64pow10" = some 4))
    obtain rfl : t = 193 := Option.some.inj (e2.symm.trans (by kernel_rfl : (Tryd.prog.globals[4]?).map (·.type) = some 193))
    have hat := var_at (E := E0) e1 e3
    have hd : (Rows.laid_internal_strconv_uint64pow10 : DataW Unit) = Lib.tabData .u64 powT := by kernel_rfl
    rw [hd] at e4
    rw [Lib.cells_of_tab (n := 20) Tryd.underlying193 Tryd.underlying46 (by kernel_rfl) (by kernel_rfl) e4, List.map_map] at hat
    refine ⟨none, true, some (0, cs.size), ?_⟩
    rw [show powT.map (Value.int .u64) = powT.map (nv (argN E0 W) ∘ fun z => Value.int .u64 z) from List.map_congr_left fun l _ => (nv_int _ _ _).symm]
    exact hat
theorem lay_metW (os : Os) (args : Array Value) : laidMetH Tryd.prog laidW ((World.laidAll Tryd.prog os laidW).forCall (fun _ _ => 0) ⟨#[], args, []⟩).memory := by
  rw [MakeChecks.laidMetH_plain _ _ _ (by kernel_rfl)]
  exact laidMet_laidAll _ (by kernel_rfl) (by kernel_rfl)
end
end Go.Proofs.YtfopfocedlbihaaDoor
