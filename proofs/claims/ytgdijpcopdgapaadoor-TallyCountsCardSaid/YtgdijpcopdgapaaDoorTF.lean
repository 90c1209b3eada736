/- Parts of the proof, put together. -/
import Derived.Test.YtgdijpcopdgapaaDoorTE
import Derived.Test.YtgdijpcopdgapaaDoorSA
import Derived.Test.YtgdijpcopdgapaaDoorRows
import Derived.Laws.LoneSync
import Derived.WalkKit
import Derived.Lib.LaidTab
import Derived.Shelf.Vars
import Derived.Test.YtgdijpcopdgapaaDoorCards
import Derived.Test.YtgdijpcopdgapaaDoorTie
import Derived.ProofKit
import Derived.LaidMore
import Derived.MakeChecks
import Derived.Deep.DeepHandedRow
import Derived.Deep.DeepWitnessRowRef
import Derived.Lay
/- Tally: the library's functions by their contracts. -/
namespace Go.Proofs.YtgdijpcopdgapaaDoor
open Go Go.RowKit Go.Proofs.YtgdijpcopdgapaaDoor.D
set_option linter.unusedVariables false
set_option linter.unusedSimpArgs false

set_option maxRecDepth 100000 in
set_option maxHeartbeats 1600000 in
theorem addC (b o : Nat) (x : Int) (w : World) (hc : w.cell? ⟨b, o, none⟩ = some (.int .u64 x)) (hz : w.frozen? ⟨b, o, none⟩ = false) (h0 : 0 ≤ x) (h1 : x < 18446744073709551615) :
    Calls Tryd.prog 17 #[.pointer (some ⟨b, o, none⟩), .int .u64 1] w fun e w' => e = .returned (.int .u64 (x + 1)) ∧ w' = w.setCell ⟨b, o, none⟩ (.int .u64 (x + 1)) := by
  have hw : IntKind.u64.wrap (x + 1) = x + 1 := by
    simp only [IntKind.wrap, IntKind.signed, IntKind.bits, Bool.false_and]
    rw [if_neg (by simp)]
    omega
  have hadd := run_call_add (P := Tryd.prog) Tryd.func31 (by kernel_rfl) (by kernel_rfl) (by kernel_rfl) .u64 (by kernel_rfl) (y := 1) (s := x + 1) hc hz (by simp [go_sem, hw])
  go_enter Tryd.func17, Tryd.ntmps17
  go_wp2
  refine bodyPost_ret (results_tmp rfl _ _ _) rfl ?_
  exact ⟨rfl, rfl⟩
set_option maxRecDepth 100000 in
set_option maxHeartbeats 1600000 in
theorem ldC (b o : Nat) (x : Int) (w : World) (hc : w.cell? ⟨b, o, none⟩ = some (.int .u64 x)) :
    Calls Tryd.prog 22 #[.pointer (some ⟨b, o, none⟩)] w fun e w' => e = .returned (.int .u64 x) ∧ w' = w := by
  have hl := run_call_load (P := Tryd.prog) Tryd.func36 (by kernel_rfl) (by kernel_rfl) (by kernel_rfl) .u64 (by kernel_rfl) hc
  go_enter Tryd.func22, Tryd.ntmps22
  go_wp2
  refine bodyPost_ret (results_tmp rfl _ _ _) rfl ?_
  exact ⟨rfl, rfl⟩
noncomputable section
theorem primsOk : PrimOk E0 Tryd.prog := by
  refine primsT_ok (N := pT) rfl ?_ ?_ ?_ ?_ ?_
  · exact add1_ok ⟨Tryd.f17, Tryd.func17, by kernel_rfl, by kernel_rfl⟩ addC
  · exact ld_ok ⟨Tryd.f22, Tryd.func22, by kernel_rfl, by kernel_rfl⟩ ldC
  · exact fmt_ok ⟨Tryd.f49, Tryd.func49, by kernel_rfl, by kernel_rfl⟩ (fun blk off cap u d w h1 h2 h3 h4 => Tryd.internal_strconv_formatBase10 blk off cap u d w h1 h2 h3 h4)
  · exact small_ok ⟨Tryd.f47, Tryd.func47, by kernel_rfl, by kernel_rfl⟩ (fun i w h => Tryd.internal_strconv_small i h w)
  · exact len_ok ⟨Tryd.f57, Tryd.func57, by kernel_rfl, by kernel_rfl⟩ (fun x w h1 h2 => Tryd.bits_Len64 x w h1 h2)
theorem primsLw : PrimLw E0 := primsT_lw (N := pT) rfl
end
end Go.Proofs.YtgdijpcopdgapaaDoor

/- Tally: the arguments; what the row lists. -/
namespace Go.Proofs.YtgdijpcopdgapaaDoor
open Go Go.ChangeShapes Go.WideShapes Go.ChangeAt Go.RowKit Go.Proofs.YtgdijpcopdgapaaDoor.D
set_option linter.unusedVariables false
set_option linter.unusedSimpArgs false
noncomputable section

section
variable {H : Type} {enc : TypeId × Value → H} {P : Program} {W : World} {base : Nat} {spare : Nat → Bool} {held : Bool}
/-- An array that was read. -/
theorem trod_arr {t e : TypeId} {n : Nat} (ht : P.underlying t = some (.array n e)) {fuel : Nat} {cs : List Value} {d : DataW H} {p : List MemPlace} (h : DataW.trod enc P W base spare held fuel t cs = some (d, p)) :
    cs.length = P.cellsOf t ∧ ∃ (fuel' : Nat) (xs : List (DataW H × List MemPlace)), xs.length = n ∧ (∀ i (h : i < xs.length), DataW.trod enc P W base spare held fuel' e ((cs.drop (i * P.cellsOf e)).take (P.cellsOf e)) = some xs[i]) ∧ d = .agg (xs.map (·.1)) := by
  cases fuel with
  | zero => simp [DataW.trod] at h
  | succ fuel =>
    simp only [DataW.trod, ht] at h
    split at h
    · rename_i hl
      obtain ⟨xs, hm, hx⟩ := Option.map_eq_some_iff.1 h
      obtain ⟨hxl, hxi⟩ := mapM_range hm
      exact ⟨hl, fuel, xs, hxl, hxi, (congrArg Prod.fst hx).symm⟩
    · cases h
/-- A struct of two fields that was read. -/
theorem trod_two {t : TypeId} {fs : Array Field} (hu : P.underlying t = some (.struct fs)) {t1 o1 t2 o2 : Nat} (hf : fs.toList.map (fun f => (f.type, f.offset)) = [(t1, o1), (t2, o2)]) {fuel : Nat} {cs : List Value} {d : DataW H} {p : List MemPlace} (h : DataW.trod enc P W base spare held fuel t cs = some (d, p)) :
    cs.length = P.cellsOf t ∧ ∃ fuel' x y, DataW.trod enc P W base spare held fuel' t1 ((cs.drop o1).take (P.cellsOf t1)) = some x ∧ DataW.trod enc P W base spare held fuel' t2 ((cs.drop o2).take (P.cellsOf t2)) = some y ∧ d = .agg [x.1, y.1] := by
  cases fuel with
  | zero => simp [DataW.trod] at h
  | succ fuel =>
    simp only [DataW.trod, hu] at h
    split at h
    · rename_i hl
      obtain ⟨xs, hm, hx⟩ := Option.map_eq_some_iff.1 h
      refine ⟨hl, fuel, ?_⟩
      generalize fs.toList = l at hf hm
      match l, hf with
      | [f, g], hf =>
        simp only [List.map_cons, List.map_nil, List.cons.injEq, Prod.mk.injEq, and_true] at hf
        obtain ⟨⟨rfl, rfl⟩, rfl, rfl⟩ := hf
        rw [List.mapM_cons, List.mapM_cons, List.mapM_nil] at hm
        cases h1 : DataW.trod enc P W base spare held fuel f.type ((cs.drop f.offset).take (P.cellsOf f.type)) with
        | none => rw [h1] at hm; cases hm
        | some x =>
          cases h2 : DataW.trod enc P W base spare held fuel g.type ((cs.drop g.offset).take (P.cellsOf g.type)) with
          | none => rw [h1, h2] at hm; cases hm
          | some y =>
            rw [h1, h2] at hm
            cases hm
            exact ⟨x, y, rfl, rfl, (congrArg Prod.fst hx).symm⟩
    · cases h
end
theorem own : ownKnob Tryd.prog.godebug = none := by kernel_rfl
theorem laidOut : laidOutB Tryd.prog = true := by kernel_rfl
noncomputable def fsOf (t : Nat) : Array Field := match Tryd.prog.underlying t with | some (.struct fs) => fs | _ => #[]
theorem und110p : Tryd.prog.underlying 110 = some (.struct (fsOf 110)) := by kernel_rfl
theorem fl110 : (fsOf 110).toList.map (fun f => (f.type, f.offset)) = [(9, 0), (108, 1)] := by kernel_rfl
theorem und66p : Tryd.prog.underlying 66 = some (.struct (fsOf 66)) := by kernel_rfl
theorem fl66 : (fsOf 66).toList.map (fun f => (f.type, f.offset)) = [(3, 0), (3, 1), (3, 2)] := by kernel_rfl
theorem field_of {fs : Array Field} {l : List (Nat × Nat)} (h : fs.toList.map (fun f => (f.type, f.offset)) = l) {t o : Nat} (hm : (t, o) ∈ l) : ∃ f ∈ fs.toList, f.type = t ∧ f.offset = o := by
  rw [← h] at hm
  obtain ⟨f, h1, h2⟩ := List.mem_map.1 hm
  cases h2
  exact ⟨f, h1, rfl, rfl⟩
theorem len1 {l : List Value} (h : l.length = 1) : ∃ a, l = [a] := by
  match l, h with
  | [a], _ => exact ⟨a, rfl⟩
theorem len3 {l : List Value} (h : l.length = 3) : ∃ a b c, l = [a, b, c] := by
  match l, h with
  | [a, b, c], _ => exact ⟨a, b, c, rfl⟩
theorem wf_u8 {x : Int} (h : (Lit.int .u8 x).wf = true) : 0 ≤ x ∧ x < 256 := by
  simp [Lit.wf] at h
  have h1 : IntKind.u8.min = 0 := by decide
  have h2 : IntKind.u8.max = 255 := by decide
  omega
section
variable {H : Type} {enc : TypeId × Value → H} {W : World} {base b0 : Nat} {spare : Nat → Bool} {held : Bool} {r : Reach}
theorem cut {t o : Nat} {fs : Array Field} {l : List (Nat × Nat)} {fuel : Nat} {cs : List Value} (hl : fs.toList.map (fun f => (f.type, f.offset)) = l) (hm : (t, o) ∈ l)
    (h : ∀ f ∈ fs.toList, ∃ r', DataW.trod enc Tryd.prog W base spare held fuel f.type ((cs.drop f.offset).take (Tryd.prog.cellsOf f.type)) = some r') :
    ∃ r', DataW.trod enc Tryd.prog W base spare held fuel t ((cs.drop o).take (Tryd.prog.cellsOf t)) = some r' := by
  obtain ⟨f, hf, rfl, rfl⟩ := field_of hl hm
  exact h f hf
theorem read_stp {fuel : Nat} {cs : List Value} {r : DataW H × List MemPlace} (h : DataW.trod enc Tryd.prog W base spare held fuel 66 cs = some r) : ∃ y : Int × Int × Int, cs = stC y := by
  obtain ⟨hlen, fuel', hf⟩ := trod_struct und66p h
  have hl := fl66
  rw [show Tryd.prog.cellsOf 66 = 3 by kernel_rfl] at hlen
  obtain ⟨a, b, c, rfl⟩ := len3 hlen
  obtain ⟨_, h0⟩ := cut hl (t := 3) (o := 0) (by simp) hf
  obtain ⟨_, h1⟩ := cut hl (t := 3) (o := 1) (by simp) hf
  obtain ⟨_, h2⟩ := cut hl (t := 3) (o := 2) (by simp) hf
  rw [show Tryd.prog.cellsOf 3 = 1 by kernel_rfl] at h0 h1 h2
  obtain ⟨x0, e0, _⟩ := trod_int Tryd.underlying3 h0
  obtain ⟨x1, e1, _⟩ := trod_int Tryd.underlying3 h1
  obtain ⟨x2, e2, _⟩ := trod_int Tryd.underlying3 h2
  simp at e0 e1 e2
  subst e0 e1 e2
  exact ⟨(x0, x1, x2), rfl⟩
theorem read_bytes {fuel : Nat} {v : Value} {d : DataW H} {ps : List MemPlace} (hsp : ∀ b, spare b = true) (h : DataW.trod enc Tryd.prog W base spare held fuel 36 [v] = some (d, ps)) :
    ∃ (s : Sl) (l : List UInt8), nv (argN E0 W) v = .slice s.a s.len s.cap ∧ Bs (argS E0 W) s l ∧ s.len ≤ s.cap ∧ s.cap < inex := by
  obtain ⟨s, l, h1, h2, _, h3, h4, _⟩ := trod_slX (E := E0) (f := byC) (sz := 1) (Wf := fun _ => True) (fun _ => rfl) (by omega) Tryd.underlying36 (by kernel_rfl) (fun fuel cs r h _ => by
    obtain ⟨z, rfl, hw⟩ := trod_int Tryd.underlying5 h
    have := wf_u8 hw
    refine ⟨UInt8.ofNat z.toNat, trivial, ?_⟩
    rw [List.map_cons, List.map_nil, nv_int]
    show [Value.int .u8 z] = [Value.int .u8 ((UInt8.ofNat z.toNat).toNat : Int)]
    rw [ofNat_toNat (by omega), show ((z.toNat : Nat) : Int) = z from by omega]) hsp h
  exact ⟨s, l, h1, h2, h3, h4⟩
set_option maxRecDepth 100000 in
theorem arg_rows {v : Value} {d : DataW H} {ps : List MemPlace} (hsp : ∀ b, spare b = true) (hok : Value.okWide Tryd.prog W r b0 22 v) (h : DataW.Trod enc Tryd.prog W base spare held 22 v d ps) :
    ∃ (s : Sl) (l : List Row), nv (argN E0 W) v = .slice s.a s.len s.cap ∧ SlOf slC 1 (argS E0 W) s l ∧ ∀ x ∈ l, Bs (argS E0 W) x.1 x.2 ∧ x.1.len ≤ x.1.cap ∧ x.1.cap < inex := by
  obtain ⟨s, l, h1, h2, h3, _⟩ := arg_slX (E := E0) (f := slC) (sz := 1) (Wf := fun x : Row => Bs (argS E0 W) x.1 x.2 ∧ x.1.len ≤ x.1.cap ∧ x.1.cap < inex) (fun _ => rfl) (by omega) Tryd.underlying22 (by kernel_rfl) (fun fuel cs r h hl => by
    obtain ⟨v, rfl⟩ := len1 hl
    obtain ⟨d, ps⟩ := r
    obtain ⟨s, l, h1, h2, h3, h4⟩ := read_bytes hsp h
    exact ⟨(s, l), ⟨h2, h3, h4⟩, by simp [h1]⟩) hsp hok h
  exact ⟨s, l, h1, h2, h3⟩
set_option maxRecDepth 100000 in
theorem arg_stps {v : Value} {d : DataW H} {ps : List MemPlace} (hsp : ∀ b, spare b = true) (hok : Value.okWide Tryd.prog W r b0 23 v) (h : DataW.Trod enc Tryd.prog W base spare held 23 v d ps) :
    ∃ (s : Sl) (l : List (Int × Int × Int)), nv (argN E0 W) v = .slice s.a s.len s.cap ∧ SlOf stC 3 (argS E0 W) s l := by
  obtain ⟨s, l, h1, h2, _⟩ := arg_slX (E := E0) (f := stC) (sz := 3) (Wf := fun _ => True) (fun _ => rfl) (by omega) Tryd.underlying23 (by kernel_rfl) (fun fuel cs r h hl => by
    obtain ⟨y, rfl⟩ := read_stp h
    exact ⟨y, trivial, by simp [nv_int]⟩) hsp hok h
  exact ⟨s, l, h1, h2⟩
set_option maxRecDepth 100000 in
theorem arg_str {v : Value} {d : DataW H} {ps : List MemPlace} (hok : Value.okWide Tryd.prog W r b0 9 v) (h : DataW.Trod enc Tryd.prog W base spare held 9 v d ps) : ∃ l : List UInt8, nv (argN E0 W) v = strV l := by
  obtain ⟨fuel, h⟩ := h
  rw [okWide_cell Tryd.underlying9 rfl hok] at h
  obtain ⟨s, hs, _⟩ := trod_str Tryd.underlying9 h
  cases hs
  exact ⟨s.data.toList, by rw [nv_string]⟩
/-- The kinds of messages, as their data say. -/
def kindD (x : List UInt8 × (Int × Int × Int × Int × Int)) : DataW Unit := .agg [.lit (.string x.1), .agg [.lit (.int .i64 x.2.1), .lit (.int .i64 x.2.2.1), .lit (.int .i64 x.2.2.2.1), .lit (.int .i64 x.2.2.2.2.1), .lit (.int .i64 x.2.2.2.2.2)]]
theorem read_kind {fuel : Nat} {cs : List Value} {x : List UInt8 × (Int × Int × Int × Int × Int)} {p : List MemPlace} (h : DataW.trod (fun _ => ()) Tryd.prog W 0 (fun _ => true) false fuel 110 cs = some (kindD x, p)) : cs = kindV x := by
  obtain ⟨hl, fuel', y, z, h1, h2, hd⟩ := trod_two und110p fl110 h
  rw [show Tryd.prog.cellsOf 110 = 6 by kernel_rfl] at hl
  rw [show Tryd.prog.cellsOf 9 = 1 by kernel_rfl] at h1
  rw [show Tryd.prog.cellsOf 108 = 5 by kernel_rfl] at h2
  unfold kindD at hd
  simp only [DataW.agg.injEq, List.cons.injEq, and_true] at hd
  obtain ⟨hd1, hd2⟩ := hd
  obtain ⟨s, hs, hr⟩ := trod_str' Tryd.underlying9 h1
  rw [hr] at hd1
  simp only [DataW.lit.injEq, Lit.string.injEq] at hd1
  obtain ⟨z1, z2⟩ := z
  have hz : z1 = Lib.tabData .i64 [x.2.1, x.2.2.1, x.2.2.2.1, x.2.2.2.2.1, x.2.2.2.2.2] := hd2.symm
  subst hz
  have h3 := Lib.cells_of_tab (n := 5) Tryd.underlying108 Tryd.underlying3 (by kernel_rfl) (by kernel_rfl) h2
  have e : cs = (cs.drop 0).take 1 ++ (cs.drop 1).take 5 := by
    rw [List.drop_zero, List.take_of_length_le (l := cs.drop 1) (by rw [List.length_drop]; omega), List.take_append_drop]
  rw [e, hs, h3]
  unfold kindV
  rw [hd1]
  rfl
end
abbrev laidT : List (String × DataW Unit) := Rows.tallyCountsRow.laid
theorem nv_kind (n : Nat) (x : List UInt8 × (Int × Int × Int × Int × Int)) : (kindV x).map (nv n) = kindV x := by
  unfold kindV
  simp only [List.map_cons, List.map_nil, nv_string, nv_int]
theorem gl_laidT {W : World} (h : laidMetH Tryd.prog laidT W) : Gl (argS E0 W) where
  kinds := by
    obtain ⟨g, t, cs, fuel, p, e1, e2, e3, e4⟩ := laid_mem h (n := "wagonway/wire.kinds") (d := Rows.laid_wagonway_wire_kinds) (List.mem_of_getElem? (i := 4) rfl) rfl
    obtain rfl : g = 0 := Option.some.inj (e1.symm.trans (by kernel_rfl : Tryd.prog.globalNamed "wagonway/wire.kinds" = some 0))
    obtain rfl : t = 111 := Option.some.inj (e2.symm.trans (by kernel_rfl : (Tryd.prog.globals[0]?).map (·.type) = some 111))
    have hat := var_at (E := E0) e1 e3
    have hd : (Rows.laid_wagonway_wire_kinds : DataW Unit) = .agg (kindW.map kindD) := by kernel_rfl
    rw [hd] at e4
    obtain ⟨hl, fuel', xs, hxl, hxi, hxd⟩ := trod_arr Tryd.underlying111 e4
    rw [show Tryd.prog.cellsOf 111 = 66 by kernel_rfl] at hl
    rw [show Tryd.prog.cellsOf 110 = 6 by kernel_rfl] at hxi
    simp only [DataW.agg.injEq] at hxd
    have hkl : kindW.length = 11 := rfl
    have hcells : cs.toList = kindW.flatMap kindV := by
      have := take_flat (f := kindV) (sz := 6) (cs := cs.toList) (l := kindW) (o := 0) (fun i hi => by
        have h1 := hxi i (by omega)
        have h2 : xs[i].1 = kindD kindW[i] := by
          have h3 : (xs.map (·.1))[i]? = (kindW.map kindD)[i]? := by rw [← hxd]
          rw [List.getElem?_map, List.getElem?_map, List.getElem?_eq_getElem (by omega), List.getElem?_eq_getElem hi] at h3
          exact Option.some.inj h3
        rw [Nat.zero_add]
        generalize xs[i] = y at h1 h2
        obtain ⟨y1, y2⟩ := y
        have h2 : y1 = kindD kindW[i] := h2
        subst h2
        exact read_kind h1) (fun _ => rfl)
      rw [List.drop_zero, List.take_of_length_le (by rw [hkl]; omega)] at this
      exact this
    refine ⟨none, true, some (0, cs.size), ?_⟩
    rw [hcells, List.map_flatMap] at hat
    rw [show (kindW.flatMap fun x => (kindV x).map (nv (argN E0 W))) = kindW.flatMap kindV from by simp only [nv_kind]] at hat
    exact hat
  words := by
    obtain ⟨g, t, cs, fuel, p, e1, e2, e3, e4⟩ := laid_mem h (n := "wagonway/order.words") (d := Rows.laid_wagonway_order_words) (List.mem_of_getElem? (i := 3) rfl) rfl
    obtain rfl : g = 1 := Option.some.inj (e1.symm.trans (by kernel_rfl : Tryd.prog.globalNamed "wagonway/order.words" = some 1))
    obtain rfl : t = 115 := Option.some.inj (e2.symm.trans (by kernel_rfl : (Tryd.prog.globals[1]?).map (·.type) = some 115))
    have hat := var_at (E := E0) e1 e3
    have hd : (Rows.laid_wagonway_order_words : DataW Unit) = .agg (tabW.map fun l => .lit (.string l)) := by kernel_rfl
    rw [hd] at e4
    rw [trod_strs (n := 10) Tryd.underlying115 Tryd.underlying9 (by kernel_rfl) (by kernel_rfl) e4, List.map_map] at hat
    refine ⟨none, true, some (0, cs.size), ?_⟩
    rw [show tabW.map strV = tabW.map (nv (argN E0 W) ∘ fun l => Value.string ⟨l.toArray⟩) from List.map_congr_left fun l _ => (nv_string _ _).symm]
    exact hat
  pow := by
    obtain ⟨g, t, cs, fuel, p, e1, e2, e3, e4⟩ := laid_mem h (n := "internal/strconv.uint64pow10") (d := Rows.laid_internal_strconv_uint64pow10) (List.mem_of_getElem? (i := 2) rfl) rfl
    obtain rfl : g = 2 := Option.some.inj (e1.symm.trans (by kernel_rfl : Tryd.prog.globalNamed "internal/strconv.uint64pow10" = some 2))
    obtain rfl : t = 118 := Option.some.inj (e2.symm.trans (by kernel_rfl : (Tryd.prog.globals[2]?).map (·.type) = some 118))
    have hat := var_at (E := E0) e1 e3
    have hd : (Rows.laid_internal_strconv_uint64pow10 : DataW Unit) = Lib.tabData .u64 powT := by kernel_rfl
    rw [hd] at e4
    rw [Lib.cells_of_tab (n := 20) Tryd.underlying118 Tryd.underlying28 (by kernel_rfl) (by kernel_rfl) e4, List.map_map] at hat
    refine ⟨none, true, some (0, cs.size), ?_⟩
    rw [show powT.map (Value.int .u64) = powT.map (nv (argN E0 W) ∘ fun z => Value.int .u64 z) from List.map_congr_left fun l _ => (nv_int _ _ _).symm]
    exact hat
theorem lay_metT (os : Os) (args : Array Value) : laidMetH Tryd.prog laidT ((World.laidAll Tryd.prog os laidT).forCall (fun _ _ => 0) ⟨#[], args, []⟩).memory := by
  rw [MakeChecks.laidMetH_plain _ _ _ (by kernel_rfl)]
  exact laidMet_laidAll _ (by kernel_rfl) (by kernel_rfl)
end
end Go.Proofs.YtgdijpcopdgapaaDoor
