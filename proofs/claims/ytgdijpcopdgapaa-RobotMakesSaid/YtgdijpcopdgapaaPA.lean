/- Parts of the proof, put together. -/
import Derived.Test.YtgdijpcopdgapaaRC
import Derived.Test.YtgdijpcopdgapaaSA
import Derived.Test.YtgdijpcopdgapaaRows
import Derived.Laws.Externs
import Derived.Lib.Bytealg
import Derived.WalkKit
import Derived.ProofKit
/- Robots: the library's functions by their contracts. -/
namespace Go.Proofs.Ytgdijpcopdgapaa
open Go Go.RowKit Go.Proofs.Ytgdijpcopdgapaa.D
set_option linter.unusedVariables false
set_option linter.unusedSimpArgs false

set_option maxRecDepth 100000 in
set_option maxHeartbeats 1600000 in
theorem ixC (s : ByteArray) (c : Int) (w : World) : Calls Try.prog 56 #[.string s, .int .u8 c] w fun e w' => e = .returned (.int .i64 (Lib.indexByte s.data.toList c.toNat.toUInt8)) ∧ w' = w := by
  go_enter Try.func56, Try.ntmps56
  go_wp2
  rw [run_callFunc_extern Try.func68 (by kernel_rfl) (by kernel_rfl) (by kernel_rfl) (e := Extern.BytealgIndexByte.indexByte) (by kernel_rfl), Lib.run_indexByteString]
  simp only [Result.andThen]
  rw [Oper.upon_value]
  go_wp2
  refine bodyPost_ret (results_tmp rfl _ _ _) rfl ?_
  exact ⟨rfl, rfl⟩
noncomputable section
theorem size132p (w : World) : (Go.sizeOf 132).run Try.prog w = .ok 2 w := by kernel_rfl
set_option maxRecDepth 100000 in
theorem ovR (args : Array Value) (w : World) (v : Value) (h : (Extern.SlicesOverlaps.overlaps #[47, 47] #[4] args).run Try.prog w = .ok v w) : (callFunc 63 args).run Try.prog w = .ok (.value v) w := by
  rw [run_callFunc_extern Try.func63 (by kernel_rfl) (by kernel_rfl) (by kernel_rfl) (e := Extern.SlicesOverlaps.overlaps #[47, 47] #[4]) (by kernel_rfl), h]
  rfl
theorem primsI1 : PrimOk E1 Try.prog := primsI_ok (fO := 63) rfl Try.underlying47 size132p ovR
theorem primsOk : PrimOk E0 Try.prog := by
  refine primsM_ok (N := pM) rfl ?_ ?_
  · exact idx_ok ⟨Try.f56, Try.func56, by kernel_rfl, by kernel_rfl⟩ ixC
  · exact ins_ok (E := E0) (E1 := E1) (DEnv.env_ok _) DEnv.mixed primsI1 (primsI_lw rfl) rfl (by decide) (by decide) ⟨Try.f42, Try.func42, by kernel_rfl, by kernel_rfl⟩ rfl insWC
theorem primsLw : PrimLw E0 := primsM_lw (N := pM) rfl
end
end Go.Proofs.Ytgdijpcopdgapaa

/- Robots: the arguments. -/
namespace Go.Proofs.Ytgdijpcopdgapaa
open Go Go.ChangeShapes Go.WideShapes Go.ChangeAt Go.RowKit Go.Proofs.Ytgdijpcopdgapaa.D
set_option linter.unusedVariables false
set_option linter.unusedSimpArgs false
noncomputable section

theorem own : ownKnob Try.prog.godebug = none := by kernel_rfl
theorem laidOut : laidOutB Try.prog = true := by kernel_rfl
noncomputable def fsOf (t : Nat) : Array Field := match Try.prog.underlying t with | some (.struct fs) => fs | _ => #[]
theorem und26p : Try.prog.underlying 26 = some (.struct (fsOf 26)) := by kernel_rfl
theorem fl26 : (fsOf 26).toList.map (fun f => (f.type, f.offset)) = [(3, 0), (3, 1), (3, 2), (24, 3), (22, 5)] := by kernel_rfl
theorem und24p : Try.prog.underlying 24 = some (.struct (fsOf 24)) := by kernel_rfl
theorem fl24 : (fsOf 24).toList.map (fun f => (f.type, f.offset)) = [(22, 0), (22, 1)] := by kernel_rfl
theorem und146p : Try.prog.underlying 146 = some (.struct (fsOf 146)) := by kernel_rfl
theorem fl146 : (fsOf 146).toList.map (fun f => (f.type, f.offset)) = [(3, 0), (3, 1), (64, 2)] := by kernel_rfl
theorem und3p : Try.prog.underlying 3 = some (.int .i64) := by kernel_rfl
theorem und22p : Try.prog.underlying 22 = some (.int .u64) := by kernel_rfl
theorem und27p : Try.prog.underlying 27 = some (.int .u32) := by kernel_rfl
theorem und5p : Try.prog.underlying 5 = some (.int .u8) := by kernel_rfl
theorem und9p : Try.prog.underlying 9 = some .string := by kernel_rfl
theorem und64p : Try.prog.underlying 64 = some (.slice 5) := by kernel_rfl
theorem und28p : Try.prog.underlying 28 = some (.slice 146) := by kernel_rfl
theorem field_of {fs : Array Field} {l : List (Nat × Nat)} (h : fs.toList.map (fun f => (f.type, f.offset)) = l) {t o : Nat} (hm : (t, o) ∈ l) : ∃ f ∈ fs.toList, f.type = t ∧ f.offset = o := by
  rw [← h] at hm
  obtain ⟨f, h1, h2⟩ := List.mem_map.1 hm
  cases h2
  exact ⟨f, h1, rfl, rfl⟩
theorem len2 {l : List Value} (h : l.length = 2) : ∃ a b, l = [a, b] := by
  match l, h with
  | [a, b], _ => exact ⟨a, b, rfl⟩
theorem len3 {l : List Value} (h : l.length = 3) : ∃ a b c, l = [a, b, c] := by
  match l, h with
  | [a, b, c], _ => exact ⟨a, b, c, rfl⟩
theorem len6 {l : List Value} (h : l.length = 6) : ∃ a b c d e f, l = [a, b, c, d, e, f] := by
  match l, h with
  | [a, b, c, d, e, f], _ => exact ⟨a, b, c, d, e, f, rfl⟩
theorem wf_u8 {x : Int} (h : (Lit.int .u8 x).wf = true) : 0 ≤ x ∧ x < 256 := by
  simp [Lit.wf] at h
  have h1 : IntKind.u8.min = 0 := by decide
  have h2 : IntKind.u8.max = 255 := by decide
  omega
theorem wf_u64 {x : Int} (h : (Lit.int .u64 x).wf = true) : 0 ≤ x ∧ x < 18446744073709551616 := by
  simp [Lit.wf] at h
  have h1 : IntKind.u64.min = 0 := by decide
  have h2 : IntKind.u64.max = 18446744073709551615 := by decide
  omega
section
variable {H : Type} {enc : TypeId × Value → H} {W : World} {base b0 : Nat} {spare : Nat → Bool} {held : Bool} {r : Reach}
theorem cut {t o : Nat} {fs : Array Field} {l : List (Nat × Nat)} {fuel : Nat} {cs : List Value} (hl : fs.toList.map (fun f => (f.type, f.offset)) = l) (hm : (t, o) ∈ l)
    (h : ∀ f ∈ fs.toList, ∃ r', DataW.trod enc Try.prog W base spare held fuel f.type ((cs.drop f.offset).take (Try.prog.cellsOf f.type)) = some r') :
    ∃ r', DataW.trod enc Try.prog W base spare held fuel t ((cs.drop o).take (Try.prog.cellsOf t)) = some r' := by
  obtain ⟨f, hf, rfl, rfl⟩ := field_of hl hm
  exact h f hf
theorem read_rule {fuel : Nat} {cs : List Value} {r : DataW H × List MemPlace} (h : DataW.trod enc Try.prog W base spare held fuel 24 cs = some r) : ∃ x y : Int, 0 ≤ x ∧ cs = [.int .u64 x, .int .u64 y] := by
  obtain ⟨hlen, fuel', hf⟩ := trod_struct und24p h
  have hl := fl24
  rw [show Try.prog.cellsOf 24 = 2 by kernel_rfl] at hlen
  obtain ⟨a, b, rfl⟩ := len2 hlen
  obtain ⟨_, h0⟩ := cut hl (t := 22) (o := 0) (by simp) hf
  obtain ⟨_, h1⟩ := cut hl (t := 22) (o := 1) (by simp) hf
  rw [show Try.prog.cellsOf 22 = 1 by kernel_rfl] at h0 h1
  obtain ⟨x0, e0, w0⟩ := trod_int und22p h0
  obtain ⟨x1, e1, _⟩ := trod_int und22p h1
  simp at e0 e1
  subst e0 e1
  exact ⟨x0, x1, (wf_u64 w0).1, rfl⟩
theorem read_cfg {fuel : Nat} {cs : List Value} {r : DataW H × List MemPlace} (h : DataW.trod enc Try.prog W base spare held fuel 26 cs = some r) : ∃ c : Cfg, 0 ≤ c.2.2.2.1 ∧ cs = cfgC c := by
  obtain ⟨hlen, fuel', hf⟩ := trod_struct und26p h
  have hl := fl26
  rw [show Try.prog.cellsOf 26 = 6 by kernel_rfl] at hlen
  obtain ⟨a, b, c, d, e, f, rfl⟩ := len6 hlen
  obtain ⟨_, h0⟩ := cut hl (t := 3) (o := 0) (by simp) hf
  obtain ⟨_, h1⟩ := cut hl (t := 3) (o := 1) (by simp) hf
  obtain ⟨_, h2⟩ := cut hl (t := 3) (o := 2) (by simp) hf
  obtain ⟨_, h3⟩ := cut hl (t := 24) (o := 3) (by simp) hf
  obtain ⟨_, h4⟩ := cut hl (t := 22) (o := 5) (by simp) hf
  rw [show Try.prog.cellsOf 3 = 1 by kernel_rfl] at h0 h1 h2
  rw [show Try.prog.cellsOf 24 = 2 by kernel_rfl] at h3
  rw [show Try.prog.cellsOf 22 = 1 by kernel_rfl] at h4
  obtain ⟨x0, e0, _⟩ := trod_int und3p h0
  obtain ⟨x1, e1, _⟩ := trod_int und3p h1
  obtain ⟨x2, e2, _⟩ := trod_int und3p h2
  obtain ⟨x3, x4, w3, e3⟩ := read_rule h3
  obtain ⟨x5, e5, _⟩ := trod_int und22p h4
  simp at e0 e1 e2 e3 e5
  obtain ⟨e3, e4⟩ := e3
  subst e0 e1 e2 e3 e4 e5
  exact ⟨(x0, x1, x2, x3, x4, x5), w3, rfl⟩
set_option maxRecDepth 100000 in
theorem arg_cfg {v : Value} {d : DataW H} {ps : List MemPlace} (hok : Value.okWide Try.prog W r b0 26 v) (h : DataW.Trod enc Try.prog W base spare held 26 v d ps) : ∃ c : Cfg, 0 ≤ c.2.2.2.1 ∧ nv (argN E0 W) v = sv G25 c := by
  obtain ⟨c, rfl⟩ := okWide_agg und26p hok
  obtain ⟨fuel, h⟩ := h
  obtain ⟨x, hw, hx⟩ := read_cfg h
  refine ⟨x, hw, ?_⟩
  rw [nv_agg]
  have hx : c.toList = cfgC x := hx
  show Value.agg _ = Value.agg _
  congr 1
  apply Array.ext'
  rw [Array.toList_map, hx]
  simp [encs, Sc.enc]
  rfl
theorem read_bytes {fuel : Nat} {v : Value} {d : DataW H} {ps : List MemPlace} (hsp : ∀ b, spare b = true) (h : DataW.trod enc Try.prog W base spare held fuel 64 [v] = some (d, ps)) :
    ∃ (s : Sl) (l : List UInt8), nv (argN E0 W) v = .slice s.a s.len s.cap ∧ Bs (argS E0 W) s l ∧ s.len ≤ s.cap ∧ s.cap < inex := by
  obtain ⟨s, l, h1, h2, _, h3, h4, _⟩ := trod_slX (E := E0) (f := byC) (sz := 1) (Wf := fun _ => True) (fun _ => rfl) (by omega) und64p (by kernel_rfl) (fun fuel cs r h _ => by
    obtain ⟨z, rfl, hw⟩ := trod_int und5p h
    have := wf_u8 hw
    refine ⟨UInt8.ofNat z.toNat, trivial, ?_⟩
    rw [List.map_cons, List.map_nil, nv_int]
    show [Value.int .u8 z] = [Value.int .u8 ((UInt8.ofNat z.toNat).toNat : Int)]
    rw [ofNat_toNat (by omega), show ((z.toNat : Nat) : Int) = z from by omega]) hsp h
  exact ⟨s, l, h1, h2, h3, h4⟩
theorem read_rec {fuel : Nat} {cs : List Value} {r : DataW H × List MemPlace} (hsp : ∀ b, spare b = true) (h : DataW.trod enc Try.prog W base spare held fuel 146 cs = some r) :
    ∃ x : Rc, (Bs (argS E0 W) x.2.2.1 x.2.2.2 ∧ x.2.2.1.len ≤ x.2.2.1.cap ∧ x.2.2.1.cap < inex) ∧ cs.map (nv (argN E0 W)) = recC x := by
  obtain ⟨hlen, fuel', hf⟩ := trod_struct und146p h
  have hl := fl146
  rw [show Try.prog.cellsOf 146 = 3 by kernel_rfl] at hlen
  obtain ⟨a, b, c, rfl⟩ := len3 hlen
  obtain ⟨_, h0⟩ := cut hl (t := 3) (o := 0) (by simp) hf
  obtain ⟨_, h1⟩ := cut hl (t := 3) (o := 1) (by simp) hf
  obtain ⟨⟨d, ps⟩, h2⟩ := cut hl (t := 64) (o := 2) (by simp) hf
  rw [show Try.prog.cellsOf 3 = 1 by kernel_rfl] at h0 h1
  rw [show Try.prog.cellsOf 64 = 1 by kernel_rfl] at h2
  obtain ⟨x0, e0, _⟩ := trod_int und3p h0
  obtain ⟨x1, e1, _⟩ := trod_int und3p h1
  obtain ⟨s, l, g1, g2, g3, g4⟩ := read_bytes hsp (v := c) (by simpa using h2)
  simp at e0 e1
  subst e0 e1
  exact ⟨(x0, x1, s, l), ⟨g2, g3, g4⟩, by simp [nv_int, g1]⟩
set_option maxRecDepth 100000 in
theorem arg_recs {v : Value} {d : DataW H} {ps : List MemPlace} (hsp : ∀ b, spare b = true) (hok : Value.okWide Try.prog W r b0 28 v) (h : DataW.Trod enc Try.prog W base spare held 28 v d ps) :
    ∃ (s : Sl) (l : List Rc), nv (argN E0 W) v = .slice s.a s.len s.cap ∧ RecsAt (argS E0 W) s l := by
  obtain ⟨s, l, h1, h2, h3, _⟩ := arg_slX (E := E0) (f := recC) (sz := 3) (Wf := fun x : Rc => Bs (argS E0 W) x.2.2.1 x.2.2.2 ∧ x.2.2.1.len ≤ x.2.2.1.cap ∧ x.2.2.1.cap < inex) (fun _ => rfl) (by omega) und28p (by kernel_rfl) (fun fuel cs r h hl => read_rec hsp h) hsp hok h
  exact ⟨s, l, h1, h2, fun x hx => (h3 x hx).1, fun x hx => (h3 x hx).2⟩
set_option maxRecDepth 100000 in
theorem arg_str {v : Value} {d : DataW H} {ps : List MemPlace} (hok : Value.okWide Try.prog W r b0 9 v) (h : DataW.Trod enc Try.prog W base spare held 9 v d ps) : ∃ l : List UInt8, nv (argN E0 W) v = strV l := by
  obtain ⟨fuel, h⟩ := h
  rw [okWide_cell und9p rfl hok] at h
  obtain ⟨s, hs, _⟩ := trod_str und9p h
  cases hs
  exact ⟨s.data.toList, by rw [nv_string]⟩
end
end
end Go.Proofs.Ytgdijpcopdgapaa
