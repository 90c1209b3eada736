/- Parts of the proof, put together. -/
import Derived.Test.YtcdignblakejoaaCB
import Derived.Lib.IndexBytes
import Derived.Lib.IndexAny
/- Robots: the base: bytes, strings, boxes and own lists that grow. -/
namespace Go.Proofs.Ytcdignblakejoaa
open Go Go.Proofs.Ytcdignblakejoaa.D
set_option linter.unusedVariables false
set_option linter.unusedSimpArgs false
noncomputable section

theorem und9 : E0.und 9 = some .string := by kernel_rfl
abbrev strV (l : List UInt8) : Value := .string ⟨l.toArray⟩
theorem load1_at {S : St} {b o : Nat} {cs : List Value} {more : Option Nat} {ro : Bool} {fz : Option (Nat × Nat)} (h : At S b (.cells cs more ro fz)) : S.load1 b o = cs[o]? := by
  unfold St.load1
  rw [h.get]
theorem ofNat_toNat {n : Nat} (h : n < 256) : (UInt8.ofNat n).toNat = n := by
  simp; omega
theorem und40 : E0.und 40 = some (.slice 5) := by kernel_rfl
theorem und5 : E0.und 5 = some (.int .u8) := by kernel_rfl
theorem size5 : E0.size 5 = some 1 := by kernel_rfl
abbrev byV (c : UInt8) : Value := .int .u8 (c.toNat : Int)
theorem byteOf_by (c : UInt8) : byteOfV (byV c) = some c := by
  show some (UInt8.ofNat ((c.toNat : Int)).toNat) = some c
  simp
theorem mapM_by (l : List UInt8) : (l.map byV).mapM byteOfV = some l := by
  induction l with
  | nil => rfl
  | cons c l ih => rw [List.map_cons, List.mapM_cons, byteOf_by, ih]; rfl
theorem conv_str {S : St} {b o cap : Nat} {l : List UInt8} (h : S.loadN b o l.length = some (l.map byV)) (h0 : l ≠ []) : convertD E0 S 40 9 (.slice (some ⟨b, o, none⟩) l.length cap) = some (strV l, S) := by
  have hl : Nat.beq l.length 0 = false := Bool.eq_false_iff.2 fun hh => h0 (List.length_eq_zero_iff.1 (Nat.eq_of_beq_eq_true hh))
  simp only [convertD, und40, und9, und5, hl, cond_false, h, Option.bind_some, mapM_by, Option.map_some]
theorem loadN_of {S : St} {b o n : Nat} {cs vs : List Value} {more : Option Nat} {ro : Bool} {fz : Option (Nat × Nat)} (h : At S b (.cells cs more ro fz)) (hv : (cs.drop o).take n = vs) (hl : vs.length = n) : S.loadN b o n = some vs := by
  subst hv
  simp only [St.loadN, h.get, hl, Nat.beq_refl, cond_true]
theorem inf9 : E0.inf 9 = some DEnv.i9 := by kernel_rfl
theorem bytes9 : DEnv.i9.bytes = 16 := by kernel_rfl
theorem cat_eq {a b : List UInt8} (h : a.length + b.length ≤ 9223372036854775807) : catD ⟨a.toArray⟩ ⟨b.toArray⟩ = some (strV (a ++ b)) := by
  have h1 : decide (((a.length + b.length : Nat) : Int) ≤ 9223372036854775807) = true := decide_eq_true (by omega)
  show cond (decide (((a.length + b.length : Nat) : Int) ≤ 9223372036854775807)) (some (strV (a ++ b))) none = _
  rw [h1]; rfl

/-! ### Digits -/
theorem lt_inex : (4000000000 : Nat) < inex := by decide
theorem inf5 : E0.inf 5 = some DEnv.i5 := by kernel_rfl
theorem agg5 : aggD DEnv.i5.und = false := by kernel_rfl
theorem bytes5 : DEnv.i5.bytes = 1 := by kernel_rfl
abbrev byC (c : UInt8) : List Value := [byV c]
abbrev Bs (S : St) (s : Sl) (l : List UInt8) : Prop := SlOf byC 1 S s l
theorem siz5 : DEnv.i5.size = 1 := by kernel_rfl
theorem zer5 : DEnv.i5.zero = some (.int .u8 0) := by kernel_rfl
theorem tag5 : tagA E0 5 1 = 5 + TB := by kernel_rfl
theorem flat_by (l : List UInt8) : l.flatMap byC = l.map byV := by induction l with | nil => rfl | cons x l ih => simp [List.flatMap_cons, ih]
theorem all_by (v : List UInt8) : (v.map byV).all St.one = true := by
  rw [List.all_eq_true]
  intro x hx
  obtain ⟨c, _, rfl⟩ := List.mem_map.1 hx
  rfl
def GB (S : St) (s : Sl) (l : List UInt8) : Prop :=
  (l = [] ∧ s = ⟨none, 0, 0⟩) ∨ ∃ b mk, (mk = 1 ∨ mk = 5 + TB) ∧ s = ⟨some ⟨b, 0, none⟩, l.length, inex⟩ ∧ At S b (.cells (l.map byV) (some mk) false none)
theorem GB.len {S : St} {s : Sl} {l : List UInt8} (h : GB S s l) : s.len = l.length := by
  rcases h with ⟨rfl, rfl⟩ | ⟨b, mk, _, rfl, _⟩ <;> rfl
theorem GB.of {S : St} {s : Sl} {l : List UInt8} (h : GB S s l) : Bs S s l := by
  rcases h with ⟨rfl, rfl⟩ | ⟨b, mk, _, rfl, hat⟩
  · exact ⟨rfl, fun h => (h rfl).elim⟩
  · refine ⟨rfl, fun _ => ⟨b, 0, _, _, _, _, rfl, hat, ?_⟩⟩
    rw [List.drop_zero, List.take_of_length_le (by simp), flat_by]
theorem GB.lt {S : St} {s : Sl} {l : List UInt8} (h : GB S s l) {c : Nat} (hc : slO s c) : c < S.next := by
  rcases h with ⟨rfl, rfl⟩ | ⟨b, mk, _, rfl, hat⟩
  · obtain ⟨o, hc⟩ := hc; cases hc
  · obtain ⟨o, hc⟩ := hc; cases hc; exact hat.lt
theorem GB.frm {s : Sl} {l : List UInt8} : Frm (slO s) (fun S => GB S s l) := by
  intro F S S' m hF h
  rcases h with ⟨rfl, rfl⟩ | ⟨b, mk, hm, rfl, hat⟩
  · exact .inl ⟨rfl, rfl⟩
  · exact .inr ⟨b, mk, hm, rfl, m.at hat (hF b ⟨0, rfl⟩)⟩
theorem GB.nil {S : St} : GB S ⟨none, 0, 0⟩ [] := .inl ⟨rfl, rfl⟩
theorem GB.append {S : St} {s : Sl} {l : List UInt8} (h : GB S s l) {xt : TypeId} {xd : TypeDesc} {x : Value} {v : List UInt8} (hxt : E0.und xt = some xd) (ha : apK xd = true) (hn : lenOfD x = some v.length) (hx : firstD S 1 v.length x = some (v.map byV)) (hv : v ≠ [])
    (hl : l.length + v.length ≤ 1000000000) {k : Sl → St → Prop} (hk : ∀ s' S', GB S' s' (l ++ v) → Mod (slO s) S S' → (∀ c, slO s' c → slO s c ∨ S.next ≤ c) → k s' S') : evP tS (appendD E0 S 40 xt (.slice s.a s.len s.cap) x) k := by
  have hv0 : ¬ v.length = 0 := fun hh => hv (List.length_eq_zero_iff.1 hh)
  have g0 : Nat.beq v.length 0 = false := Bool.eq_false_iff.2 fun hh => hv0 (Nat.eq_of_beq_eq_true hh)
  have g1 : Nat.beq (cellsOf (.int .u8 0)).length 1 = true := rfl
  have g2 : Nat.blt 0 1 = true := rfl
  have g3 : Nat.beq (v.map byV).length (v.length * 1) = true := by rw [List.length_map, Nat.mul_one, Nat.beq_refl]
  have g6 : Nat.blt 1 TB = true := by decide
  have g7 : Nat.blt 5 TB = true := by decide
  rcases h with ⟨rfl, rfl⟩ | ⟨b, mk, hm, rfl, hat⟩
  · have g4 : Nat.ble ((0 + v.length) * 1) 17592186044416 = true := Nat.ble_eq_true_of_le (by omega)
    have g5 : Nat.ble (0 + v.length) 17592186044416 = true := Nat.ble_eq_true_of_le (by omega)
    refine ⟨⟨some ⟨S.next, 0, none⟩, v.length, inex⟩, (S.alloc (.cells (v.map byV) (some (5 + TB)) false none)).2, ?_, hk _ _ ?_ (alloc_ext.mono fun _ h => h.elim) fun c hc => ?_⟩
    · simp only [appendD, und40, inf5, siz5, bytes5, zer5, tag5, hxt, ha, cond_true, Option.bind_some, hn, hx, g0, g1, g2, g3, g4, g5, g6, g7, Bool.and_true, cond_false]
      rfl
    · exact .inr ⟨S.next, 5 + TB, .inr rfl, by rw [List.nil_append], by rw [List.nil_append]; exact alloc_at⟩
    · obtain ⟨o, hc⟩ := hc; cases hc; exact .inr (Nat.le_refl _)
  · have g4 : Nat.ble ((l.length + v.length) * 1) 17592186044416 = true := Nat.ble_eq_true_of_le (by omega)
    have g5 : Nat.ble (l.length + v.length) 17592186044416 = true := Nat.ble_eq_true_of_le (by omega)
    have g8 : (Nat.beq mk 1 || Nat.beq mk (5 + TB) && Nat.beq 1 1) = true := by rcases hm with rfl | rfl <;> decide
    have g9 : Nat.ble (0 + (l.length + v.length) * 1) (l.map byV).length = false := Bool.eq_false_iff.2 fun hh => by have := Nat.le_of_ble_eq_true hh; simp at this; omega
    have g10 : Nat.ble (0 + l.length * 1) (l.map byV).length = true := Nat.ble_eq_true_of_le (by simp)
    have g11 : ((l.map byV).drop 0).take (l.length * 1) = l.map byV := by rw [List.drop_zero, List.take_of_length_le (by simp)]
    have g12 : Nat.beq inex inex = true := Nat.beq_refl _
    have g13 : Nat.beq 0 0 = true := rfl
    have g14 : l.map byV ++ v.map byV = (l ++ v).map byV := by rw [List.map_append]
    refine ⟨⟨some ⟨S.next, 0, none⟩, l.length + v.length, inex⟩, ((S.upd b .dead).alloc (.cells ((l ++ v).map byV) (some mk) false none)).2, ?_, hk _ _ ?_ ?_ fun c hc => ?_⟩
    · simp only [appendD, und40, inf5, siz5, bytes5, zer5, tag5, hxt, ha, cond_true, Option.bind_some, hn, hx, g0, g1, g2, g3, g4, g5, g6, g7, Bool.and_true, cond_false, g12, hat.get, g8, g9, g10, g11, g13, Bool.not_false, all_by, St.fzOk, Option.map_none, g14]
      rfl
    · exact .inr ⟨S.next, mk, hm, by rw [List.length_append], alloc_at⟩
    · exact ((upd_mod (S := S) (b := b) (o := .dead)).mono fun c h _ => h ▸ ⟨0, rfl⟩).tr alloc_ext
    · obtain ⟨o, hc⟩ := hc; cases hc; exact .inr (Nat.le_refl _)
theorem first_box {S : St} {b : Nat} {c : UInt8} {more : Option Nat} {ro : Bool} {fz : Option (Nat × Nat)} (h : At S b (.cells [byV c] more ro fz)) : firstD S 1 [c].length (.slice (some ⟨b, 0, none⟩) 1 1) = some ([c].map byV) := firstD_box (f := byC) (sz := 1) (fun _ => rfl) (by omega) h
theorem sliceD_s {S : St} {l : List UInt8} {lo hi : Option Value} {a b : Nat} (h1 : optNat (some 0) lo = some a) (h2 : optNat (some l.length) hi = some b) (hab : a ≤ b) (hb : b ≤ l.length) : sliceD E0 S 9 (strV l) lo hi none = some (strV ((l.drop a).take (b - a))) := by
  have hnone : (none : Option Value).isNone = true := rfl
  simp only [sliceD, und9, List.size_toArray, h1, h2, Option.bind_some, Nat.ble_eq_true_of_le hab, Nat.ble_eq_true_of_le hb, hnone, Bool.and_self, cond_true]
end
end Go.Proofs.Ytcdignblakejoaa

/- Robots: maps of numbers; small functions; a search. -/
namespace Go.Proofs.Ytcdignblakejoaa
open Go Go.Proofs.Ytcdignblakejoaa.D
set_option linter.unusedVariables false
set_option linter.unusedSimpArgs false
noncomputable section

theorem idx_lit {b o len : Nat} {i : Int} {k : Nat → Nat → Prop} (h0 : 0 ≤ i) (h1 : i < (len : Int)) (hk : k b o) : idxW (some ⟨b, o, none⟩) len i k := ⟨b, o, rfl, h0, h1, hk⟩
/-! ### Maps of numbers -/
def isK (n : Int) : Value → Bool
  | .int .i64 m => decide (m = n)
  | _ => false
theorem isK_int {n m : Int} : isK n (.int .i64 m) = decide (m = n) := rfl
/-- A map: what it has of each number. -/
def MapFn (S : St) (b : Nat) (f : Int → Option Value) : Prop := ∃ es clock, At S b (.map es clock) ∧ (∀ e ∈ es, ∃ n : Int, e.key = .int .i64 n) ∧ ∀ n : Int, ((es.find? fun e => isK n e.key).map (·.val)) = f n
theorem MapFn.nil {S : St} {b : Nat} {clock : Nat} (h : At S b (.map [] clock)) : MapFn S b fun _ => none := ⟨[], clock, h, by simp, fun n => rfl⟩
theorem MapFn.mod {S S' : St} {b : Nat} {f : Int → Option Value} {F : Nat → Prop} (h : MapFn S b f) (m : D.Mod F S S') (hF : ¬ F b) : MapFn S' b f := by
  obtain ⟨es, clock, h1, h2⟩ := h
  exact ⟨es, clock, m.at h1 hF, h2⟩
theorem MapFn.ext {S S' : St} {b : Nat} {f : Int → Option Value} (h : MapFn S b f) (e : Ext S S') : MapFn S' b f := h.mod e fun h => h
theorem keyEq_int {S : St} {kt : TypeId} {n m : Int} : keyEq E0 S kt (.int .i64 n) (.int .i64 m) = some (decide (n = m)) := by
  simp only [keyEq]
  have : kindEq .i64 .i64 = true := rfl
  rw [this, cond_true]
theorem findD_int {S : St} {kt : TypeId} {n : Int} : ∀ (es : List MapEntry) (i : Nat), (∀ e ∈ es, ∃ m : Int, e.key = .int .i64 m) →
    (findD E0 S kt (.int .i64 n) es i = some none ∧ es.find? (fun e => isK n e.key) = none) ∨ ∃ (j : Nat) (en : MapEntry), findD E0 S kt (.int .i64 n) es i = some (some (i + j, en)) ∧ es.find? (fun e => isK n e.key) = some en ∧ es[j]? = some en ∧ (∀ j' < j, ∀ e, es[j']? = some e → e.key ≠ .int .i64 n) ∧ en.key = .int .i64 n
  | [], i, _ => .inl ⟨rfl, rfl⟩
  | e :: es, i, h => by
    obtain ⟨m, hm⟩ := h e (by simp)
    have hs : findD E0 S kt (.int .i64 n) (e :: es) i = (keyEq E0 S kt (.int .i64 n) e.key).bind fun b => cond b (some (some (i, e))) (findD E0 S kt (.int .i64 n) es (i + 1)) := rfl
    rw [hs, hm, keyEq_int, Option.bind_some]
    by_cases hnm : n = m
    · subst hnm
      refine .inr ⟨0, e, ?_, ?_, rfl, by omega, hm⟩
      · rw [decide_eq_true rfl]; rfl
      · rw [List.find?_cons, hm, isK_int, decide_eq_true rfl]
    · have h0 : ¬ e.key = .int .i64 n := by rw [hm]; intro e; cases e; exact hnm rfl
      have h00 : isK n e.key = false := by rw [hm, isK_int]; exact decide_eq_false fun e => hnm e.symm
      rw [decide_eq_false hnm, cond_false, List.find?_cons, h00]
      rcases findD_int es (i + 1) (fun e he => h e (List.mem_cons_of_mem _ he)) with ⟨h1, h2⟩ | ⟨j, en, h1, h2, h3, h4, h5⟩
      · exact .inl ⟨h1, h2⟩
      · refine .inr ⟨j + 1, en, by rw [h1, show i + 1 + j = i + (j + 1) from by omega], h2, by simpa using h3, fun j' hj' e' he' => ?_, h5⟩
        cases j' with
        | zero => simp at he'; subst he'; exact h0
        | succ j' => exact h4 j' (by omega) e' (by simpa using he')
theorem lookup_fn {S : St} {b : Nat} {f : Int → Option Value} (h : MapFn S b f) {t kt e : TypeId} (ht : E0.und t = some (.map kt e)) (hk : ∀ n : Int, keyType E0 kt (.int .i64 n) = true) {z : Value} (hz : E0.zero e = some z) {n : Int} : lookupD E0 S t (.map (some b)) (.int .i64 n) false = some ((f n).getD z) := by
  obtain ⟨es, clock, h1, h2, h3⟩ := h
  simp only [lookupD, ht, hk, cond_true, h1.get]
  rw [← h3 n]
  rcases findD_int (S := S) (kt := kt) (n := n) es 0 h2 with ⟨g1, g2⟩ | ⟨j, en, g1, g2, _⟩
  · rw [g1, g2]; simp only [Option.bind_some, hz]; rfl
  · rw [g1, g2]; simp only [Option.bind_some]; rfl
theorem lookup_ok {S : St} {b : Nat} {f : Int → Option Value} (h : MapFn S b f) {t kt e : TypeId} (ht : E0.und t = some (.map kt e)) (hk : ∀ n : Int, keyType E0 kt (.int .i64 n) = true) {z : Value} (hz : E0.zero e = some z) {n : Int} : lookupD E0 S t (.map (some b)) (.int .i64 n) true = some (.tuple #[(f n).getD z, .bool (f n).isSome]) := by
  obtain ⟨es, clock, h1, h2, h3⟩ := h
  simp only [lookupD, ht, hk, cond_true, h1.get]
  rw [← h3 n]
  rcases findD_int (S := S) (kt := kt) (n := n) es 0 h2 with ⟨g1, g2⟩ | ⟨j, en, g1, g2, _⟩
  · rw [g1, g2]; simp only [Option.bind_some, hz]; rfl
  · rw [g1, g2]; simp only [Option.bind_some]; rfl
theorem find_modify {n m : Int} {v : Value} : ∀ {es : List MapEntry} {j : Nat} {en : MapEntry}, es[j]? = some en → (∀ j' < j, ∀ e, es[j']? = some e → e.key ≠ .int .i64 n) → en.key = .int .i64 n →
    ((es.modify j fun e => { e with key := .int .i64 n, val := v }).find? fun e => isK m e.key).map (·.val) = if m = n then some v else (es.find? fun e => isK m e.key).map (·.val)
  | [], j, en, h, _, _ => by simp at h
  | e :: es, 0, en, h, _, hk => by
    simp at h; subst h
    rw [List.modify_zero_cons, List.find?_cons, List.find?_cons]
    by_cases hmn : m = n
    · subst hmn; rw [isK_int, decide_eq_true rfl, if_pos rfl]; rfl
    · rw [isK_int, decide_eq_false fun e => hmn e.symm, hk, isK_int, decide_eq_false fun e => hmn e.symm, if_neg hmn]
  | e :: es, j + 1, en, h, hp, hk => by
    have h0 := hp 0 (by omega) e rfl
    rw [List.modify_succ_cons, List.find?_cons, List.find?_cons]
    cases hem : isK m e.key with
    | true =>
      have hmn : ¬ m = n := fun e' => by
        subst e'
        unfold isK at hem
        split at hem
        · rename_i q hq
          exact h0 (by rw [hq, of_decide_eq_true hem])
        · cases hem
      rw [if_neg hmn]
    | false =>
      exact find_modify (by simpa using h) (fun j' hj' e' he' => hp (j' + 1) (by omega) e' (by simpa using he')) hk
theorem update_fn {S : St} {b : Nat} {f : Int → Option Value} (h : MapFn S b f) {t kt e : TypeId} (ht : E0.und t = some (.map kt e)) (hk : ∀ n : Int, keyType E0 kt (.int .i64 n) = true) {n : Int} {v : Value} {K : St → Prop}
    (hK : ∀ S', MapFn S' b (fun m => if m = n then some v else f m) → D.Mod (fun c => c = b) S S' → S'.next = S.next → K S') : evS (mapUpdateD E0 S t (.map (some b)) (.int .i64 n) v) K := by
  obtain ⟨es, clock, h1, h2, h3⟩ := h
  rcases findD_int (S := S) (kt := kt) (n := n) es 0 h2 with ⟨g1, g2⟩ | ⟨j, en, g1, g2, g3, g4, g5⟩
  · refine ⟨S.upd b (.map (es ++ [{ key := .int .i64 n, val := v, born := clock }]) (clock + 1)), ?_, hK _ ⟨_, _, upd_at h1, fun e he => ?_, fun m => ?_⟩ upd_mod rfl⟩
    · simp only [mapUpdateD, ht, hk, cond_true, mapPut, h1.get, g1, Option.bind_some]
    · rcases List.mem_append.1 he with he | he
      · exact h2 e he
      · simp at he; subst he; exact ⟨n, rfl⟩
    · rw [List.find?_append]
      show _ = if m = n then some v else f m
      by_cases hm : m = n
      · subst hm
        rw [g2, if_pos rfl, Option.none_or, List.find?_cons, isK_int, decide_eq_true rfl]; rfl
      · rw [if_neg hm, ← h3 m]
        rw [List.find?_cons, isK_int, decide_eq_false fun e => hm e.symm]
        simp
  · refine ⟨S.upd b (.map (es.modify j fun e => { e with key := .int .i64 n, val := v }) clock), ?_, hK _ ⟨_, _, upd_at h1, fun e he => ?_, fun m => ?_⟩ upd_mod rfl⟩
    · have hsb : Instr.sameBits 10000 en.key (.int .i64 n) = true := by rw [g5]; simp [Instr.sameBits]
      rw [Nat.zero_add] at g1
      simp only [mapUpdateD, ht, hk, cond_true, mapPut, h1.get, g1, Option.bind_some, hsb]
    · rw [List.mem_iff_getElem?] at he
      obtain ⟨i, hi⟩ := he
      rw [List.getElem?_modify] at hi
      by_cases hij : j = i
      · subst hij; simp [g3] at hi; subst hi; exact ⟨n, rfl⟩
      · simp [hij] at hi; exact h2 e (List.mem_iff_getElem?.2 ⟨i, hi⟩)
    · rw [find_modify g3 g4 g5, h3 m]
theorem und85 : E0.und 85 = some (.map 3 3) := by kernel_rfl
theorem key3 (n : Int) : keyType E0 3 (.int .i64 n) = true := by kernel_rfl
theorem zero3 : E0.zero 3 = some (.int .i64 0) := by kernel_rfl
/-! ### Small functions -/
def knownN (n : Int) : Prop := 0 ≤ n ∧ n < 1024
instance (n : Int) : Decidable (knownN n) := by unfold knownN; infer_instance
theorem s30 {S : St} {n : Int} {k : Value → St → Prop} (hk : k (.bool (decide (knownN n))) S) : WC E0 30 [.int .i64 n] S k := by
  refine w30 _ ?_
  unfold c30
  refine ifW_dec (fun h => ?_) fun h => ?_
  · rw [ltI_eq]
    rw [show decide (n < 1024) = decide (knownN n) from decide_eq_decide.2 ⟨fun h' => ⟨h, h'⟩, fun h' => h'.2⟩]
    exact hk
  · rw [show decide (knownN n) = false from decide_eq_false fun h' => h h'.1] at hk
    exact hk
def cmpN (x y : Int) : Int := if x < y then -1 else if y < x then 1 else 0
theorem s45 {S : St} {x y : Int} {k : Value → St → Prop} (hk : k (.int .i64 (cmpN x y)) S) : WC E0 45 [.int .i64 x, .int .i64 y] S k := by
  refine w45 _ _ ?_
  unfold c45
  have hnan : ∀ z : Int, (!eqI z z) = false := fun z => by rw [eqI_eq, decide_eq_true rfl]; rfl
  refine evC_of (w57 _ ?_)
  unfold c57
  refine ⟨false, by rw [hnan]; rfl, ?_⟩
  refine evC_of (w57 _ ?_)
  unfold c57
  refine ⟨false, by rw [hnan]; rfl, ?_⟩
  refine ifW_of (fun h => by cases h) fun _ => ifW_of (fun h => by cases h) fun _ => ?_
  refine ifW_dec (fun h => ?_) fun h => ?_
  · rw [cmpN, if_pos h] at hk; exact hk
  rw [cmpN, if_neg h] at hk
  refine ifW_dec (fun h2 => ?_) fun h2 => ?_
  · rw [if_pos h2] at hk; exact hk
  · rw [if_neg h2] at hk; exact hk
abbrev Clm := Int × Int
abbrev clmC (c : Clm) : List Value := [.int .i64 c.1, .int .u32 c.2]
theorem s50 {S : St} {x : Clm} {n : Int} {k : Value → St → Prop} (hk : ∀ S', Ext S S' → k (.int .i64 (cmpN x.1 n)) S') : WC E0 50 [sv G80 x, .int .i64 n] S k := by
  refine w50 _ _ ?_
  unfold c50
  refine newW_of fun b S1 _ hat he _ => ?_
  refine ptrW_of (evV_of (ty := tI) x.1 (load_one hat (by kernel_rfl)) ?_)
  exact evC_of (s45 ⟨_, rfl, hk _ he⟩)
/-! ### A search -/
theorem half_eq {a b : Nat} (h : a + b ≤ 1000000) : wrapI .i64 (Int.fdiv (wrapI .u64 (wrapI .i64 ((a : Int) + (b : Int)))) ((2 : Int) ^ min (Int.toNat 1) 64)) = (((a + b) / 2 : Nat) : Int) := by
  rw [wrap_i64 (n := (a : Int) + (b : Int)) (by omega) (by omega), wrap_u64 (by omega) (by omega)]
  have e : ((2 : Int) ^ min (Int.toNat 1) 64) = 2 := by decide
  rw [e, Int.fdiv_eq_ediv_of_nonneg _ (by omega), wrap_i64 (by omega) (by omega)]
  omega
theorem ldAgg132 : ldAgg E0 81 2 = true := by kernel_rfl
theorem slOf_getA {α : Type} {f : α → List Value} {sz : Nat} (hf : ∀ x, (f x).length = sz) {S : St} {s : Sl} {l : List α} (h : SlOf f sz S s l) {t : Nat} (ht : ldAgg E0 t sz = true) {n : Nat} (hn : n < l.length) {k : Nat → Nat → Prop}
    (hk : ∀ b o, loadV E0 S t (.pointer (some ⟨b, o + (n : Int).toNat * sz, none⟩)) = some (.agg (f l[n]).toArray) → k b o) : idxW s.a s.len (n : Int) k := by
  refine h.idx hf (i := (n : Int)) (by omega) (by omega) fun b o cs more ro fz hat _ hc => hk b o ?_
  exact load_agg hat ht hc (hf _)
end
end Go.Proofs.Ytcdignblakejoaa

/- Robots: records; searching and putting in claims. -/
namespace Go.Proofs.Ytcdignblakejoaa
open Go Go.Proofs.Ytcdignblakejoaa.D
set_option linter.unusedVariables false
set_option linter.unusedSimpArgs false
noncomputable section

def sortC (l : List Clm) : Prop := ∀ i j (hi : i < l.length) (hj : j < l.length), i < j → l[i].1 < l[j].1
theorem s49 {S : St} {sl : Sl} {acc : List Clm} {n : Int} (hs : SlOf clmC 2 S sl acc) (hlen : acc.length ≤ 10000) (hso : sortC acc) {k : Value → St → Prop}
    (hk : ∀ (i : Nat) (t : Bool) S', Ext S S' → i ≤ acc.length → (∀ j (h : j < acc.length), j < i → acc[j].1 < n) → (∀ j (h : j < acc.length), i ≤ j → n ≤ acc[j].1) → (t = true ↔ ∃ h : i < acc.length, acc[i].1 = n) → k (.tuple #[.int .i64 (i : Int), .bool t]) S') : WC E0 49 [.slice sl.a sl.len sl.cap, .int .i64 n, .func (.func 50) #[] #[]] S k := by
  refine w49 _ _ _ ?_
  unfold c49
  have hl := hs.len
  refine loopW_ind (fun q (x : Int × Int) S' => ∃ a b : Nat, x.1 = (a : Int) ∧ x.2 = (b : Int) ∧ a ≤ b ∧ b ≤ acc.length ∧ q = b - a ∧ Ext S S' ∧ (∀ j (h : j < acc.length), j < a → acc[j].1 < n) ∧ (∀ j (h : j < acc.length), b ≤ j → n ≤ acc[j].1)) (m := acc.length) ⟨0, acc.length, rfl, by rw [hl], by omega, by omega, by omega, Mod.refl _ _, fun j h h' => by omega, fun j h h' => by omega⟩ ?_
  rintro P q ⟨n1, n2⟩ S1 ⟨a, b, rfl, rfl, hab, hb, rfl, he, hlo, hhi⟩ hP
  dsimp only
  have hs1 := he.slOf hs
  refine ifW_dec (fun h => ?_) fun h => ?_
  · have hm : (a + b) / 2 < acc.length := by omega
    refine ⟨rfl, ?_⟩
    rw [half_eq (by omega)]
    refine slOf_getA (f := clmC) (sz := 2) (fun _ => rfl) hs1 ldAgg132 hm fun b1 o1 hld => ?_
    refine evV_of (ty := .one (.agg G80)) (acc[(a + b) / 2]) hld ?_
    refine evY_func (evC_of (show WC E0 50 [sv G80 (acc[(a + b) / 2]), .int .i64 n] S1 _ from s50 fun S2 e2 => ⟨_, rfl, ?_⟩))
    rw [wrap_succ (by omega)]
    have hc : cmpN acc[(a + b) / 2].1 n < 0 ↔ acc[(a + b) / 2].1 < n := by unfold cmpN; split; omega; split; omega; omega
    refine ifW_dec (fun h2 => ?_) fun h2 => ?_
    · refine hP _ _ _ (by omega) ⟨(a + b) / 2 + 1, b, rfl, rfl, by omega, hb, rfl, he.tr e2, fun j h h' => ?_, hhi⟩
      have h3 := hc.1 h2
      rcases Nat.lt_or_ge j ((a + b) / 2) with h4 | h4
      · have := hso j ((a + b) / 2) h hm h4; omega
      · have : j = (a + b) / 2 := by omega
        subst this; exact h3
    · refine hP _ _ _ (by omega) ⟨a, (a + b) / 2, rfl, rfl, by omega, by omega, rfl, he.tr e2, hlo, fun j h h' => ?_⟩
      have h3 : ¬ acc[(a + b) / 2].1 < n := fun hh => h2 (hc.2 hh)
      rcases Nat.lt_or_ge ((a + b) / 2) j with h4 | h4
      · have := hso ((a + b) / 2) j hm h h4; omega
      · have : j = (a + b) / 2 := by omega
        subst this; omega
  · have hab' : a = b := by omega
    subst hab'
    refine ifW_dec (fun h1 => ?_) fun h1 => ?_
    · have ha : a < acc.length := by omega
      refine slOf_getA (f := clmC) (sz := 2) (fun _ => rfl) hs1 ldAgg132 ha fun b1 o1 hld => ?_
      refine evV_of (ty := .one (.agg G80)) (acc[a]) hld ?_
      refine evY_func (evC_of (show WC E0 50 [sv G80 (acc[a]), .int .i64 n] S1 _ from s50 fun S2 e2 => ⟨_, rfl, ?_⟩))
      refine hk a _ _ (he.tr e2) hb hlo hhi ?_
      rw [eqI_eq, decide_eq_true_eq]
      constructor
      · intro h0
        refine ⟨ha, ?_⟩
        unfold cmpN at h0
        split at h0
        · omega
        · split at h0 <;> omega
      · rintro ⟨_, h0⟩
        unfold cmpN
        rw [if_neg (by omega), if_neg (by omega)]
    · exact hk a _ _ he hb hlo hhi ⟨(fun h => by cases h), fun ⟨h, _⟩ => absurd h (by omega)⟩
theorem eq91 {S : St} {b o : Nat} : eqD E0 S 6 76 (.pointer (some ⟨b, o, none⟩)) (.pointer none) = some false := by kernel_rfl
theorem s29 {S : St} {b : Nat} {sl : Sl} {acc : List Clm} {n : Int} (hat : At S b (.cells [.slice sl.a sl.len sl.cap] none false none)) (hs : SlOf clmC 2 S sl acc) (hlen : acc.length ≤ 10000) (hso : sortC acc) {k : Value → St → Prop}
    (hk : ∀ (i : Nat) (t : Bool) S', Ext S S' → i ≤ acc.length → (∀ j (h : j < acc.length), j < i → acc[j].1 < n) → (∀ j (h : j < acc.length), i ≤ j → n ≤ acc[j].1) → (t = true ↔ ∃ h : i < acc.length, acc[i].1 = n) → k (.tuple #[.int .i64 (i : Int), .bool t]) S') : WC E0 29 [.pointer (some ⟨b, 0, none⟩), .int .i64 n] S k := by
  refine w29 _ _ ?_
  unfold c29
  refine ⟨false, eq91, ?_⟩
  refine ifW_of (fun h => by cases h) fun _ => ?_
  refine ptrW_of (ptrW_of (evV_of (ty := tS) sl (load_one hat (by kernel_rfl)) ?_))
  exact evC_of (s49 hs hlen hso fun i t S' e h1 h2 h3 h4 => ⟨((i : Int), t), rfl, hk i t S' e h1 h2 h3 h4⟩)
/-! ### A list that is put into -/
def OwC (S : St) (s : Sl) (l : List Clm) : Prop := (l = [] ∧ s = ⟨none, 0, 0⟩) ∨ ∃ b, l ≠ [] ∧ s = ⟨some ⟨b, 0, none⟩, l.length, inex⟩ ∧ At S b (.cells (l.flatMap clmC) (some 2) false none)
theorem OwC.len {S : St} {s : Sl} {l : List Clm} (h : OwC S s l) : s.len = l.length := by
  rcases h with ⟨rfl, rfl⟩ | ⟨b, _, rfl, _⟩ <;> rfl
theorem OwC.of {S : St} {s : Sl} {l : List Clm} (h : OwC S s l) : SlOf clmC 2 S s l := by
  rcases h with ⟨rfl, rfl⟩ | ⟨b, hl0, rfl, hat⟩
  · exact ⟨rfl, fun h => (h rfl).elim⟩
  · refine ⟨rfl, fun _ => ⟨b, 0, _, _, _, _, rfl, hat, ?_⟩⟩
    rw [List.drop_zero, List.take_of_length_le (by rw [flat_len (f := clmC) (sz := 2) (fun _ => rfl)]; exact Nat.le_refl _)]
theorem OwC.lt {S : St} {s : Sl} {l : List Clm} (h : OwC S s l) {c : Nat} (hc : slO s c) : c < S.next := by
  rcases h with ⟨rfl, rfl⟩ | ⟨b, hl0, rfl, hat⟩
  · obtain ⟨o, hc⟩ := hc; cases hc
  · obtain ⟨o, hc⟩ := hc; cases hc; exact hat.lt
theorem OwC.frm {s : Sl} {l : List Clm} : Frm (slO s) (fun S => OwC S s l) := by
  intro F S S' m hF h
  rcases h with ⟨rfl, rfl⟩ | ⟨b, hl0, rfl, hat⟩
  · exact .inl ⟨rfl, rfl⟩
  · exact .inr ⟨b, hl0, rfl, m.at hat (hF b ⟨0, rfl⟩)⟩
theorem OwC.nil {S : St} : OwC S ⟨none, 0, 0⟩ [] := .inl ⟨rfl, rfl⟩
theorem flat_take2 (l : List Clm) (i : Nat) : (l.flatMap clmC).take (i * 2) = (l.take i).flatMap clmC := by
  rcases Nat.lt_or_ge i l.length with h | h
  · have e : l.flatMap clmC = (l.take i).flatMap clmC ++ (l.drop i).flatMap clmC := by rw [← List.flatMap_append, List.take_append_drop]
    rw [e, List.take_left' (by rw [flat_len (f := clmC) (sz := 2) (fun _ => rfl), List.length_take]; omega)]
  · rw [List.take_of_length_le h, List.take_of_length_le (by rw [flat_len (f := clmC) (sz := 2) (fun _ => rfl)]; omega)]
theorem one_clm (l : List Clm) : (l.flatMap clmC).all St.one = true := by
  rw [List.all_eq_true]
  intro x hx
  obtain ⟨c, _, hx⟩ := List.mem_flatMap.1 hx
  simp only [clmC, List.mem_cons, List.not_mem_nil, or_false] at hx
  rcases hx with rfl | rfl <;> rfl
theorem s31 {S : St} {s : Sl} {l : List Clm} {x : Clm} {vb i : Nat} (h : OwC S s l) (hll : l.length ≤ 1000000) (hv : At S vb (.cells (clmC x) none false none)) (hi : i ≤ l.length) {k : Value → St → Prop}
    (hk : ∀ (s' : Sl) S', OwC S' s' (l.take i ++ x :: l.drop i) → D.Mod (slO s) S S' → (∀ c, slO s' c → S.next ≤ c) → k (.slice s'.a s'.len s'.cap) S') : WC E0 31 [.slice s.a s.len s.cap, .int .i64 (i : Int), .slice (some ⟨vb, 0, none⟩) 1 1] S k := by
  rcases h with ⟨rfl, rfl⟩ | ⟨b, hl0, rfl, hat⟩
  · have hi0 : i = 0 := by simpa using hi
    subst hi0
    refine WC_prim (E := E0) (f := 31) rfl (show insP 2 [.slice none 0 0, .int .i64 0, .slice (some ⟨vb, 0, none⟩) 1 1] S = some (.slice (some ⟨S.next, 0, none⟩) 1 inex, (S.alloc (.cells (clmC x) (some 2) false none)).2) from ?_) ?_
    · simp only [insP, hv.get]
      rfl
    · exact hk ⟨some ⟨S.next, 0, none⟩, 1, inex⟩ _ (.inr ⟨S.next, by simp, rfl, alloc_at⟩) (alloc_ext.mono fun _ h => h.elim) fun c hc => by obtain ⟨o, hc⟩ := hc; cases hc; exact Nat.le_refl _
  · have hfl : (l.flatMap clmC).length = l.length * 2 := flat_len (f := clmC) (sz := 2) (fun _ => rfl) l
    have hne : vb ≠ b := fun e => by
      subst e
      have := hv.get.symm.trans hat.get
      exact absurd (DObj.cells.inj (Option.some.inj this)).2.1 (by simp)
    have e1 : (l.flatMap clmC).take (i * 2) ++ (clmC x ++ (l.flatMap clmC).drop (i * 2)) = (l.take i ++ x :: l.drop i).flatMap clmC := by
      rw [flat_take2, flat_drop (f := clmC) (sz := 2) (fun _ => rfl)]
      simp only [List.flatMap_append, List.flatMap_cons]
    refine WC_prim (E := E0) (f := 31) rfl (show insP 2 [.slice (some ⟨b, 0, none⟩) l.length inex, .int .i64 (i : Int), .slice (some ⟨vb, 0, none⟩) 1 1] S = some (.slice (some ⟨S.next, 0, none⟩) (l.length + 1) inex, ((S.upd b .dead).alloc (.cells ((l.take i ++ x :: l.drop i).flatMap clmC) (some 2) false none)).2) from ?_) ?_
    · have g0 : decide ((0 : Int) ≤ (i : Int)) = true := by simp
      have g1 : Nat.ble i l.length = true := Nat.ble_eq_true_of_le hi
      have g2 : Nat.ble 1 l.length = true := Nat.ble_eq_true_of_le (List.length_pos_iff.2 hl0)
      have g3 : Nat.beq (clmC x).length 2 = true := rfl
      have g4 : (clmC x).all St.one = true := rfl
      have g5 : Nat.ble l.length 1000000 = true := Nat.ble_eq_true_of_le hll
      have g6 : Nat.beq vb b = false := Bool.eq_false_iff.2 fun hh => hne (Nat.eq_of_beq_eq_true hh)
      have g7 : Nat.beq (l.flatMap clmC).length (l.length * 2) = true := by rw [hfl, Nat.beq_refl]
      simp only [insP, hv.get, hat.get, Nat.beq_refl, g0, Int.toNat_natCast, g1, g2, g3, g4, g5, g6, g7, one_clm, Bool.not_false, Bool.and_true, cond_true, e1]
    · refine hk ⟨some ⟨S.next, 0, none⟩, l.length + 1, inex⟩ _ (.inr ⟨S.next, by simp, ?_, alloc_at⟩) ?_ fun c hc => by obtain ⟨o, hc⟩ := hc; cases hc; exact Nat.le_refl _
      · have : (l.take i ++ x :: l.drop i).length = l.length + 1 := by simp; omega
        rw [this]
      · exact ((upd_mod (S := S) (b := b) (o := .dead)).mono fun c h _ => h ▸ ⟨0, rfl⟩).tr alloc_ext
theorem sort_put {l : List Clm} {x : Clm} {i : Nat} (h : sortC l) (hi : i ≤ l.length) (h1 : ∀ j (h : j < l.length), j < i → l[j].1 < x.1) (h2 : ∀ j (h : j < l.length), i ≤ j → x.1 ≤ l[j].1) (hn : ∀ c ∈ l, c.1 ≠ x.1) : sortC (l.take i ++ x :: l.drop i) := by
  have hlt : (l.take i).length = i := by simp; omega
  have get : ∀ j (hj : j < (l.take i ++ x :: l.drop i).length), (j < i ∧ ∃ (h : j < l.length), (l.take i ++ x :: l.drop i)[j] = l[j]) ∨ (j = i ∧ (l.take i ++ x :: l.drop i)[j] = x) ∨ (i < j ∧ ∃ (h : j - 1 < l.length), (l.take i ++ x :: l.drop i)[j] = l[j - 1]) := by
    intro j hj
    have hj' : j < l.length + 1 := by simp at hj; omega
    rcases Nat.lt_trichotomy j i with h | h | h
    · refine .inl ⟨h, by omega, ?_⟩
      rw [List.getElem_append_left (by omega), List.getElem_take]
    · refine .inr (.inl ⟨h, ?_⟩)
      subst h
      rw [List.getElem_append_right (by omega)]
      simp [hlt]
    · refine .inr (.inr ⟨h, by omega, ?_⟩)
      rw [List.getElem_append_right (by omega)]
      have e : j - (l.take i).length = (j - i - 1) + 1 := by omega
      simp only [e, List.getElem_cons_succ, List.getElem_drop]
      congr 1
      omega
  have h2' : ∀ j (h : j < l.length), i ≤ j → x.1 < l[j].1 := fun j h hj => by
    have := h2 j h hj
    have := hn l[j] (List.getElem_mem h)
    omega
  intro a b ha hb hab
  rcases get a ha with ⟨g1, g2, g3⟩ | ⟨g1, g3⟩ | ⟨g1, g2, g3⟩ <;> rcases get b hb with ⟨k1, k2, k3⟩ | ⟨k1, k3⟩ | ⟨k1, k2, k3⟩ <;> rw [g3, k3]
  · exact h a b g2 k2 hab
  · exact h1 a g2 g1
  · have := h1 a g2 g1
    have := h2' (b - 1) k2 (by omega)
    omega
  · omega
  · omega
  · exact h2' (b - 1) k2 (by omega)
  · omega
  · omega
  · exact h (a - 1) (b - 1) g2 k2 (by omega)
theorem mem_put {l : List Clm} {x c : Clm} {i : Nat} : c ∈ l.take i ++ x :: l.drop i ↔ c = x ∨ c ∈ l := by
  have : c ∈ l ↔ c ∈ l.take i ∨ c ∈ l.drop i := by rw [← List.mem_append, List.take_append_drop]
  rw [List.mem_append, List.mem_cons, this]
  constructor
  · rintro (h | h | h)
    · exact .inr (.inl h)
    · exact .inl h
    · exact .inr (.inr h)
  · rintro (h | h | h)
    · exact .inr (.inl h)
    · exact .inl h
    · exact .inr (.inr h)
theorem pair_same : ∀ {l l' : List Clm}, (l.Pairwise fun a b => a.1 < b.1) → (l'.Pairwise fun a b => a.1 < b.1) → (∀ c, c ∈ l ↔ c ∈ l') → l = l'
  | [], [], _, _, _ => rfl
  | [], y :: t, _, _, hm => absurd ((hm y).2 (by simp)) (by simp)
  | x :: t, [], _, _, hm => absurd ((hm x).1 (by simp)) (by simp)
  | x :: t, y :: t', h, h', hm => by
    rw [List.pairwise_cons] at h h'
    have hxy : x = y := by
      rcases List.mem_cons.1 ((hm x).1 (by simp)) with e | e
      · exact e
      rcases List.mem_cons.1 ((hm y).2 (by simp)) with e' | e'
      · exact e'.symm
      have := h.1 y e'
      have := h'.1 x e
      omega
    subst hxy
    congr 1
    refine pair_same h.2 h'.2 fun c => ?_
    constructor
    · intro hc
      rcases List.mem_cons.1 ((hm c).1 (List.mem_cons_of_mem _ hc)) with e | e
      · subst e; have := h.1 c hc; omega
      · exact e
    · intro hc
      rcases List.mem_cons.1 ((hm c).2 (List.mem_cons_of_mem _ hc)) with e | e
      · subst e; have := h'.1 c hc; omega
      · exact e
/-- Two such lists of the same claims are the same. -/
theorem sort_same {l l' : List Clm} (h : sortC l) (h' : sortC l') (hm : ∀ c, c ∈ l ↔ c ∈ l') : l = l' :=
  pair_same (List.pairwise_iff_getElem.2 fun i j hi hj hij => h i j hi hj hij) (List.pairwise_iff_getElem.2 fun i j hi hj hij => h' i j hi hj hij) hm
end
end Go.Proofs.Ytcdignblakejoaa

/- Robots: records' claims. -/
namespace Go.Proofs.Ytcdignblakejoaa
open Go Go.Proofs.Ytcdignblakejoaa.D
set_option linter.unusedVariables false
set_option linter.unusedSimpArgs false
noncomputable section

/-! ### Numbers out of bytes -/
def vlA (v : Nat) (l : List UInt8) : Nat := l.foldl (fun v c => v * 256 + c.toNat) v
def vl (l : List UInt8) : Nat := vlA 0 l
theorem vlA_snoc (v : Nat) (l : List UInt8) (c : UInt8) : vlA v (l ++ [c]) = vlA v l * 256 + c.toNat := by simp [vlA, List.foldl_append]
theorem vl_snoc (l : List UInt8) (c : UInt8) : vl (l ++ [c]) = vl l * 256 + c.toNat := vlA_snoc 0 l c
theorem vl_lt : ∀ (n : Nat) (l : List UInt8), l.length = n → vl l < 256 ^ n := by
  intro n
  induction n with
  | zero => intro l h; rw [List.length_eq_zero_iff.1 h]; decide
  | succ n ih =>
    intro l h
    rcases List.eq_nil_or_concat l with rfl | ⟨t, c, rfl⟩
    · simp at h
    rw [List.concat_eq_append] at h ⊢
    have := ih t (by simpa using h)
    rw [vl_snoc, Nat.pow_succ]
    have hc := c.toNat_lt
    omega
theorem or_u32 {a b : Nat} (ha : a < 16777216) (hb : b < 256) : orI .u32 ((a * 256 : Nat) : Int) (b : Int) = ((a * 256 + b : Nat) : Int) := by
  have h1 : (BitVec.ofInt 32 ((a * 256 : Nat) : Int) ||| BitVec.ofInt 32 (b : Int)).toNat = a * 256 + b := by
    rw [BitVec.toNat_or, BitVec.ofInt_natCast, BitVec.ofInt_natCast, BitVec.toNat_ofNat, BitVec.toNat_ofNat, Nat.mod_eq_of_lt (by omega), Nat.mod_eq_of_lt (by omega)]
    have := Nat.two_pow_add_eq_or_of_lt (i := 8) hb a
    rw [show 2 ^ 8 * a = a * 256 from by omega] at this
    exact this.symm
  show IntKind.u32.wrap ((BitVec.ofInt 32 ((a * 256 : Nat) : Int) ||| BitVec.ofInt 32 (b : Int)).toNat : Int) = _
  rw [h1]
  simp only [IntKind.wrap, IntKind.signed, IntKind.bits, Bool.false_and]
  rw [if_neg (by simp)]
  omega
theorem step_u32 {a : Nat} {c : UInt8} (ha : a < 16777216) : orI .u32 (wrapI .u32 ((a : Int) * ((2 : Int) ^ min (Int.toNat 8) 32))) (wrapI .u32 (c.toNat : Int)) = ((a * 256 + c.toNat : Nat) : Int) := by
  have e : ((2 : Int) ^ min (Int.toNat 8) 32) = 256 := by decide
  have hc := c.toNat_lt
  rw [e, wrap_u32 (by omega) (by omega), wrap_u32 (by omega) (by omega)]
  have := or_u32 (a := a) (b := c.toNat) ha (by omega)
  rw [show ((a * 256 : Nat) : Int) = (a : Int) * 256 from by omega] at this
  exact this
/-! ### Records -/
abbrev Rc := Int × Int × Sl × List UInt8
abbrev recC (r : Rc) : List Value := [.int .i64 r.1, .int .i64 r.2.1, .slice r.2.2.1.a r.2.2.1.len r.2.2.1.cap]
structure RecsAt (S : St) (s : Sl) (l : List Rc) : Prop where
  sl : SlOf recC 3 S s l
  dat : ∀ r ∈ l, Bs S r.2.2.1 r.2.2.2
  cap : ∀ r ∈ l, r.2.2.1.len ≤ r.2.2.1.cap ∧ r.2.2.1.cap < inex
theorem RecsAt.ext {S S' : St} {s : Sl} {l : List Rc} (h : RecsAt S s l) (e : Ext S S') : RecsAt S' s l := ⟨e.slOf h.sl, fun r hr => e.slOf (h.dat r hr), h.cap⟩
def seen (l : List Rc) (i : Nat) (n : Int) : Prop := ∃ r ∈ l.take i, r.1 = 2 ∧ r.2.1 = n
def okAt (l : List Rc) (i : Nat) (r : Rc) : Prop := knownN r.2.1 ∧ (r.2.2.2.length = 0 ∨ r.2.2.2.length = 4) ∧ ¬ seen l i r.2.1
def clmOk (l : List Rc) : Prop := ∀ i (h : i < l.length), l[i].1 = 2 → okAt l i l[i]
def clmIn (l : List Rc) (c : Clm) : Prop := ∃ r ∈ l, r.1 = 2 ∧ r.2.2.2.length = 4 ∧ c = (r.2.1, (vl r.2.2.2 : Int))
def isF (r : Rc) : Bool := r.1 == 2 && r.2.2.2.length == 4
def cntC (l : List Rc) : Nat := (l.filter isF).length
section
variable {l : List Rc} {i : Nat}
theorem mem_take_succ (h : i < l.length) {r : Rc} : r ∈ l.take (i + 1) ↔ r ∈ l.take i ∨ r = l[i] := by
  rw [List.take_succ_eq_append_getElem h, List.mem_append, List.mem_singleton]
theorem seen_succ (h : i < l.length) {n : Int} : seen l (i + 1) n ↔ seen l i n ∨ (l[i].1 = 2 ∧ l[i].2.1 = n) := by
  unfold seen
  constructor
  · rintro ⟨r, hr, h1⟩
    rcases (mem_take_succ h).1 hr with hr | rfl
    · exact .inl ⟨r, hr, h1⟩
    · exact .inr h1
  · rintro (⟨r, hr, h1⟩ | h1)
    · exact ⟨r, (mem_take_succ h).2 (.inl hr), h1⟩
    · exact ⟨_, (mem_take_succ h).2 (.inr rfl), h1⟩
theorem in_succ (h : i < l.length) {c : Clm} : clmIn (l.take (i + 1)) c ↔ clmIn (l.take i) c ∨ (l[i].1 = 2 ∧ l[i].2.2.2.length = 4 ∧ c = (l[i].2.1, (vl l[i].2.2.2 : Int))) := by
  unfold clmIn
  constructor
  · rintro ⟨r, hr, h1⟩
    rcases (mem_take_succ h).1 hr with hr | rfl
    · exact .inl ⟨r, hr, h1⟩
    · exact .inr h1
  · rintro (⟨r, hr, h1⟩ | h1)
    · exact ⟨r, (mem_take_succ h).2 (.inl hr), h1⟩
    · exact ⟨_, (mem_take_succ h).2 (.inr rfl), h1⟩
theorem cnt_succ (h : i < l.length) : cntC (l.take (i + 1)) = cntC (l.take i) + if isF l[i] = true then 1 else 0 := by
  unfold cntC
  rw [List.take_succ_eq_append_getElem h, List.filter_append, List.length_append]
  congr 1
  by_cases hf : isF l[i] = true
  · simp [hf]
  · simp [hf]
theorem isF_iff {r : Rc} : isF r = true ↔ r.1 = 2 ∧ r.2.2.2.length = 4 := by unfold isF; simp
theorem in_seen {c : Clm} (h : clmIn (l.take i) c) : seen l i c.1 := by
  obtain ⟨r, hr, h1, _, rfl⟩ := h
  exact ⟨r, hr, h1, rfl⟩
end
/-- .. skipped. -/
theorem skip_succ {l : List Rc} {i : Nat} (h : i < l.length) (h2 : ¬ l[i].1 = 2) : (∀ n, seen l (i + 1) n ↔ seen l i n) ∧ (∀ c, clmIn (l.take (i + 1)) c ↔ clmIn (l.take i) c) ∧ cntC (l.take (i + 1)) = cntC (l.take i) := by
  refine ⟨fun n => ?_, fun c => ?_, ?_⟩
  · rw [seen_succ h]; exact ⟨fun hh => hh.elim id fun hh => (h2 hh.1).elim, .inl⟩
  · rw [in_succ h]; exact ⟨fun hh => hh.elim id fun hh => (h2 hh.1).elim, .inl⟩
  · rw [cnt_succ h, if_neg fun hh => h2 (isF_iff.1 hh).1]; rfl
theorem no_succ {l : List Rc} {i : Nat} (h : i < l.length) (h4 : ¬ l[i].2.2.2.length = 4) : (∀ c, clmIn (l.take (i + 1)) c ↔ clmIn (l.take i) c) ∧ cntC (l.take (i + 1)) = cntC (l.take i) := by
  refine ⟨fun c => ?_, ?_⟩
  · rw [in_succ h]; exact ⟨fun hh => hh.elim id fun hh => (h4 hh.2.1).elim, .inl⟩
  · rw [cnt_succ h, if_neg fun hh => h4 (isF_iff.1 hh).2]; rfl
theorem MapFn.frm {b : Nat} {f : Int → Option Value} : Frm (fun c => c = b) (fun S => MapFn S b f) := by
  intro F S S' m hF h
  obtain ⟨es, clock, h1, h2⟩ := h
  exact ⟨es, clock, m.at h1 (hF b rfl), h2⟩
theorem MapFn.lt {S : St} {b : Nat} {f : Int → Option Value} (h : MapFn S b f) : b < S.next := by
  obtain ⟨es, clock, h1, _⟩ := h
  exact h1.lt
theorem MapFn.congr {S : St} {b : Nat} {f g : Int → Option Value} (h : MapFn S b f) (e : ∀ n, f n = g n) : MapFn S b g := by
  have : f = g := funext e
  subst this; exact h
open Classical in
def metF (l : List Rc) (i : Nat) (n : Int) : Option Value := if seen l i n then some (.int .i64 1) else none
abbrev PC (b2 : Nat) (sl : Sl) (acc : List Clm) (f : Int → Option Value) (S : St) : Prop := OwC S sl acc ∧ MapFn S b2 f
abbrev OC (b2 : Nat) (sl : Sl) (c : Nat) : Prop := slO sl c ∨ c = b2
structure IC (S S' : St) (b1 b2 : Nat) (L : List (Nat × DObj)) (l : List Rc) (i : Nat) (sl : Sl) (acc : List Clm) (f : Int → Option Value) : Prop where
  cx : Cx noB S S' (L ++ [(b1, .cells [.slice sl.a sl.len sl.cap] none false none)]) (OC b2 sl) (PC b2 sl acc f)
  own : ∀ c, slO sl c → S.next ≤ c ∧ c ≠ b2
  b2 : S.next ≤ b2
  so : sortC acc
  mem : ∀ c, c ∈ acc ↔ clmIn (l.take i) c
  cnt : acc.length = cntC (l.take i)
  ok : ∀ j (h : j < l.length), j < i → l[j].1 = 2 → okAt l j l[j]
theorem cntC_le {l : List Rc} : cntC l ≤ l.length := List.length_filter_le _ _
theorem PC.frm {b2 : Nat} {sl : Sl} {acc : List Clm} {f : Int → Option Value} : Frm (OC b2 sl) (PC b2 sl acc f) := Frm.and OwC.frm MapFn.frm
theorem PC.lt {b2 : Nat} {sl : Sl} {acc : List Clm} {f : Int → Option Value} {S : St} (h : PC b2 sl acc f S) (c : Nat) (hc : OC b2 sl c) : c < S.next := by
  rcases hc with hc | rfl
  · exact h.1.lt hc
  · exact h.2.lt
theorem ldAgg146 : ldAgg E0 42 3 = true := by kernel_rfl
end
end Go.Proofs.Ytcdignblakejoaa

/- Robots: ledgers out of records, the program's. -/
namespace Go.Proofs.Ytcdignblakejoaa
open Go Go.Proofs.Ytcdignblakejoaa.D
set_option linter.unusedVariables false
set_option linter.unusedSimpArgs false
noncomputable section

def hol (dt : List UInt8) : Int := if dt.headD 0 = 255 then -1 else ((dt.headD 0).toNat : Int)
def gen5 (dt : List UInt8) : Int := (vl dt.tail : Int)
def fine0 (dt : List UInt8) : Prop := dt.length = 5 ∧ ¬ (hol dt = -1 ∧ gen5 dt = 0)
def isL (home robots cells n : Int) : Prop := 0 ≤ n ∧ n < cells ∧ Int.tmod n robots = home
instance (home robots cells n : Int) : Decidable (isL home robots cells n) := by unfold isL; infer_instance
def seen3 (l : List Rc) (i : Nat) (n : Int) : Prop := ∃ r ∈ l.take i, r.1 = 3 ∧ r.2.1 = n
theorem seen3_succ {l : List Rc} {i : Nat} (h : i < l.length) {n : Int} : seen3 l (i + 1) n ↔ seen3 l i n ∨ (l[i].1 = 3 ∧ l[i].2.1 = n) := by
  unfold seen3
  constructor
  · rintro ⟨r, hr, h1⟩
    rcases (mem_take_succ h).1 hr with hr | rfl
    · exact .inl ⟨r, hr, h1⟩
    · exact .inr h1
  · rintro (⟨r, hr, h1⟩ | h1)
    · exact ⟨r, (mem_take_succ h).2 (.inl hr), h1⟩
    · exact ⟨_, (mem_take_succ h).2 (.inr rfl), h1⟩
def ledAt (home robots cells : Int) (l : List Rc) (i : Nat) (r : Rc) : Prop := fine0 r.2.2.2 ∧ hol r.2.2.2 < robots ∧ isL home robots cells r.2.1 ∧ ¬ seen3 l i r.2.1
def ledOk (home robots cells : Int) (l : List Rc) : Prop := ∀ i (h : i < l.length), l[i].1 = 3 → ledAt home robots cells l i l[i]
abbrev Ent := Int × Int
abbrev entC (e : Ent) : List Value := [.int .i64 e.1, .int .u32 e.2]
theorem s36 {S : St} {k : Value → St → Prop} (hk : ∀ S', Ext S S' → k (sv G80 ((-1, 0) : Ent)) S') : WC E0 36 [] S k := by
  refine w36 ?_
  unfold c36
  have hL := Hld.start noB S
  refine hL.new fun b1 S1 hL _ _ => ?_
  refine hL.st 0 2 rfl (by kernel_rfl) rfl (Nat.le_of_ble_eq_true rfl) rfl rfl fun S2 hL _ => ?_
  refine hL.lda 0 rfl (by kernel_rfl) ((-1, 0) : Ent) rfl ?_
  exact hk _ hL.mod
theorem eqEnt (S : St) (x y : Ent) : eqD E0 S 6 90 (sv G80 x) (sv G80 y) = some (decide (x.1 = y.1) && decide (x.2 = y.2)) := by
  have h1 : eqD E0 S 5 3 (.int .i64 x.1) (.int .i64 y.1) = some (decide (x.1 = y.1)) := (show _ = some (decide (x.1 = y.1)) by kernel_rfl)
  have h2 : eqD E0 S 5 30 (.int .u32 x.2) (.int .u32 y.2) = some (decide (x.2 = y.2)) := (show _ = some (decide (x.2 = y.2)) by kernel_rfl)
  refine (show _ = (eqD E0 S 5 3 (.int .i64 x.1) (.int .i64 y.1)).bind (fun e => cond e ((eqD E0 S 5 30 (.int .u32 x.2) (.int .u32 y.2)).bind fun e => cond e (some true) (some false)) (some false)) by kernel_rfl).trans ?_
  rw [h1, h2]
  cases decide (x.1 = y.1) <;> cases decide (x.2 = y.2) <;> rfl
theorem size5' : E0.size 5 = some 1 := by kernel_rfl
/-! ### The ledger -/
abbrev ledC (home robots cells : Int) (b1 m2 m3 : Nat) : List Value := [.int .i64 home, .int .i64 robots, .int .i64 cells, .map (some b1), .map (some m2), .map (some m3)]
structure argsL (home robots cells : Int) : Prop where
  r1 : 1 ≤ robots
  r2 : robots ≤ 64
  h1 : 0 ≤ home
  h2 : home < robots
  c1 : 1 ≤ cells
  c2 : cells ≤ 1024
theorem s14 {S : St} {home robots cells : Int} (ha : argsL home robots cells) {k : Value → St → Prop}
    (hk : ∀ b b1 m2 m3 S', Ext S S' → S.next ≤ b → S.next ≤ b1 → b ≠ b1 → At S' b (.cells (ledC home robots cells b1 m2 m3) none false none) → MapFn S' b1 (fun _ => none) → k (.tuple #[.pointer (some ⟨b, 0, none⟩), .int .i64 0]) S') : WC E0 14 [.int .i64 home, .int .i64 robots, .int .i64 cells] S k := by
  obtain ⟨r1, r2, h1, h2, c1, c2⟩ := ha
  refine w14 _ _ _ ?_
  unfold c14
  refine ifW_neg (by omega) (ifW_neg (by omega) (ifW_neg (by omega) (ifW_neg (by omega) (ifW_neg (by omega) (ifW_neg (by omega) ?_)))))
  refine newW_of fun b1 S1 hb1 hat1 he1 hn1 => ?_
  refine newW_of fun b2 S2 hb2 hat2 he2 hn2 => ?_
  refine newW_of fun b3 S3 hb3 hat3 he3 hn3 => ?_
  have he := (he1.tr he2).tr he3
  refine update_fn (MapFn.nil hat3) und85 key3 fun S4 hm4 m4 hn4 => ?_
  have he4 : Ext S S4 := he.ext m4 fun c hc => by omega
  refine newW_of fun b4 S5 hb4 hat5 he5 hn5 => ?_
  refine hk b4 b1 b2 b3 S5 (he4.tr he5) (by omega) (by omega) (by omega) hat5 ?_
  have hm1 : MapFn S4 b1 (fun _ => none) := (MapFn.nil ((he2.tr he3).at hat1)).mod m4 (by omega)
  exact hm1.ext he5
theorem eq94 {S : St} {b o : Nat} : eqD E0 S 6 49 (.pointer (some ⟨b, o, none⟩)) (.pointer none) = some false := by kernel_rfl
theorem s15 {S : St} {b : Nat} {home robots cells : Int} {b1 m2 m3 : Nat} (hat : At S b (.cells (ledC home robots cells b1 m2 m3) none false none)) (h1 : 1 ≤ robots) {n : Int} {k : Value → St → Prop} (hk : k (.bool (decide (isL home robots cells n))) S) : WC E0 15 [.pointer (some ⟨b, 0, none⟩), .int .i64 n] S k := by
  refine w15 _ _ ?_
  unfold c15
  refine evC_of (w33 _ ?_)
  unfold c33
  refine ⟨false, eq94, ?_⟩
  refine ifW_of (fun h => by cases h) fun _ => ?_
  refine ptrW_of (ptrW_of (evV_of (ty := tI) robots (load_one hat (by kernel_rfl)) ?_))
  refine ⟨false, by rw [eqI_eq, decide_eq_false (by omega)]; rfl, ?_⟩
  refine ifW_of (fun _ => ?_) fun h => by cases h
  refine ifW_dec (fun h0 => ?_) fun h0 => ?_
  · refine ptrW_of (ptrW_of (evV_of (ty := tI) cells (load_one hat (by kernel_rfl)) ?_))
    refine ifW_dec (fun hc => ?_) fun hc => ?_
    · refine ptrW_of (ptrW_of (evV_of (ty := tI) robots (load_one hat (by kernel_rfl)) ?_))
      refine ⟨by rw [decide_eq_false (by omega)]; rfl, ?_⟩
      refine ptrW_of (ptrW_of (evV_of (ty := tI) home (load_one hat (by kernel_rfl)) ?_))
      rw [eqI_eq, show decide (Int.tmod n robots = home) = decide (isL home robots cells n) from decide_eq_decide.2 ⟨fun h => ⟨h0, hc, h⟩, fun h => h.2.2⟩]
      exact hk
    · rw [show decide (isL home robots cells n) = false from decide_eq_false fun h => hc h.2.1] at hk
      exact hk
  · rw [show decide (isL home robots cells n) = false from decide_eq_false fun h => h0 h.1] at hk
    exact hk
theorem und83 : E0.und 83 = some (.map 3 90) := by kernel_rfl
theorem zero90 : E0.zero 90 = some (sv G80 ((0, 0) : Ent)) := by kernel_rfl
end
end Go.Proofs.Ytcdignblakejoaa
