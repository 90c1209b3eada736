/-
  D, part 31: slices that grow and shrink: behind the elements spare cells may stand.
-/
import Derived.Test.YtcookjolkhcjhaaD30
namespace Go.Proofs.Ytcookjolkhcjhaa.D
noncomputable section
set_option linter.unusedVariables false
set_option linter.unusedSimpArgs false

/-- As Gr, with spare cells behind. -/
def GrX {α : Type} (f : α → List Value) (sz : Nat) (N : Nat) (S : St) (s : Sl) (l : List α) : Prop :=
  (l = [] ∧ s = ⟨none, 0, 0⟩) ∨ ∃ b rest, N ≤ b ∧ s = ⟨some ⟨b, 0, none⟩, l.length, inex⟩ ∧ At S b (.cells (l.flatMap f ++ rest) (some sz) false none) ∧ l.length * sz + rest.length < inex
theorem Gr.x {α : Type} {f : α → List Value} {sz N : Nat} {S : St} {s : Sl} {l : List α} (h : Gr f sz N S s l) (hl : l.length * sz < inex) : GrX f sz N S s l := by
  rcases h with h | ⟨b, h1, h2, h3⟩
  · exact .inl h
  · exact .inr ⟨b, [], h1, h2, by rw [List.append_nil]; exact h3, hl⟩
theorem GrX.of {α : Type} {f : α → List Value} {sz N : Nat} {S : St} {s : Sl} {l : List α} (hf : ∀ x, (f x).length = sz) (h : GrX f sz N S s l) : SlOf f sz S s l := by
  rcases h with ⟨rfl, rfl⟩ | ⟨b, rest, _, rfl, ha, _⟩
  · exact ⟨rfl, fun h => (h rfl).elim⟩
  · refine ⟨rfl, fun _ => ⟨b, 0, _, _, _, _, rfl, ha, ?_⟩⟩
    rw [List.drop_zero, List.take_append_of_le_length (by rw [flat_len hf]; exact Nat.le_refl _), List.take_of_length_le (by rw [flat_len hf]; exact Nat.le_refl _)]
theorem GrX.len {α : Type} {f : α → List Value} {sz N : Nat} {s : Sl} {l : List α} {S : St} (g : GrX f sz N S s l) : s.len = l.length := by
  rcases g with ⟨rfl, rfl⟩ | ⟨b, rest, hb, rfl, ha, _⟩ <;> rfl
theorem Mod.grX {α : Type} {f : α → List Value} {sz N : Nat} {F : Nat → Prop} {S S' : St} {s : Sl} {l : List α} (h : Mod F S S') (hs : GrX f sz N S s l) (hn : ∀ b, N ≤ b → b < S.next → ¬ F b) : GrX f sz N S' s l := by
  rcases hs with h1 | ⟨b, rest, h1, h2, h3, h4⟩
  · exact .inl h1
  · exact .inr ⟨b, rest, h1, h2, h.at h3 (hn b h1 h3.lt), h4⟩
theorem GrX.same {α : Type} {f : α → List Value} {sz N : Nat} {s : Sl} {l : List α} {S S' : St} (g : GrX f sz N S s l) (h1 : S'.heap = S.heap) (h2 : S'.next = S.next) : GrX f sz N S' s l := by
  rcases g with h | ⟨b, rest, hb, e, ha, hl⟩
  · exact .inl h
  · exact .inr ⟨b, rest, hb, e, ⟨by rw [h1]; exact ha.get, by rw [h2]; exact ha.lt⟩, hl⟩
/-- Elements are appended. -/
theorem GrX.append {α : Type} {f : α → List Value} {sz N : Nat} {E : Env} {S : St} {s : Sl} {l : List α} (hf : ∀ x, (f x).length = sz) (hsz : 0 < sz) (h : GrX f sz N S s l) {st xt e : Nat} {d : DInfo} {xd : TypeDesc} {z : Value} (hst : E.und st = some (.slice e)) (he : E.inf e = some d) (hxt : E.und xt = some xd) (hxd : apK xd = true)
    (hds : d.size = sz) (hz : d.zero = some z) (hzl : (cellsOf z).length = sz) {x : Value} {vs : List α} (hn : lenOfD x = some vs.length) (hx : firstD S sz vs.length x = some (vs.flatMap f)) (hone : (vs.flatMap f).all St.one = true)
    (hb : (l.length + vs.length) * d.bytes ≤ 17592186044416) (hb2 : l.length + vs.length ≤ 17592186044416) (hvs : vs ≠ []) (hb3 : (l.length + vs.length) * sz < inex)
    {k : Sl → St → Prop} (hk : ∀ s' S', GrX f sz N S' s' (l ++ vs) → Mod (fun b => N ≤ b ∧ s.a = some ⟨b, 0, none⟩) S S' → (s'.a = s.a ∨ ∃ b, s'.a = some ⟨b, 0, none⟩ ∧ S.next ≤ b) → k s' S') (hN : N ≤ S.next) :
    evP tS (appendD E S st xt (.slice s.a s.len s.cap) x) k := by
  have hv0 : ¬ vs.length = 0 := fun hh => hvs (List.length_eq_zero_iff.1 hh)
  have hbz : Nat.beq vs.length 0 = false := Bool.eq_false_iff.2 fun hh => hv0 (Nat.eq_of_beq_eq_true hh)
  have hfl : (vs.flatMap f).length = vs.length * sz := flat_len hf vs
  have g1 : Nat.beq (cellsOf z).length sz = true := by rw [hzl, Nat.beq_refl]
  have g2 : Nat.blt 0 sz = true := by simpa [Nat.blt] using Nat.ble_eq_true_of_le hsz
  have g3 : Nat.beq (vs.flatMap f).length (vs.length * sz) = true := by rw [hfl, Nat.beq_refl]
  rcases h with ⟨rfl, rfl⟩ | ⟨b, rest, hbN, rfl, hat, hlt⟩
  · have g4 : Nat.ble ((0 + vs.length) * d.bytes) 17592186044416 = true := Nat.ble_eq_true_of_le (by simpa using hb)
    have g5 : Nat.ble (0 + vs.length) 17592186044416 = true := Nat.ble_eq_true_of_le (by simpa using hb2)
    refine ⟨⟨some ⟨S.next, 0, none⟩, vs.length, inex⟩, (S.alloc (.cells (vs.flatMap f) (some sz) false none)).2, ?_, hk _ _ (.inr ⟨S.next, [], hN, ?_, ?_, by simpa using hb3⟩) (alloc_ext.mono fun _ h _ => h.elim) (.inr ⟨_, rfl, Nat.le_refl _⟩)⟩
    · simp only [appendD, hst, he, hxt, hxd, cond_true, hz, Option.bind_some, hn, hds, hx, g1, g2, g3, g4, g5, Bool.and_true, hbz, cond_false, TT.enc, Ty.enc, Sc.enc]
    · simp
    · simpa using alloc_at
  · have g4 : Nat.ble ((l.length + vs.length) * d.bytes) 17592186044416 = true := Nat.ble_eq_true_of_le hb
    have g5 : Nat.ble (l.length + vs.length) 17592186044416 = true := Nat.ble_eq_true_of_le hb2
    have hll : (l.flatMap f ++ rest).length = l.length * sz + rest.length := by rw [List.length_append, flat_len hf]
    by_cases hfit : (l.length + vs.length) * sz ≤ (l.flatMap f ++ rest).length
    · have g6 : Nat.ble (0 + (l.length + vs.length) * sz) (l.flatMap f ++ rest).length = true := Nat.ble_eq_true_of_le (by omega)
      have g7 : Nat.ble (0 + l.length * sz + vs.length * sz) (l.flatMap f ++ rest).length = true := Nat.ble_eq_true_of_le (by rw [Nat.add_mul] at hfit; omega)
      have hcs : (l.flatMap f ++ rest).take (0 + l.length * sz) ++ (vs.flatMap f ++ (l.flatMap f ++ rest).drop (0 + l.length * sz + vs.length * sz)) = (l ++ vs).flatMap f ++ rest.drop (vs.length * sz) := by
        rw [Nat.zero_add, List.take_append_of_le_length (by rw [flat_len hf]; exact Nat.le_refl _), List.take_of_length_le (by rw [flat_len hf]; exact Nat.le_refl _), List.flatMap_append, List.append_assoc]
        congr 2
        rw [← List.drop_drop, List.drop_left' (flat_len hf l)]
      refine ⟨⟨some ⟨b, 0, none⟩, l.length + vs.length, inex⟩, S.upd b (.cells ((l ++ vs).flatMap f ++ rest.drop (vs.length * sz)) (some sz) false none), ?_, hk _ _ (.inr ⟨b, rest.drop (vs.length * sz), hbN, ?_, upd_at hat, by rw [List.length_append, List.length_drop]; rw [hll] at hfit; rw [Nat.add_mul] at hfit ⊢; omega⟩) (upd_mod.mono fun c hc _ => by subst hc; exact ⟨hbN, rfl⟩) (.inl rfl)⟩
      · simp only [appendD, hst, he, hxt, hxd, cond_true, hz, Option.bind_some, hn, hds, hx, g1, g2, g3, g4, g5, Bool.and_true, hbz, cond_false, TT.enc, Ty.enc, Sc.enc, Nat.beq_refl, hat.get, g6, g7, Bool.not_false, hone, St.fzOk, St.storeN, hfl, Bool.true_and, hcs, Option.map_some]
      · simp
    · have g6 : Nat.ble (0 + (l.length + vs.length) * sz) (l.flatMap f ++ rest).length = false := by
        rw [Bool.eq_false_iff]
        intro hh
        have := Nat.le_of_ble_eq_true hh
        omega
      have g7 : Nat.ble (0 + l.length * sz) (l.flatMap f ++ rest).length = true := Nat.ble_eq_true_of_le (by rw [hll]; omega)
      have g8 : ((l.flatMap f ++ rest).drop 0).take (l.length * sz) = l.flatMap f := by
        rw [List.drop_zero, List.take_append_of_le_length (by rw [flat_len hf]; exact Nat.le_refl _), List.take_of_length_le (by rw [flat_len hf]; exact Nat.le_refl _)]
      have hm : Mod (fun c => N ≤ c ∧ (some (⟨b, 0, none⟩ : Addr)) = some ⟨c, 0, none⟩) S ((S.upd b .dead).alloc (.cells (l.flatMap f ++ vs.flatMap f) (some sz) false none)).2 :=
        (upd_mod.mono fun c hc _ => by subst hc; exact ⟨hbN, rfl⟩).ext alloc_ext fun _ h => h.elim
      refine ⟨⟨some ⟨S.next, 0, none⟩, l.length + vs.length, inex⟩, ((S.upd b .dead).alloc (.cells (l.flatMap f ++ vs.flatMap f) (some sz) false none)).2, ?_, hk _ _ (.inr ⟨S.next, [], hN, ?_, ?_, by simpa using hb3⟩) hm (.inr ⟨_, rfl, Nat.le_refl _⟩)⟩
      · simp only [appendD, hst, he, hxt, hxd, cond_true, hz, Option.bind_some, hn, hds, hx, g1, g2, g3, g4, g5, Bool.and_true, hbz, cond_false, TT.enc, Ty.enc, Sc.enc, Nat.beq_refl, hat.get, g6, g7, Bool.not_false, hone, St.fzOk, g8, Option.map_none]
      · simp
      · rw [List.flatMap_append, List.append_nil]; exact alloc_at
/-- s[lo:hi] of a slice that grows. -/
theorem sliceD_grow {E : Env} {S : St} {t e sz : Nat} {b o len lo hi : Nat} {cs : List Value} {ro : Bool} {fz : Option (Nat × Nat)} (ht : E.und t = some (.slice e)) (he : E.size e = some sz) (hat : At S b (.cells cs (some sz) ro fz)) {vl vh : Option Value}
    (hl : optNat (some 0) vl = some lo) (hh : optNat (some len) vh = some hi) (h1 : lo ≤ hi) (h2 : hi ≤ Nat.max len (roomD S b o sz)) (h3 : Nat.max len (roomD S b o sz) < inex) :
    sliceD E S t (.slice (some ⟨b, o, none⟩) len inex) vl vh none = some (.slice (some ⟨b, o + lo * sz, none⟩) (hi - lo) inex) := by
  have hk : kcapD S sz (some ⟨b, o, none⟩) len inex = Nat.max len (roomD S b o sz) := by
    unfold kcapD
    rw [Nat.beq_refl]; rfl
  have hm : moreIs S b sz = true := by simp only [moreIs, hat.get, Nat.beq_refl]
  have hx : optNat (some (Nat.max len (roomD S b o sz))) none = some (Nat.max len (roomD S b o sz)) := rfl
  simp only [sliceD, ht, he, Option.bind_some, hk, hx, Option.isNone_none, cond_true, hh, hl, Nat.ble_eq_true_of_le (Nat.le_refl _), Nat.ble_eq_true_of_le h2, Nat.ble_eq_true_of_le h1, Nat.blt_eq.mpr h3, Bool.and_true, Nat.beq_refl, hm]
/-- s[lo:hi:mx] of a slice that grows. -/
theorem sliceD_grow3 {E : Env} {S : St} {t e sz : Nat} {b o len lo hi mx : Nat} {cs : List Value} {ro : Bool} {fz : Option (Nat × Nat)} (ht : E.und t = some (.slice e)) (he : E.size e = some sz) (hat : At S b (.cells cs (some sz) ro fz)) {vl vh vm : Option Value} (hv : vm.isNone = false)
    (hl : optNat (some 0) vl = some lo) (hh : optNat none vh = some hi) (hm : optNat (some (Nat.max len (roomD S b o sz))) vm = some mx) (h1 : lo ≤ hi) (h2 : hi ≤ mx) (h3 : mx ≤ Nat.max len (roomD S b o sz)) (h4 : mx < inex) :
    sliceD E S t (.slice (some ⟨b, o, none⟩) len inex) vl vh vm = some (.slice (some ⟨b, cond (Nat.beq mx lo) o (o + lo * sz), none⟩) (hi - lo) (mx - lo)) := by
  have hk : kcapD S sz (some ⟨b, o, none⟩) len inex = Nat.max len (roomD S b o sz) := by
    unfold kcapD
    rw [Nat.beq_refl]; rfl
  simp only [sliceD, ht, he, Option.bind_some, hk, hm, hv, cond_false, hh, hl, Nat.ble_eq_true_of_le h3, Nat.ble_eq_true_of_le h2, Nat.ble_eq_true_of_le h1, Nat.blt_eq.mpr h4, Bool.and_true, cond_true, Bool.and_false]
theorem roomD_at {S : St} {b o sz : Nat} {cs : List Value} {ro : Bool} {fz : Option (Nat × Nat)} (hat : At S b (.cells cs (some sz) ro fz)) (hsz : 0 < sz) : roomD S b o sz = (cs.length - o) / sz := by
  have h : Nat.blt 0 sz = true := Nat.blt_eq.mpr hsz
  simp only [roomD, hat.get, Nat.beq_refl, h, Bool.and_true, cond_true]
theorem Mod.slOfN {α : Type} {f : α → List Value} {sz : Nat} {F : Nat → Prop} {S S' : St} {s : Sl} {l : List α} (h : Mod F S S') (hs : SlOf f sz S s l) (hn : l ≠ [] → ∀ b o, s.a = some ⟨b, o, none⟩ → b < S.next → ¬ F b) : SlOf f sz S' s l :=
  ⟨hs.len, fun hl => let ⟨b, o, cs, more, ro, fz, h1, h2, h3⟩ := hs.mem hl; ⟨b, o, cs, more, ro, fz, h1, h.at h2 (hn hl b o h1 h2.lt), h3⟩⟩
/-- The same blocks, told from here on .. -/
theorem Hld.re {F : Nat → Prop} {S0 S : St} {L : List (Nat × DObj)} (h : Hld F S0 S L) : Hld (fun c => c ∈ L.map (·.1)) S S L :=
  ⟨Mod.refl _ _, fun p hp => ⟨(h.all p hp).1, .inr (List.mem_map_of_mem hp)⟩, h.dis⟩
/-- .. and back. -/
theorem Hld.back {F : Nat → Prop} {S0 S S' : St} {L : List (Nat × DObj)} (h : Hld F S0 S L) (m : Mod (fun c => c ∈ L.map (·.1)) S S') : Mod F S0 S' :=
  h.mod.trans m fun b hb hlt => by
    obtain ⟨p, hp, rfl⟩ := List.mem_map.1 hb
    rcases (h.all p hp).2 with h1 | h1
    · omega
    · exact h1
end
end Go.Proofs.Ytcookjolkhcjhaa.D
