/- Parts of the proof, put together. -/
import Derived.Test.YtcdignblakejoaaRA
/- Shelves: the plain law: a list of records, rising. -/
namespace Go.Proofs.Ytcdignblakejoaa
open Go Go.Proofs.Ytcdignblakejoaa.D
set_option linter.unusedVariables false
set_option linter.unusedSimpArgs false
noncomputable section

abbrev Dt := List UInt8
abbrev Im := Pr × Dt
def kLt (a b : Pr) : Prop := a.1 < b.1 ∨ (a.1 = b.1 ∧ a.2 < b.2)
instance (a b : Pr) : Decidable (kLt a b) := by unfold kLt; infer_instance
theorem kLt_trans {a b c : Pr} (h1 : kLt a b) (h2 : kLt b c) : kLt a c := by unfold kLt at *; omega
theorem kLt_irrefl {a : Pr} : ¬ kLt a a := by unfold kLt; omega
theorem kLt_tri {a b : Pr} : kLt a b ∨ a = b ∨ kLt b a := by
  obtain ⟨a1, a2⟩ := a
  obtain ⟨b1, b2⟩ := b
  unfold kLt
  by_cases h : a1 = b1 ∧ a2 = b2
  · exact .inr (.inl (by rw [h.1, h.2]))
  · by_cases h1 : a1 < b1
    · exact .inl (.inl h1)
    · by_cases h2 : b1 < a1
      · exact .inr (.inr (.inl h2))
      · dsimp only; omega
theorem kLt_ne {a b : Pr} (h : kLt a b) : a ≠ b := fun e => by subst e; exact kLt_irrefl h
def sortS (L : List Im) : Prop := L.Pairwise fun a b => kLt a.1 b.1
theorem sortS_nil : sortS [] := .nil
theorem sortS_same : ∀ {l l' : List Im}, sortS l → sortS l' → (∀ c, c ∈ l ↔ c ∈ l') → l = l'
  | [], [], _, _, _ => rfl
  | [], y :: t, _, _, hm => absurd ((hm y).2 (by simp)) (by simp)
  | x :: t, [], _, _, hm => absurd ((hm x).1 (by simp)) (by simp)
  | x :: t, y :: t', h, h', hm => by
    unfold sortS at h h'
    rw [List.pairwise_cons] at h h'
    have hxy : x = y := by
      rcases List.mem_cons.1 ((hm x).1 (by simp)) with e | e
      · exact e
      rcases List.mem_cons.1 ((hm y).2 (by simp)) with e' | e'
      · exact e'.symm
      exact (kLt_irrefl (kLt_trans (h.1 y e') (h'.1 x e))).elim
    subst hxy
    congr 1
    refine sortS_same h.2 h'.2 fun c => ?_
    constructor
    · intro hc
      rcases List.mem_cons.1 ((hm c).1 (List.mem_cons_of_mem _ hc)) with e | e
      · subst e; exact (kLt_irrefl (h.1 c hc)).elim
      · exact e
    · intro hc
      rcases List.mem_cons.1 ((hm c).2 (List.mem_cons_of_mem _ hc)) with e | e
      · subst e; exact (kLt_irrefl (h'.1 c hc)).elim
      · exact e
theorem sortS_keys {L : List Im} (h : sortS L) {x y : Im} (hx : x ∈ L) (hy : y ∈ L) (e : x.1 = y.1) : x = y := by
  induction L with
  | nil => simp at hx
  | cons a t ih =>
    unfold sortS at h
    rw [List.pairwise_cons] at h
    rcases List.mem_cons.1 hx with hx1 | hx1 <;> rcases List.mem_cons.1 hy with hy1 | hy1
    · rw [hx1, hy1]
    · subst hx1; exact (kLt_ne (h.1 y hy1) e).elim
    · subst hy1; exact (kLt_ne (h.1 x hx1) e.symm).elim
    · exact ih h.2 hx1 hy1
theorem sortS_nodup {L : List Im} (h : sortS L) : (L.map Prod.fst).Nodup := by
  unfold List.Nodup
  rw [List.pairwise_map]
  exact h.imp fun h => kLt_ne h
/-- The document's Write. -/
def wrA (k : Pr) (d : Dt) : Bool → List Im → List Im
  | done, [] => if done then [] else [(k, d)]
  | done, x :: t =>
    if done = false ∧ kLt k x.1 then (k, d) :: x :: wrA k d true t
    else if x.1 = k then (if done then wrA k d true t else (k, d) :: wrA k d true t)
    else x :: wrA k d done t
def putS (L : List Im) (k : Pr) (d : Dt) : List Im := wrA k d (decide (d = [])) L
theorem wrA_true (k : Pr) (d : Dt) : ∀ L, wrA k d true L = L.filter fun x => decide (x.1 ≠ k)
  | [] => rfl
  | x :: t => by
    unfold wrA
    rw [if_neg (by simp), wrA_true k d t]
    by_cases h : x.1 = k
    · rw [if_pos h, if_pos rfl, List.filter_cons_of_neg (by simp [h])]
    · rw [if_neg h, List.filter_cons_of_pos (by simp [h])]
theorem wrA_mem (k : Pr) (d : Dt) : ∀ (done : Bool) (L : List Im) (x : Im), x ∈ wrA k d done L ↔ (done = false ∧ x = (k, d)) ∨ (x ∈ L ∧ x.1 ≠ k)
  | done, [], x => by
    unfold wrA
    cases done <;> simp
  | true, y :: t, x => by
    rw [wrA_true, List.mem_filter]
    simp
  | false, y :: t, x => by
    unfold wrA
    have ih := wrA_mem k d false t x
    by_cases h1 : kLt k y.1
    · rw [if_pos ⟨rfl, h1⟩, List.mem_cons, List.mem_cons, wrA_true, List.mem_filter, List.mem_cons]
      have : y.1 ≠ k := fun e => kLt_ne h1 e.symm
      constructor
      · rintro (h | rfl | ⟨h, h'⟩)
        · exact .inl ⟨rfl, h⟩
        · exact .inr ⟨.inl rfl, this⟩
        · exact .inr ⟨.inr h, by simpa using h'⟩
      · rintro (⟨_, h⟩ | ⟨rfl | h, h'⟩)
        · exact .inl h
        · exact .inr (.inl rfl)
        · exact .inr (.inr ⟨h, by simpa using h'⟩)
    · rw [if_neg (by simp [h1])]
      by_cases h2 : y.1 = k
      · rw [if_pos h2]
        simp only [Bool.false_eq_true, if_false]
        rw [List.mem_cons, wrA_true, List.mem_filter, List.mem_cons]
        constructor
        · rintro (h | ⟨h, h'⟩)
          · exact .inl ⟨trivial, h⟩
          · exact .inr ⟨.inr h, by simpa using h'⟩
        · rintro (⟨_, h⟩ | ⟨rfl | h, h'⟩)
          · exact .inl h
          · exact (h' h2).elim
          · exact .inr ⟨h, by simpa using h'⟩
      · rw [if_neg h2, List.mem_cons, ih, List.mem_cons]
        constructor
        · rintro (rfl | ⟨_, h⟩ | ⟨h, h'⟩)
          · exact .inr ⟨.inl rfl, h2⟩
          · exact .inl ⟨rfl, h⟩
          · exact .inr ⟨.inr h, h'⟩
        · rintro (⟨_, h⟩ | ⟨rfl | h, h'⟩)
          · exact .inr (.inl ⟨rfl, h⟩)
          · exact .inl rfl
          · exact .inr (.inr ⟨h, h'⟩)
theorem wrA_sort (k : Pr) (d : Dt) : ∀ (done : Bool) (L : List Im), sortS L → sortS (wrA k d done L)
  | true, L, h => by rw [wrA_true]; exact h.filter _
  | false, [], _ => by unfold wrA; simp [sortS]
  | false, y :: t, h => by
    unfold sortS at h
    rw [List.pairwise_cons] at h
    unfold wrA
    by_cases h1 : kLt k y.1
    · rw [if_pos ⟨rfl, h1⟩, wrA_true]
      refine List.pairwise_cons.2 ⟨fun x hx => ?_, List.pairwise_cons.2 ⟨fun x hx => h.1 x (List.mem_filter.1 hx).1, h.2.filter _⟩⟩
      rcases List.mem_cons.1 hx with rfl | hx
      · exact h1
      · exact kLt_trans h1 (h.1 x (List.mem_filter.1 hx).1)
    · rw [if_neg (by simp [h1])]
      by_cases h2 : y.1 = k
      · rw [if_pos h2]
        simp only [Bool.false_eq_true, if_false]
        rw [wrA_true]
        exact List.pairwise_cons.2 ⟨fun x hx => by rw [← h2]; exact h.1 x (List.mem_filter.1 hx).1, h.2.filter _⟩
      · rw [if_neg h2]
        refine List.pairwise_cons.2 ⟨fun x hx => ?_, wrA_sort k d false t h.2⟩
        rcases (wrA_mem k d false t x).1 hx with ⟨_, rfl⟩ | ⟨hx, _⟩
        · rcases kLt_tri (a := k) (b := y.1) with h3 | h3 | h3
          · exact (h1 h3).elim
          · exact (h2 h3.symm).elim
          · exact h3
        · exact h.1 x hx
theorem putS_sort {L : List Im} (h : sortS L) (k : Pr) (d : Dt) : sortS (putS L k d) := wrA_sort k d _ L h
theorem putS_mem {L : List Im} {k : Pr} {d : Dt} {x : Im} : x ∈ putS L k d ↔ (d ≠ [] ∧ x = (k, d)) ∨ (x ∈ L ∧ x.1 ≠ k) := by
  unfold putS
  rw [wrA_mem]
  simp
theorem wrA_len (k : Pr) (d : Dt) : ∀ (done : Bool) (L : List Im), (wrA k d done L).length ≤ L.length + 1
  | true, L => by rw [wrA_true]; exact Nat.le_trans (List.length_filter_le _ _) (by omega)
  | false, [] => by unfold wrA; simp
  | false, y :: t => by
    unfold wrA
    by_cases h1 : kLt k y.1
    · rw [if_pos ⟨rfl, h1⟩, wrA_true]
      have := List.length_filter_le (fun x : Im => decide (x.1 ≠ k)) t
      simp only [List.length_cons]; omega
    · rw [if_neg (by simp [h1])]
      by_cases h2 : y.1 = k
      · rw [if_pos h2]
        simp only [Bool.false_eq_true, if_false]
        rw [wrA_true]
        have := List.length_filter_le (fun x : Im => decide (x.1 ≠ k)) t
        simp only [List.length_cons]; omega
      · rw [if_neg h2]
        have := wrA_len k d false t
        simp only [List.length_cons]; omega
theorem putS_len (L : List Im) (k : Pr) (d : Dt) : (putS L k d).length ≤ L.length + 1 := wrA_len k d _ L
theorem putS_fine {L : List Im} (h : ∀ x ∈ L, x.2 ≠ []) (k : Pr) (d : Dt) : ∀ x ∈ putS L k d, x.2 ≠ [] := by
  intro x hx
  rcases putS_mem.1 hx with ⟨h1, rfl⟩ | ⟨h1, _⟩
  · exact h1
  · exact h x h1
/-- May a record be? -/
def recOk (k : Pr) (d : Dt) : Prop := 0 ≤ k.1 ∧ k.1 ≤ 255 ∧ 0 ≤ k.2 ∧ k.2 ≤ 1024 ∧ d.length ≤ 1024
instance (k : Pr) (d : Dt) : Decidable (recOk k d) := by unfold recOk; infer_instance
/-- A write of any record. -/
def wrS (L : List Im) (x : Im) : List Im := if recOk x.1 x.2 then putS L x.1 x.2 else L
theorem wrS_sort {L : List Im} (h : sortS L) (x : Im) : sortS (wrS L x) := by
  unfold wrS; split
  · exact putS_sort h _ _
  · exact h
theorem wrS_fine {L : List Im} (h : ∀ x ∈ L, x.2 ≠ []) (y : Im) : ∀ x ∈ wrS L y, x.2 ≠ [] := by
  unfold wrS; split
  · exact putS_fine h _ _
  · exact h
theorem wrS_len (L : List Im) (x : Im) : (wrS L x).length ≤ L.length + 1 := by
  unfold wrS; split
  · exact putS_len _ _ _
  · omega
/-- The keys, sorted, are the list's. -/
theorem keys_sorted {L : List Im} (h : sortS L) {ks : List Pr} (hp : ks.Perm (L.map Prod.fst)) : sortP2 ks = L.map Prod.fst := by
  refine sortP2_sorted hp ?_
  rw [List.pairwise_map]
  exact h.imp fun h => by unfold kLt at h; simp only [leP, decide_eq_true_eq]; omega
/-- A record's bytes. -/
def encR (x : Im) : List UInt8 := [UInt8.ofNat (x.1.1.toNat % 256), UInt8.ofNat (x.1.2.toNat / 256), UInt8.ofNat (x.1.2.toNat % 256), UInt8.ofNat (x.2.length / 256), UInt8.ofNat (x.2.length % 256)] ++ x.2
end
end Go.Proofs.Ytcdignblakejoaa

/- Shelves: their maps. -/
namespace Go.Proofs.Ytcdignblakejoaa
open Go Go.Proofs.Ytcdignblakejoaa.D
set_option linter.unusedVariables false
set_option linter.unusedSimpArgs false
noncomputable section

/-! ### What a shelf's writes cannot touch -/
def isMapV : Value → Bool
  | .map _ => true
  | _ => false
/-- Boxes of maps, and maps. -/
def NB (S : St) (F : Nat → Prop) : Prop := ∀ c, F c → (∃ es clock, At S c (.map es clock)) ∨ ∃ mr, At S c (.cells [.map mr] none false none)
theorem NB.none {S : St} : NB S noB := fun c h => h.elim
theorem NB.cells {S : St} {F : Nat → Prop} (h : NB S F) {b : Nat} {cs : List Value} {more : Option Nat} {ro : Bool} {fz : Option (Nat × Nat)} (hat : At S b (.cells cs more ro fz)) (hF : F b) : ∃ mr, cs = [.map mr] := by
  rcases h b hF with ⟨es, clock, h1⟩ | ⟨mr, h1⟩
  · have := hat.get.symm.trans h1.get; cases this
  · have := hat.get.symm.trans h1.get; cases this; exact ⟨mr, rfl⟩
theorem slOf_nb {α : Type} {f : α → List Value} {sz : Nat} {F : Nat → Prop} {S S' : St} {s : Sl} {l : List α} (hm : ∀ x, ∀ v ∈ f x, isMapV v = false) (hf : ∀ x, (f x).length = sz) (hsz : 0 < sz) (h : SlOf f sz S s l) (hn : NB S F) (m : D.Mod F S S') : SlOf f sz S' s l := by
  refine m.slOfN h fun hl b o e _ hF => ?_
  obtain ⟨b', o', cs, more, ro, fz, ea, hat, hc⟩ := h.2 hl
  rw [ea] at e; cases e
  obtain ⟨mr, rfl⟩ := hn.cells hat hF
  obtain ⟨x, t, rfl⟩ : ∃ x t, l = x :: t := by
    cases l with
    | nil => exact (hl rfl).elim
    | cons x t => exact ⟨x, t, rfl⟩
  obtain ⟨v, r, hv⟩ : ∃ v r, f x = v :: r := by
    have := hf x
    cases hfx : f x with
    | nil => rw [hfx] at this; simp at this; omega
    | cons v r => exact ⟨v, r, rfl⟩
  have : Value.map mr = v := by
    have h2 := congrArg (fun l : List Value => l.head?) hc
    rw [List.flatMap_cons, hv] at h2
    simp only [List.cons_append, List.head?_cons] at h2
    have hmem : v ∈ ([Value.map mr].drop _).take ((x :: t).length * sz) := List.mem_of_mem_head? (by rw [h2]; rfl)
    have := List.mem_of_mem_drop (List.mem_of_mem_take hmem)
    exact (List.mem_singleton.1 this).symm
  have h3 := hm x v (by rw [hv]; simp)
  rw [← this] at h3
  cases h3
theorem by_nomap : ∀ c : UInt8, ∀ v ∈ byC c, isMapV v = false := by
  intro c v hv
  simp only [byC, List.mem_singleton] at hv
  subst hv; rfl
/-- Bytes that are read: of a known capacity, or one's own. -/
def Dat (S : St) (s : Sl) (d : Dt) : Prop := Bs S s d ∧ ((s.len ≤ s.cap ∧ s.cap < inex ∧ ∀ a, s.a = some a → a.spot = none) ∨ GB S s d)
theorem GB.dat {S : St} {s : Sl} {d : Dt} (h : GB S s d) : Dat S s d := ⟨h.of, .inr h⟩
theorem GB.nb {S S' : St} {s : Sl} {d : Dt} {F : Nat → Prop} (h : GB S s d) (hn : NB S F) (m : D.Mod F S S') (hd : d ≠ []) : GB S' s d := by
  rcases h with ⟨rfl, rfl⟩ | ⟨b, mk, hmk, rfl, hat⟩
  · exact (hd rfl).elim
  · refine .inr ⟨b, mk, hmk, rfl, m.at hat fun hF => ?_⟩
    obtain ⟨mr, e⟩ := hn.cells hat hF
    cases d with
    | nil => exact hd rfl
    | cons c t => simp only [List.map_cons, List.cons.injEq] at e; cases e.1
theorem GB.ext {S S' : St} {s : Sl} {d : Dt} (h : GB S s d) (e : Ext S S') : GB S' s d := by
  rcases h with h | ⟨b, mk, hmk, rfl, hat⟩
  · exact .inl h
  · exact .inr ⟨b, mk, hmk, rfl, e.at hat⟩
theorem Dat.spot {S : St} {s : Sl} {d : Dt} (h : Dat S s d) : ∀ a, s.a = some a → a.spot = none := by
  rcases h.2 with h2 | ⟨rfl, rfl⟩ | ⟨b, mk, hmk, rfl, hat⟩
  · exact h2.2.2
  · intro a h; cases h
  · intro a h; cases h; rfl
theorem Dat.ext {S S' : St} {s : Sl} {d : Dt} (h : Dat S s d) (e : Ext S S') : Dat S' s d := ⟨e.slOf h.1, h.2.imp id fun h => h.ext e⟩
theorem Dat.nil {S : St} : Dat S ⟨none, 0, 0⟩ [] := GB.nil.dat
theorem Dat.nb {S S' : St} {s : Sl} {d : Dt} {F : Nat → Prop} (h : Dat S s d) (hn : NB S F) (m : D.Mod F S S') : Dat S' s d := by
  refine ⟨slOf_nb by_nomap (fun _ => rfl) (by omega) h.1 hn m, ?_⟩
  rcases h.2 with h2 | h2
  · exact .inl h2
  · by_cases hd : d = []
    · subst hd
      rcases h2 with ⟨_, rfl⟩ | ⟨b, mk, hmk, rfl, hat⟩
      · exact .inr (.inl ⟨rfl, rfl⟩)
      · by_cases hF : F b
        · obtain ⟨mr, e⟩ := hn.cells hat hF; cases e
        · exact .inr (.inr ⟨b, mk, hmk, rfl, m.at hat hF⟩)
    · exact .inr (h2.nb hn m hd)
/-! ### A map of keys that are pairs -/
abbrev En := Pr × Sl × Dt × Nat
def mkE (x : En) : MapEntry := { key := prV x.1, val := .slice x.2.1.a x.2.1.len x.2.1.cap, born := x.2.2.2 }
def kdE (x : En) : Im := (x.1, x.2.2.1)
theorem keyEq_pr {S : St} {a b : Pr} : keyEq E0 S 68 (prV a) (prV b) = some (decide (a = b)) := by
  have h1 : eqD E0 S 2 3 (.int .i64 a.1) (.int .i64 b.1) = some (decide (a.1 = b.1)) := (show _ = some (decide (a.1 = b.1)) by kernel_rfl)
  have h2 : eqD E0 S 2 3 (.int .i64 a.2) (.int .i64 b.2) = some (decide (a.2 = b.2)) := (show _ = some (decide (a.2 = b.2)) by kernel_rfl)
  refine (show _ = (eqD E0 S 2 3 (.int .i64 a.1) (.int .i64 b.1)).bind (fun e => cond e ((eqD E0 S 2 3 (.int .i64 a.2) (.int .i64 b.2)).bind fun e => cond e (some true) (some false)) (some false)) by kernel_rfl).trans ?_
  rw [h1, h2]
  obtain ⟨a1, a2⟩ := a
  obtain ⟨b1, b2⟩ := b
  by_cases e1 : a1 = b1 <;> by_cases e2 : a2 = b2 <;> simp [e1, e2]
theorem findD_pr {S : St} {k : Pr} : ∀ (E : List En) (i : Nat), (findD E0 S 68 (prV k) (E.map mkE) i = some none ∧ ∀ x ∈ E, x.1 ≠ k) ∨
    ∃ (A : List En) (x : En) (B : List En), E = A ++ x :: B ∧ findD E0 S 68 (prV k) (E.map mkE) i = some (some (i + A.length, mkE x)) ∧ x.1 = k ∧ ∀ y ∈ A, y.1 ≠ k
  | [], i => .inl ⟨rfl, by simp⟩
  | e :: E, i => by
    have hs : findD E0 S 68 (prV k) ((e :: E).map mkE) i = (keyEq E0 S 68 (prV k) (prV e.1)).bind fun b => cond b (some (some (i, mkE e))) (findD E0 S 68 (prV k) (E.map mkE) (i + 1)) := rfl
    rw [hs, keyEq_pr, Option.bind_some]
    by_cases h : k = e.1
    · rw [decide_eq_true h, cond_true]
      exact .inr ⟨[], e, E, rfl, rfl, h.symm, by simp⟩
    · rw [decide_eq_false h, cond_false]
      rcases findD_pr (S := S) (k := k) E (i + 1) with ⟨h1, h2⟩ | ⟨A, x, B, h1, h2, h3, h4⟩
      · refine .inl ⟨h1, fun x hx => ?_⟩
        rcases List.mem_cons.1 hx with rfl | hx
        · exact fun e => h e.symm
        · exact h2 x hx
      · refine .inr ⟨e :: A, x, B, by rw [h1]; rfl, ?_, h3, fun y hy => ?_⟩
        · rw [h2, List.length_cons, show i + 1 + A.length = i + (A.length + 1) by omega]
        · rcases List.mem_cons.1 hy with rfl | hy
          · exact fun e => h e.symm
          · exact h4 y hy
theorem und36 : E0.und 36 = some (.map 68 40) := by kernel_rfl
theorem key68 (k : Pr) : keyType E0 68 (prV k) = true := by kernel_rfl
theorem zero40 : E0.zero 40 = some (.slice none 0 0) := by kernel_rfl
/-- What a map has. -/
structure MapS (S : St) (E : List En) (clock : Nat) (L : List Im) : Prop where
  perm : (E.map kdE).Perm L
  dat : ∀ x ∈ E, GB S x.2.1 x.2.2.1
  born : ∀ x ∈ E, x.2.2.2 < clock
  nd : (E.map fun x => x.2.2.2).Nodup
theorem MapS.bornOk {S : St} {E : List En} {clock : Nat} {L : List Im} (h : MapS S E clock L) : bornOk (E.map mkE) clock = true := by
  unfold D.bornOk
  simp only [Bool.and_eq_true, List.all_eq_true, Nat.blt_eq, decide_eq_true_eq]
  refine ⟨fun e he => ?_, ?_⟩
  · obtain ⟨x, hx, rfl⟩ := List.mem_map.1 he
    exact h.born x hx
  · have := h.nd
    rw [List.map_map]
    exact this
structure ShAt (S : St) (sb : Nat) (mr : Option Nat) (L : List Im) : Prop where
  box : At S sb (.cells [.map mr] none false none)
  srt : sortS L
  fine : ∀ x ∈ L, x.2 ≠ []
  map : (mr = none ∧ L = []) ∨ ∃ mb E clock, mr = some mb ∧ At S mb (.map (E.map mkE) clock) ∧ MapS S E clock L
/-- The blocks of a shelf. -/
def shF (sb : Nat) (mr : Option Nat) (c : Nat) : Prop := c = sb ∨ mr = some c
theorem ShAt.nb {S : St} {sb : Nat} {mr : Option Nat} {L : List Im} (h : ShAt S sb mr L) : NB S (shF sb mr) := by
  rintro c (rfl | hc)
  · exact .inr ⟨mr, h.box⟩
  · rcases h.map with ⟨rfl, _⟩ | ⟨mb, E, clock, rfl, hat, _⟩
    · cases hc
    · cases hc; exact .inl ⟨_, _, hat⟩
theorem MapS.mono {S S' : St} {E : List En} {clock : Nat} {L : List Im} (h : MapS S E clock L) (hd : ∀ x ∈ E, GB S x.2.1 x.2.2.1 → GB S' x.2.1 x.2.2.1) : MapS S' E clock L := ⟨h.perm, fun x hx => hd x hx (h.dat x hx), h.born, h.nd⟩
theorem ShAt.ext {S S' : St} {sb : Nat} {mr : Option Nat} {L : List Im} (h : ShAt S sb mr L) (e : Ext S S') : ShAt S' sb mr L := by
  refine ⟨e.at h.box, h.srt, h.fine, ?_⟩
  rcases h.map with h1 | ⟨mb, E, clock, h1, h2, h3⟩
  · exact .inl h1
  · exact .inr ⟨mb, E, clock, h1, e.at h2, h3.mono fun x _ hg => hg.ext e⟩
/-- Another shelf's writes. -/
theorem ShAt.mod {S S' : St} {sb : Nat} {mr : Option Nat} {L : List Im} (h : ShAt S sb mr L) {F : Nat → Prop} (hn : NB S F) (m : D.Mod F S S') (hF : ∀ c, shF sb mr c → ¬ F c) : ShAt S' sb mr L := by
  refine ⟨m.at h.box (hF sb (.inl rfl)), h.srt, h.fine, ?_⟩
  rcases h.map with h1 | ⟨mb, E, clock, rfl, h2, h3⟩
  · exact .inl h1
  · refine .inr ⟨mb, E, clock, rfl, m.at h2 (hF mb (.inr rfl)), h3.mono fun x hx hg => hg.nb hn m ?_⟩
    exact h.fine (kdE x) (h3.perm.mem_iff.1 (List.mem_map.2 ⟨x, hx, rfl⟩))
theorem ShAt.keys {S : St} {sb mb : Nat} {L : List Im} {E : List En} {clock : Nat} (hs : sortS L) (h : MapS S E clock L) : (E.map fun x => x.1).Nodup := by
  have h1 : ((E.map kdE).map Prod.fst).Perm (L.map Prod.fst) := h.perm.map _
  have h2 := h1.nodup_iff.2 (sortS_nodup hs)
  rw [List.map_map] at h2
  exact h2
theorem perm_of_mem {α : Type} [DecidableEq α] : ∀ {l l' : List α}, l.Nodup → l'.Nodup → (∀ x, x ∈ l ↔ x ∈ l') → l.Perm l'
  | [], [], _, _, _ => .nil
  | [], y :: t, _, _, h => absurd ((h y).2 (by simp)) (by simp)
  | x :: t, l', h, h', hm => by
    have hx : x ∈ l' := (hm x).1 (by simp)
    refine ((perm_of_mem (List.nodup_cons.1 h).2 (h'.erase x) fun y => ?_).cons x).trans (List.perm_cons_erase hx).symm
    rw [h'.mem_erase_iff, ← hm y, List.mem_cons]
    constructor
    · intro hy
      exact ⟨fun e => (List.nodup_cons.1 h).1 (e ▸ hy), .inr hy⟩
    · rintro ⟨h1, h2 | h2⟩
      · exact (h1 h2).elim
      · exact h2
theorem nodup_kd {L : List Im} (h : sortS L) : L.Nodup := by
  unfold List.Nodup
  exact List.Pairwise.imp (fun {a b} hab (e : a = b) => kLt_ne hab (by rw [e])) h
/-! ### Operations -/
section
variable {S : St} {mb : Nat} {E : List En} {clock : Nat} {L : List Im}
theorem lookup_pr (hat : At S mb (.map (E.map mkE) clock)) (h : MapS S E clock L) (k : Pr) (b : Bool) :
    (lookupD E0 S 36 (.map (some mb)) (prV k) b = some (cond b (.tuple #[.slice none 0 0, .bool false]) (.slice none 0 0)) ∧ ∀ x ∈ L, x.1 ≠ k) ∨
    ∃ sl d, lookupD E0 S 36 (.map (some mb)) (prV k) b = some (cond b (.tuple #[.slice sl.a sl.len sl.cap, .bool true]) (.slice sl.a sl.len sl.cap)) ∧ (k, d) ∈ L ∧ GB S sl d := by
  rcases findD_pr (S := S) (k := k) E 0 with ⟨g1, g2⟩ | ⟨A, x, B, e1, g1, g2, g3⟩
  · refine .inl ⟨?_, fun x hx e => ?_⟩
    · simp only [lookupD, und36, key68, cond_true, hat.get, g1, Option.bind_some, zero40, Option.map_some]
    · obtain ⟨y, hy, rfl⟩ := List.mem_map.1 (h.perm.mem_iff.2 hx)
      exact g2 y hy e
  · refine .inr ⟨x.2.1, x.2.2.1, ?_, ?_, h.dat x (by rw [e1]; simp)⟩
    · simp only [lookupD, und36, key68, cond_true, hat.get, g1, Option.bind_some, Option.map_some]
      rfl
    · refine h.perm.mem_iff.1 (List.mem_map.2 ⟨x, by rw [e1]; simp, ?_⟩)
      unfold kdE; rw [g2]
theorem update_pr (hat : At S mb (.map (E.map mkE) clock)) (hs : sortS L) (h : MapS S E clock L) (k : Pr) {sl : Sl} {d : Dt} (hd : d ≠ []) (hg : GB S sl d) {K : St → Prop}
    (hK : ∀ E' clock' S', At S' mb (.map (E'.map mkE) clock') → MapS S' E' clock' (putS L k d) → D.Mod (fun c => c = mb) S S' → S'.next = S.next → K S') : evS (mapUpdateD E0 S 36 (.map (some mb)) (prV k) (.slice sl.a sl.len sl.cap)) K := by
  have hbyt : ∀ {x : Sl} {y : Dt} {o : DObj}, GB S x y → (∀ x, o ≠ .cells x none false none) → GB (S.upd mb o) x y := fun {x y o} hg _ => by
    rcases hg with hg | ⟨b, mk, hmk, rfl, hb⟩
    · exact .inl hg
    · refine .inr ⟨b, mk, hmk, rfl, (upd_mod (S := S) (b := mb) (o := o)).at hb fun e => ?_⟩
      subst e
      have := hb.get.symm.trans hat.get; cases this
  have hkn := ShAt.keys (sb := 0) (mb := 0) hs h
  rcases findD_pr (S := S) (k := k) E 0 with ⟨g1, g2⟩ | ⟨A, x, B, e1, g1, g2, g3⟩
  · refine ⟨S.upd mb (.map ((E ++ [(k, sl, d, clock)]).map mkE) (clock + 1)), ?_, hK _ _ _ (upd_at hat) ⟨?_, ?_, ?_, ?_⟩ upd_mod rfl⟩
    · simp only [mapUpdateD, und36, key68, cond_true, mapPut, hat.get, g1, Option.bind_some, List.map_append, List.map_singleton]
      rfl
    · refine perm_of_mem ?_ (nodup_kd (putS_sort hs k d)) fun y => ?_
      · rw [List.map_append, List.map_singleton, List.nodup_append]
        refine ⟨h.perm.nodup_iff.2 (nodup_kd hs), by simp, ?_⟩
        rintro a ha b hb rfl
        rw [List.mem_singleton] at hb
        obtain ⟨z, hz, rfl⟩ := List.mem_map.1 ha
        exact g2 z hz (congrArg Prod.fst hb)
      · rw [List.map_append, List.map_singleton, List.mem_append, List.mem_singleton, putS_mem, h.perm.mem_iff]
        constructor
        · rintro (hy | rfl)
          · refine .inr ⟨hy, fun e => ?_⟩
            obtain ⟨z, hz, rfl⟩ := List.mem_map.1 (h.perm.mem_iff.2 hy)
            exact g2 z hz e
          · exact .inl ⟨hd, rfl⟩
        · rintro (⟨_, rfl⟩ | ⟨hy, _⟩)
          · exact .inr rfl
          · exact .inl hy
    · intro y hy
      rcases List.mem_append.1 hy with hy | hy
      · exact hbyt (h.dat y hy) (by simp)
      · rw [List.mem_singleton] at hy; subst hy; exact hbyt hg (by simp)
    · intro y hy
      rcases List.mem_append.1 hy with hy | hy
      · have := h.born y hy; omega
      · rw [List.mem_singleton] at hy; subst hy; show clock < clock + 1; omega
    · rw [List.map_append, List.map_singleton, List.nodup_append]
      refine ⟨h.nd, by simp, ?_⟩
      rintro a ha b hb rfl
      rw [List.mem_singleton] at hb
      obtain ⟨z, hz, rfl⟩ := List.mem_map.1 ha
      have := h.born z hz
      have hb' : z.2.2.2 = clock := hb
      omega
  · subst e1
    rw [List.map_append, List.map_cons, List.nodup_append, List.nodup_cons] at hkn
    obtain ⟨hnA, ⟨hnx, hnB⟩, hAB⟩ := hkn
    have hxB : ∀ y ∈ B, y.1 ≠ k := fun y hy (e : y.1 = k) => hnx (List.mem_map.2 ⟨y, hy, by rw [e, g2]⟩)
    have hmod : ((A ++ x :: B).map mkE).modify A.length (fun e => { e with key := prV k, val := .slice sl.a sl.len sl.cap }) = (A ++ (k, sl, d, x.2.2.2) :: B).map mkE := by
      rw [List.map_append, List.map_append, List.map_cons, List.map_cons]
      have : (A.map mkE).length = A.length := by simp
      rw [← this, List.modify_eq_take_drop, List.take_left, List.drop_left]
      rfl
    refine ⟨S.upd mb (.map ((A ++ (k, sl, d, x.2.2.2) :: B).map mkE) clock), ?_, hK _ _ _ (upd_at hat) ⟨?_, ?_, ?_, ?_⟩ upd_mod rfl⟩
    · have hsb : Instr.sameBits 10000 (mkE x).key (prV k) = true := by
        show Instr.sameBits 10000 (prV x.1) (prV k) = true
        rw [g2]
        simp [Instr.sameBits, prV]
      rw [Nat.zero_add] at g1
      simp only [mapUpdateD, und36, key68, cond_true, mapPut, hat.get, g1, Option.bind_some, hsb, hmod]
    · have hpn : ((A ++ x :: B).map kdE).Nodup := h.perm.nodup_iff.2 (nodup_kd hs)
      refine perm_of_mem ?_ (nodup_kd (putS_sort hs k d)) fun y => ?_
      · rw [List.map_append, List.map_cons, List.nodup_append, List.nodup_cons] at hpn ⊢
        refine ⟨hpn.1, ⟨fun hm => ?_, hpn.2.1.2⟩, fun a ha b hb => ?_⟩
        · obtain ⟨z, hz, e⟩ := List.mem_map.1 hm
          exact hxB z hz (congrArg Prod.fst e)
        · rcases List.mem_cons.1 hb with rfl | hb
          · rintro rfl
            obtain ⟨z, hz, e⟩ := List.mem_map.1 ha
            exact g3 z hz (congrArg Prod.fst e)
          · exact hpn.2.2 a ha b (List.mem_cons_of_mem _ hb)
      · have hL : ∀ y, y ∈ L ↔ y ∈ A.map kdE ∨ y = kdE x ∨ y ∈ B.map kdE := fun y => by
          rw [← h.perm.mem_iff, List.map_append, List.map_cons, List.mem_append, List.mem_cons]
        rw [putS_mem, hL, List.map_append, List.map_cons, List.mem_append, List.mem_cons]
        constructor
        · rintro (hy | rfl | hy)
          · refine .inr ⟨.inl hy, ?_⟩
            obtain ⟨z, hz, rfl⟩ := List.mem_map.1 hy
            exact g3 z hz
          · exact .inl ⟨hd, rfl⟩
          · refine .inr ⟨.inr (.inr hy), ?_⟩
            obtain ⟨z, hz, rfl⟩ := List.mem_map.1 hy
            exact hxB z hz
        · rintro (⟨_, rfl⟩ | ⟨hy | rfl | hy, hk⟩)
          · exact .inr (.inl rfl)
          · exact .inl hy
          · exact (hk g2).elim
          · exact .inr (.inr hy)
    · intro y hy
      rcases List.mem_append.1 hy with hy | hy
      · exact hbyt (h.dat y (by simp [hy])) (by simp)
      · rcases List.mem_cons.1 hy with rfl | hy
        · exact hbyt hg (by simp)
        · exact hbyt (h.dat y (by simp [hy])) (by simp)
    · intro y hy
      rcases List.mem_append.1 hy with hy | hy
      · exact h.born y (by simp [hy])
      · rcases List.mem_cons.1 hy with rfl | hy
        · exact h.born x (by simp)
        · exact h.born y (by simp [hy])
    · have := h.nd
      rw [List.map_append, List.map_cons] at this ⊢
      exact this
theorem delete_pr (hat : At S mb (.map (E.map mkE) clock)) (hs : sortS L) (h : MapS S E clock L) (k : Pr) {K : St → Prop}
    (hK : ∀ E' S', At S' mb (.map (E'.map mkE) clock) → MapS S' E' clock (putS L k []) → D.Mod (fun c => c = mb) S S' → S'.next = S.next → K S') : evS (deleteD E0 S 36 (.map (some mb)) (prV k)) K := by
  have hbyt : ∀ {x : Sl} {y : Dt} {o : DObj}, GB S x y → GB (S.upd mb o) x y := fun {x y o} hg => by
    rcases hg with hg | ⟨b, mk, hmk, rfl, hb⟩
    · exact .inl hg
    · refine .inr ⟨b, mk, hmk, rfl, (upd_mod (S := S) (b := mb) (o := o)).at hb fun e => ?_⟩
      subst e
      have := hb.get.symm.trans hat.get; cases this
  have hkn := ShAt.keys (sb := 0) (mb := 0) hs h
  rcases findD_pr (S := S) (k := k) E 0 with ⟨g1, g2⟩ | ⟨A, x, B, e1, g1, g2, g3⟩
  · refine ⟨S.upd mb (.map (E.map mkE) clock), ?_, hK E _ (upd_at hat) ⟨?_, fun y hy => hbyt (h.dat y hy), h.born, h.nd⟩ upd_mod rfl⟩
    · simp only [deleteD, und36, key68, cond_true, hat.get, g1, Option.map_some]
    · refine perm_of_mem (h.perm.nodup_iff.2 (nodup_kd hs)) (nodup_kd (putS_sort hs k [])) fun y => ?_
      rw [putS_mem, h.perm.mem_iff]
      constructor
      · intro hy
        refine .inr ⟨hy, fun e => ?_⟩
        obtain ⟨z, hz, rfl⟩ := List.mem_map.1 (h.perm.mem_iff.2 hy)
        exact g2 z hz e
      · rintro (⟨h1, _⟩ | ⟨hy, _⟩)
        · exact (h1 rfl).elim
        · exact hy
  · subst e1
    rw [List.map_append, List.map_cons, List.nodup_append, List.nodup_cons] at hkn
    obtain ⟨hnA, ⟨hnx, hnB⟩, hAB⟩ := hkn
    have hxB : ∀ y ∈ B, y.1 ≠ k := fun y hy (e : y.1 = k) => hnx (List.mem_map.2 ⟨y, hy, by rw [e, g2]⟩)
    have hmod : ((A ++ x :: B).map mkE).eraseIdx A.length = (A ++ B).map mkE := by
      have : (A.map mkE).length = A.length := by simp
      rw [List.map_append, List.map_append, List.map_cons, ← this, List.eraseIdx_eq_take_drop_succ, List.take_left]
      congr 1
      rw [List.drop_append, List.drop_of_length_le (by omega)]
      simp
    refine ⟨S.upd mb (.map ((A ++ B).map mkE) clock), ?_, hK _ _ (upd_at hat) ⟨?_, fun y hy => hbyt (h.dat y ?_), fun y hy => h.born y ?_, ?_⟩ upd_mod rfl⟩
    · rw [Nat.zero_add] at g1
      simp only [deleteD, und36, key68, cond_true, hat.get, g1, Option.map_some, hmod]
    · have hpn : ((A ++ x :: B).map kdE).Nodup := h.perm.nodup_iff.2 (nodup_kd hs)
      refine perm_of_mem ?_ (nodup_kd (putS_sort hs k [])) fun y => ?_
      · rw [List.map_append, List.map_cons, List.nodup_append, List.nodup_cons] at hpn
        rw [List.map_append, List.nodup_append]
        exact ⟨hpn.1, hpn.2.1.2, fun a ha b hb => hpn.2.2 a ha b (List.mem_cons_of_mem _ hb)⟩
      · have hL : ∀ y, y ∈ L ↔ y ∈ A.map kdE ∨ y = kdE x ∨ y ∈ B.map kdE := fun y => by
          rw [← h.perm.mem_iff, List.map_append, List.map_cons, List.mem_append, List.mem_cons]
        rw [putS_mem, hL, List.map_append, List.mem_append]
        constructor
        · rintro (hy | hy)
          · refine .inr ⟨.inl hy, ?_⟩
            obtain ⟨z, hz, rfl⟩ := List.mem_map.1 hy
            exact g3 z hz
          · refine .inr ⟨.inr (.inr hy), ?_⟩
            obtain ⟨z, hz, rfl⟩ := List.mem_map.1 hy
            exact hxB z hz
        · rintro (⟨h1, _⟩ | ⟨hy | rfl | hy, hk⟩)
          · exact (h1 rfl).elim
          · exact .inl hy
          · exact (hk g2).elim
          · exact .inr hy
    · rcases List.mem_append.1 hy with hy | hy <;> simp [hy]
    · rcases List.mem_append.1 hy with hy | hy <;> simp [hy]
    · have := h.nd
      rw [List.map_append, List.map_cons, List.nodup_append, List.nodup_cons] at this
      rw [List.map_append, List.nodup_append]
      exact ⟨this.1, this.2.1.2, fun a ha b hb => this.2.2 a ha b (List.mem_cons_of_mem _ hb)⟩
end
end
end Go.Proofs.Ytcdignblakejoaa

/- Shelves: Write, Get. -/
namespace Go.Proofs.Ytcdignblakejoaa
open Go Go.Proofs.Ytcdignblakejoaa.D
set_option linter.unusedVariables false
set_option linter.unusedSimpArgs false
noncomputable section

theorem s27 {S : St} {kd n : Int} {sl : Sl} {d : Dt} (hl : sl.len = d.length) {k : Value → St → Prop} (hk : ∀ S', Ext S S' → k (.int .i64 (if recOk (kd, n) d then 0 else 130)) S') : WC E0 27 [sv G41 ((kd, n, sl) : Int × Int × Sl)] S k := by
  refine w27 _ ?_
  unfold c27
  have hL := Hld.start noB S
  refine hL.new fun b1 S1 hL _ _ => ?_
  have bad : ¬ recOk (kd, n) d → k (.int .i64 130) S1 := fun h => by
    have := hk S1 hL.mod
    rwa [if_neg h] at this
  refine ptrW_of ?_
  refine hL.ld 0 rfl (by kernel_rfl) kd rfl ?_
  refine ifW_dec (fun h => bad fun hr => by have := hr.1; dsimp only at this; omega) fun h1 => ?_
  refine ptrW_of ?_
  refine hL.ld 0 rfl (by kernel_rfl) kd rfl ?_
  refine ifW_dec (fun h => bad fun hr => by have := hr.2.1; dsimp only at this; omega) fun h2 => ?_
  refine ptrW_of ?_
  refine hL.ld 0 rfl (by kernel_rfl) n rfl ?_
  refine ifW_dec (fun h => bad fun hr => by have := hr.2.2.1; dsimp only at this; omega) fun h3 => ?_
  refine ptrW_of ?_
  refine hL.ld 0 rfl (by kernel_rfl) n rfl ?_
  refine ifW_dec (fun h => bad fun hr => by have := hr.2.2.2.1; dsimp only at this; omega) fun h4 => ?_
  refine ptrW_of ?_
  refine hL.ld 0 rfl (by kernel_rfl) sl rfl ?_
  refine ifW_dec (fun h => bad fun hr => by have := hr.2.2.2.2; omega) fun h5 => ?_
  have := hk S1 hL.mod
  rwa [if_pos ⟨by dsimp only; omega, by dsimp only; omega, by dsimp only; omega, by dsimp only; omega, by omega⟩] at this
theorem eq40 {S : St} {a : Option Addr} {n c : Nat} : eqD E0 S 6 40 (.slice a n c) (.slice none 0 0) = some a.isNone := by cases a <;> kernel_rfl
theorem s28 {S : St} {s : Sl} {d : Dt} (h : Dat S s d) (hlen : d.length ≤ 1000000) {k : Value → St → Prop} (hk : ∀ (s' : Sl) S', Ext S S' → Dat S' s' d → (d ≠ [] → GB S' s' d) → (∀ c, slO s' c → S.next ≤ c) → k (.slice s'.a s'.len s'.cap) S') : WC E0 28 [.slice s.a s.len s.cap] S k := by
  refine w28 s ?_
  unfold c28
  refine ⟨_, eq40, ?_⟩
  have hl := h.1.len
  by_cases ha : s.a = none
  · rw [ha]
    refine ifW_of (fun _ => ?_) fun h => by cases h
    have hd : d = [] := by
      by_cases hd : d = []
      · exact hd
      · obtain ⟨b, o, cs, more, ro, fz, e, _⟩ := h.1.2 hd
        rw [ha] at e; cases e
    subst hd
    exact hk ⟨none, 0, 0⟩ S (Mod.refl _ _) Dat.nil (fun h => (h rfl).elim) fun c hc => by obtain ⟨o, hc⟩ := hc; cases hc
  · have hn : s.a.isNone = false := by
      cases e : s.a with
      | none => exact (ha e).elim
      | some a => rfl
    rw [hn]
    refine ifW_of (fun h => by cases h) fun _ => ?_
    refine newW_of fun b1 S1 hb1 hat1 he1 hn1 => ?_
    have hs1 : Bs S1 s d := he1.slOf h.1
    have hfst := SlOf.first (f := byC) (sz := 1) (x := s) (fun _ => rfl) hs1 h.spot
    rw [flat_by] at hfst
    have g1 : Nat.beq (cellsOf (.int .u8 0)).length 1 = true := rfl
    have g2 : Nat.blt 0 1 = true := rfl
    have g3 : Nat.beq (d.map byV).length (d.length * 1) = true := by rw [List.length_map, Nat.mul_one, Nat.beq_refl]
    have g4 : Nat.ble ((0 + d.length) * 1) 17592186044416 = true := Nat.ble_eq_true_of_le (by omega)
    have g5 : Nat.ble (0 + d.length) 17592186044416 = true := Nat.ble_eq_true_of_le (by omega)
    have g6 : Nat.blt 1 TB = true := by decide
    have g7 : Nat.blt 5 TB = true := by decide
    have gl : lenOfD (.slice s.a s.len s.cap) = some d.length := by rw [← hl]; rfl
    have ga : apK (.slice 5) = true := rfl
    by_cases hd : d = []
    · subst hd
      refine ⟨⟨some ⟨b1, 0, none⟩, 0, 0⟩, S1, ?_, ?_⟩
      · simp only [appendD, und40, inf5, siz5, bytes5, zer5, ga, cond_true, Option.bind_some, gl, hfst, g1, g2, g3, g4, g5, g6, g7, Bool.and_true]
        rfl
      · exact hk ⟨some ⟨b1, 0, none⟩, 0, 0⟩ S1 he1 ⟨⟨rfl, fun h => (h rfl).elim⟩, .inl ⟨Nat.le_refl _, show 0 < inex by unfold inex; omega, fun a h => by cases h; rfl⟩⟩ (fun h => (h rfl).elim) fun c hc => by obtain ⟨o, hc⟩ := hc; cases hc; omega
    · have g8 : Nat.beq d.length 0 = false := Bool.eq_false_iff.2 fun hh => hd (List.length_eq_zero_iff.1 (Nat.eq_of_beq_eq_true hh))
      have g9 : Nat.beq 0 inex = false := by unfold inex; rfl
      have g10 : Nat.ble (0 + d.length) 0 = false := Bool.eq_false_iff.2 fun hh => hd (List.length_eq_zero_iff.1 (by have := Nat.le_of_ble_eq_true hh; omega))
      have g11 : S1.loadN b1 0 (0 * 1) = some [] := loadN_of hat1 rfl rfl
      have hgb : GB (S1.alloc (.cells (d.map byV) (some 1) false none)).2 ⟨some ⟨S1.next, 0, none⟩, d.length, inex⟩ d := .inr ⟨S1.next, 1, .inl rfl, rfl, alloc_at⟩
      refine ⟨⟨some ⟨S1.next, 0, none⟩, d.length, inex⟩, (S1.alloc (.cells (d.map byV) (some 1) false none)).2, ?_, hk _ _ (he1.tr alloc_ext) hgb.dat (fun _ => hgb) fun c hc => by obtain ⟨o, hc⟩ := hc; cases hc; omega⟩
      rw [Nat.zero_add] at g4 g5 g10
      simp only [appendD, und40, inf5, siz5, bytes5, zer5, ga, cond_true, cond_false, Option.bind_some, gl, hfst, g1, g2, g3, g4, g5, g6, g7, g8, g9, g10, g11, Bool.and_true, Option.map_some, Nat.zero_add, List.nil_append]
      rfl
theorem eq23 {S : St} {b o : Nat} : eqD E0 S 6 23 (.pointer (some ⟨b, o, none⟩)) (.pointer none) = some false := by kernel_rfl
theorem eq36 {S : St} {mr : Option Nat} : eqD E0 S 6 36 (.map mr) (.map none) = some mr.isNone := by cases mr <;> kernel_rfl
theorem len36 {S : St} {mb : Nat} {es : List MapEntry} {clock : Nat} (h : At S mb (.map es clock)) : lenM E0 S 36 (some mb) = some (.int .i64 (es.length : Int)) := by
  have e : lenM E0 S 36 (some mb) = lenD E0 S 36 (.map (some mb)) := rfl
  rw [e]
  simp only [lenD, und36, h.get]
/-- A shelf is found out. -/
theorem s20 {S : St} {sb : Nat} {mr : Option Nat} {L : List Im} (h : ShAt S sb mr L) (hlen : ∀ x ∈ L, x.2.length ≤ 1000000) {kd n : Int} {k : Value → St → Prop}
    (hno : (∀ x ∈ L, x.1 ≠ (kd, n)) → k (.tuple #[.slice none 0 0, .bool false]) S)
    (hyes : ∀ d s' S', ((kd, n), d) ∈ L → Ext S S' → GB S' s' d → k (.tuple #[.slice s'.a s'.len s'.cap, .bool true]) S') : WC E0 20 [.pointer (some ⟨sb, 0, none⟩), .int .i64 kd, .int .i64 n] S k := by
  refine w20 _ _ _ ?_
  unfold c20
  refine ⟨false, eq23, ?_⟩
  refine ifW_of (fun h => by cases h) fun _ => ?_
  refine ptrW_of (ptrW_of (evV_of (ty := tM) mr (load_one h.box (by kernel_rfl)) ?_))
  have hnil : (∀ x ∈ L, x.1 ≠ (kd, n)) → WC E0 28 [.slice none 0 0] S fun v S' => ∃ x : Sl, v = .slice x.a x.len x.cap ∧ k (.tuple #[.slice x.a x.len x.cap, .bool false]) S' := fun hn => by
    refine w28 ⟨none, 0, 0⟩ ?_
    unfold c28
    refine ⟨true, eq40, ?_⟩
    exact ifW_of (fun _ => ⟨⟨none, 0, 0⟩, rfl, hno hn⟩) fun h => by cases h
  rcases h.map with ⟨rfl, rfl⟩ | ⟨mb, E, clock, rfl, hat, hm⟩
  · refine evV_of (ty := .tup [.sc .sl, .sc .bool]) ((⟨none, 0, 0⟩, false) : Sl × Bool) ?_ (hnil (by simp))
    simp only [lookupD, und36]
    have := key68 (kd, n)
    rw [show keyType E0 68 (.agg #[.int .i64 kd, .int .i64 n]) = true from this]
    simp only [cond_true, Option.bind_some, zero40, Option.map_some]
    rfl
  · rcases lookup_pr hat hm (kd, n) true with ⟨h1, h2⟩ | ⟨sl, d, h1, h2, h3⟩
    · exact evV_of (ty := .tup [.sc .sl, .sc .bool]) ((⟨none, 0, 0⟩, false) : Sl × Bool) h1 (hnil h2)
    · refine evV_of (ty := .tup [.sc .sl, .sc .bool]) ((sl, true) : Sl × Bool) h1 ?_
      have hd := h.fine _ h2
      exact s28 h3.dat (hlen _ h2) fun s' S' e hdt hg _ => ⟨s', rfl, hyes d s' S' h2 e (hg hd)⟩
theorem join_of {α : Type} {X : α → St → Prop} {Y : (α → St → Prop) → Prop} (I : α → St → Prop) (h1 : ∀ x S, I x S → X x S) (h2 : ∀ k : α → St → Prop, (∀ x S, I x S → k x S) → Y k) : joinW X Y := fun k hk => h2 k fun x S h => hk x S (h1 x S h)
theorem ext_then {F : Nat → Prop} {S S1 S2 : St} (e : Ext S S1) (m : D.Mod F S1 S2) : D.Mod F S S2 := (e.mono (fun _ h _ => h.elim)).trans m fun _ h _ => h
theorem lenN {S : St} : lenM E0 S 36 none = some (.int .i64 0) := by kernel_rfl
set_option maxHeartbeats 2000000 in
/-- A record is written. -/
theorem s10 {S : St} {sb : Nat} {mr : Option Nat} {L : List Im} (h : ShAt S sb mr L) (hL : L.length ≤ 2000) {kd n : Int} {sl : Sl} {d : Dt} (hd : Dat S sl d) (hdl : d.length ≤ 1000000) {k : Value → St → Prop}
    (hk : ∀ mr' S', ShAt S' sb mr' (wrS L ((kd, n), d)) → D.Mod (shF sb mr) S S' → (∀ c, shF sb mr' c → shF sb mr c ∨ S.next ≤ c) → k (.int .i64 (if recOk (kd, n) d then 0 else 130)) S') :
    WC E0 10 [.pointer (some ⟨sb, 0, none⟩), sv G41 ((kd, n, sl) : Int × Int × Sl)] S k := by
  refine w10 _ _ ?_
  unfold c10
  have hN := Hld.start noB S
  refine hN.new fun b1 S1 hN hb1 _ => ?_
  refine ⟨false, eq23, ?_⟩
  refine ifW_of (fun h => by cases h) fun _ => ?_
  refine hN.lda 0 rfl (by kernel_rfl) ((kd, n, sl) : Int × Int × Sl) rfl ?_
  refine evC_of (s27 hd.1.len fun S2 e2 => ⟨_, rfl, ?_⟩)
  have hN := hN.ext e2
  have ext_sh : ∀ {S'}, Ext S S' → (∀ c, shF sb mr c → shF sb mr c ∨ S.next ≤ c) ∧ D.Mod (shF sb mr) S S' := fun e => ⟨fun c h => .inl h, e.mono fun _ h _ => h.elim⟩
  by_cases hr : recOk (kd, n) d
  rotate_left
  · rw [if_neg hr]
    refine ifW_ndec (fun _ => ?_) fun h => absurd h (by decide)
    have := hk mr S2 (by unfold wrS; rw [if_neg hr]; exact h.ext hN.mod) (ext_sh hN.mod).2 (ext_sh (S' := S2) hN.mod).1
    rw [if_neg hr] at this
    exact this
  have hwr : wrS L ((kd, n), d) = putS L (kd, n) d := if_pos hr
  rw [hwr, if_pos hr] at hk
  rw [if_pos hr]
  refine ifW_ndec (fun h => absurd rfl h) fun _ => ?_
  refine ptrW_of ?_
  refine hN.ld 0 rfl (by kernel_rfl) kd rfl ?_
  refine ptrW_of ?_
  refine hN.ld 0 rfl (by kernel_rfl) n rfl ?_
  refine hN.new fun b6 S3 hN hb6 _ => ?_
  refine hN.st 0 2 rfl (by kernel_rfl) rfl (Nat.le_of_ble_eq_true rfl) rfl rfl fun S4 hN _ => ?_
  have he4 : Ext S S4 := hN.mod
  have h4 := h.ext he4
  have hat1 : At S4 b1 (.cells [.int .i64 kd, .int .i64 n, .slice sl.a sl.len sl.cap] none false none) := hN.at 1 rfl
  have hat6 : At S4 b6 (.cells [.int .i64 kd, .int .i64 n] none false none) := hN.at 0 rfl
  have hlt1 : S.next ≤ b1 := by omega
  have hlt6 : S.next ≤ b6 := by have := e2.next; omega
  have hsh : ∀ c, shF sb mr c → c < S.next := fun c hc => by
    rcases hc with rfl | hc
    · exact h.box.lt
    · rcases h.map with ⟨rfl, _⟩ | ⟨mb, E, clock, rfl, hat, _⟩
      · cases hc
      · cases hc; exact hat.lt
  have hdl0 : sl.len = d.length := hd.1.len
  refine ptrW_of ?_
  refine evV_of (ty := tS) sl (load_one hat1 (by kernel_rfl)) ?_
  refine ifW_dec (fun h0 => ?_) fun h0 => ?_
  · -- taken out
    have hd0 : d = [] := List.length_eq_zero_iff.1 (by omega)
    subst hd0
    refine ptrW_of (ptrW_of (evV_of (ty := tM) mr (load_one h4.box (by kernel_rfl)) ?_))
    refine evV_of (ty := .one (.agg G67)) ((kd, n) : Int × Int) (load_agg (n := 2) hat6 (by kernel_rfl) rfl rfl) ?_
    rcases h4.map with ⟨rfl, rfl⟩ | ⟨mb, E, clock, rfl, hat, hm⟩
    · refine ⟨S4, ?_, ?_⟩
      · show deleteD E0 S4 36 (.map none) (prV (kd, n)) = _
        simp only [deleteD, und36, key68, cond_true]
      · exact hk none S4 h4 (ext_sh he4).2 (ext_sh (S' := S4) he4).1
    · refine delete_pr hat h4.srt hm (kd, n) fun E' S5 hat5 hm5 m5 hn5 => ?_
      have hne : sb ≠ mb := fun e => by subst e; have := hat.get.symm.trans h4.box.get; cases this
      exact hk (some mb) S5 ⟨m5.at h4.box hne, putS_sort h4.srt _ _, putS_fine h4.fine _ _, .inr ⟨mb, E', clock, rfl, hat5, hm5⟩⟩ (ext_then he4 (m5.mono fun c hc _ => .inr (by rw [hc]))) fun c hc => .inl hc
  have hd0 : d ≠ [] := fun e => h0 (by rw [hdl0, e]; rfl)
  refine ptrW_of (ptrW_of (evV_of (ty := tM) mr (load_one h4.box (by kernel_rfl)) ?_))
  refine evV_of (ty := .one (.agg G67)) ((kd, n) : Int × Int) (load_agg (n := 2) hat6 (by kernel_rfl) rfl rfl) ?_
  have hlk : ∃ x : Sl × Bool, lookupD E0 S4 36 (.map mr) (sv G67 ((kd, n) : Int × Int)) true = some (.tuple #[.slice x.1.a x.1.len x.1.cap, .bool x.2]) := by
    rcases h4.map with ⟨rfl, rfl⟩ | ⟨mb, E, clock, rfl, hat, hm⟩
    · refine ⟨(⟨none, 0, 0⟩, false), ?_⟩
      show lookupD E0 S4 36 (.map none) (prV (kd, n)) true = _
      simp only [lookupD, und36, key68, cond_true, Option.bind_some, zero40, Option.map_some]
    · rcases lookup_pr hat hm (kd, n) true with ⟨h1, _⟩ | ⟨s2, d2, h1, _, _⟩
      · exact ⟨(⟨none, 0, 0⟩, false), h1⟩
      · exact ⟨(s2, true), h1⟩
  obtain ⟨x4, hlk⟩ := hlk
  refine evV_of (ty := .tup [.sc .sl, .sc .bool]) x4 hlk ?_
  have hlen4 : ∃ q : Nat, lenM E0 S4 36 mr = some (.int .i64 (q : Int)) ∧ q ≤ 2000 := by
    rcases h4.map with ⟨rfl, rfl⟩ | ⟨mb, E, clock, rfl, hat, hm⟩
    · exact ⟨0, lenN, by omega⟩
    · refine ⟨(E.map mkE).length, len36 hat, ?_⟩
      have := hm.perm.length_eq
      simp only [List.length_map] at this ⊢
      omega
  obtain ⟨q, hq, hq2⟩ := hlen4
  refine ifW_of (fun _ => ?_) fun _ => ?_
  · refine ptrW_of (ptrW_of (evV_of (ty := tM) mr (load_one h4.box (by kernel_rfl)) ?_))
    refine evV_of (ty := tI) (q : Int) hq ?_
    refine ifW_neg (by omega) ?_
    refine join_of (fun (_ : PUnit) S' => ∃ mb E clock, ShAt S' sb (some mb) L ∧ At S' mb (.map (E.map mkE) clock) ∧ MapS S' E clock L ∧ D.Mod (shF sb mr) S4 S' ∧ (mr = some mb ∨ S.next ≤ mb)) ?_ ?_
    · rintro _ S6 ⟨mb, E, clock, h6, hat, hm, m6, hor⟩
      have hn1 : ¬ shF sb mr b1 := fun hh => by have := hsh _ hh; omega
      have hn6 : ¬ shF sb mr b6 := fun hh => by have := hsh _ hh; omega
      refine ptrW_of (ptrW_of (evV_of (ty := tM) (some mb) (load_one h6.box (by kernel_rfl)) ?_))
      refine evV_of (ty := .one (.agg G67)) ((kd, n) : Int × Int) (load_agg (n := 2) (m6.at hat6 hn6) (by kernel_rfl) rfl rfl) ?_
      refine ptrW_of ?_
      refine evV_of (ty := tS) sl (load_one (m6.at hat1 hn1) (by kernel_rfl)) ?_
      refine evC_of (s28 ((hd.ext he4).nb h4.nb m6) hdl fun s3 S7 e7 hdt hg _ => ⟨s3, rfl, ?_⟩)
      refine evV_of (ty := .one (.agg G67)) ((kd, n) : Int × Int) (load_agg (n := 2) (e7.at (m6.at hat6 hn6)) (by kernel_rfl) rfl rfl) ?_
      refine sameV_of ?_
      refine evV_of (ty := tM) (some mb) (load_one (e7.at h6.box) (by kernel_rfl)) ?_
      refine sameV_of ?_
      refine update_pr (e7.at hat) h6.srt (hm.mono fun x _ hg => hg.ext e7) (kd, n) hd0 (hg hd0) fun E' clock' S8 hat8 hm8 m8 hn8 => ?_
      have hne : sb ≠ mb := fun e => by subst e; have := hat.get.symm.trans h6.box.get; cases this
      have hmod : D.Mod (shF sb mr) S S8 := (ext_then he4 (m6.tr e7)).trans m8 fun c hc hlt => by
        subst hc
        rcases hor with h | h
        · exact .inr h
        · omega
      exact hk (some mb) S8 ⟨m8.at (e7.at h6.box) hne, putS_sort h6.srt _ _, putS_fine h6.fine _ _, .inr ⟨mb, E', clock', rfl, hat8, hm8⟩⟩ hmod fun c hc => by
        rcases hc with rfl | hc
        · exact .inl (.inl rfl)
        · cases hc
          rcases hor with h | h
          · exact .inl (.inr h)
          · exact .inr h
    · intro k2 hk2
      have hM : Hld (shF sb mr) S4 S4 [(sb, .cells [.map mr] none false none)] := ⟨Mod.refl _ _, fun q hq => by simp at hq; subst hq; exact ⟨h4.box, .inr (.inl rfl)⟩, by simp⟩
      refine ptrW_of (ptrW_of (evV_of (ty := tM) mr (load_one h4.box (by kernel_rfl)) ?_))
      refine ⟨_, eq36, ?_⟩
      rcases h4.map with ⟨rfl, hL0⟩ | ⟨mb, E, clock, rfl, hat, hm⟩
      · refine ifW_of (fun _ => ?_) fun h => by cases h
        refine hM.new fun b31 S9 hM hb31 _ => ?_
        refine ptrW_of (ptrW_of ?_)
        refine hM.st 1 1 rfl (by kernel_rfl) rfl (Nat.le_of_ble_eq_true rfl) rfl rfl fun S10 hM _ => ?_
        subst hL0
        exact hk2 _ _ ⟨b31, [], 0, ⟨hM.at 1 rfl, sortS_nil, by simp, .inr ⟨b31, [], 0, rfl, hM.at 0 rfl, ⟨.nil, by simp, by simp, by simp⟩⟩⟩, hM.at 0 rfl, ⟨.nil, by simp, by simp, by simp⟩, hM.mod, .inr (by have := he4.next; omega)⟩
      · refine ifW_of (fun h => by cases h) fun _ => ?_
        exact hk2 _ _ ⟨mb, E, clock, h4, hat, hm, Mod.refl _ _, .inl rfl⟩
  · refine join_of (fun (_ : PUnit) S' => ∃ mb E clock, ShAt S' sb (some mb) L ∧ At S' mb (.map (E.map mkE) clock) ∧ MapS S' E clock L ∧ D.Mod (shF sb mr) S4 S' ∧ (mr = some mb ∨ S.next ≤ mb)) ?_ ?_
    · rintro _ S6 ⟨mb, E, clock, h6, hat, hm, m6, hor⟩
      have hn1 : ¬ shF sb mr b1 := fun hh => by have := hsh _ hh; omega
      have hn6 : ¬ shF sb mr b6 := fun hh => by have := hsh _ hh; omega
      refine ptrW_of (ptrW_of (evV_of (ty := tM) (some mb) (load_one h6.box (by kernel_rfl)) ?_))
      refine evV_of (ty := .one (.agg G67)) ((kd, n) : Int × Int) (load_agg (n := 2) (m6.at hat6 hn6) (by kernel_rfl) rfl rfl) ?_
      refine ptrW_of ?_
      refine evV_of (ty := tS) sl (load_one (m6.at hat1 hn1) (by kernel_rfl)) ?_
      refine evC_of (s28 ((hd.ext he4).nb h4.nb m6) hdl fun s3 S7 e7 hdt hg _ => ⟨s3, rfl, ?_⟩)
      refine evV_of (ty := .one (.agg G67)) ((kd, n) : Int × Int) (load_agg (n := 2) (e7.at (m6.at hat6 hn6)) (by kernel_rfl) rfl rfl) ?_
      refine sameV_of ?_
      refine evV_of (ty := tM) (some mb) (load_one (e7.at h6.box) (by kernel_rfl)) ?_
      refine sameV_of ?_
      refine update_pr (e7.at hat) h6.srt (hm.mono fun x _ hg => hg.ext e7) (kd, n) hd0 (hg hd0) fun E' clock' S8 hat8 hm8 m8 hn8 => ?_
      have hne : sb ≠ mb := fun e => by subst e; have := hat.get.symm.trans h6.box.get; cases this
      have hmod : D.Mod (shF sb mr) S S8 := (ext_then he4 (m6.tr e7)).trans m8 fun c hc hlt => by
        subst hc
        rcases hor with h | h
        · exact .inr h
        · omega
      exact hk (some mb) S8 ⟨m8.at (e7.at h6.box) hne, putS_sort h6.srt _ _, putS_fine h6.fine _ _, .inr ⟨mb, E', clock', rfl, hat8, hm8⟩⟩ hmod fun c hc => by
        rcases hc with rfl | hc
        · exact .inl (.inl rfl)
        · cases hc
          rcases hor with h | h
          · exact .inl (.inr h)
          · exact .inr h
    · intro k2 hk2
      have hM : Hld (shF sb mr) S4 S4 [(sb, .cells [.map mr] none false none)] := ⟨Mod.refl _ _, fun q hq => by simp at hq; subst hq; exact ⟨h4.box, .inr (.inl rfl)⟩, by simp⟩
      refine ptrW_of (ptrW_of (evV_of (ty := tM) mr (load_one h4.box (by kernel_rfl)) ?_))
      refine ⟨_, eq36, ?_⟩
      rcases h4.map with ⟨rfl, hL0⟩ | ⟨mb, E, clock, rfl, hat, hm⟩
      · refine ifW_of (fun _ => ?_) fun h => by cases h
        refine hM.new fun b31 S9 hM hb31 _ => ?_
        refine ptrW_of (ptrW_of ?_)
        refine hM.st 1 1 rfl (by kernel_rfl) rfl (Nat.le_of_ble_eq_true rfl) rfl rfl fun S10 hM _ => ?_
        subst hL0
        exact hk2 _ _ ⟨b31, [], 0, ⟨hM.at 1 rfl, sortS_nil, by simp, .inr ⟨b31, [], 0, rfl, hM.at 0 rfl, ⟨.nil, by simp, by simp, by simp⟩⟩⟩, hM.at 0 rfl, ⟨.nil, by simp, by simp, by simp⟩, hM.mod, .inr (by have := he4.next; omega)⟩
      · refine ifW_of (fun h => by cases h) fun _ => ?_
        exact hk2 _ _ ⟨mb, E, clock, h4, hat, hm, Mod.refl _ _, .inl rfl⟩

end
end Go.Proofs.Ytcdignblakejoaa

/- Shelves: all records. -/
namespace Go.Proofs.Ytcdignblakejoaa
open Go Go.Proofs.Ytcdignblakejoaa.D
set_option linter.unusedVariables false
set_option linter.unusedSimpArgs false
noncomputable section

/-- A record, as a shelf's item. -/
def imR (r : Rc) : Im := ((r.1, r.2.1), r.2.2.2)
/-- A list of records. -/
structure RecsD (S : St) (s : Sl) (l : List Rc) : Prop where
  sl : SlOf recC 3 S s l
  dat : ∀ r ∈ l, Dat S r.2.2.1 r.2.2.2
theorem RecsD.ext {S S' : St} {s : Sl} {l : List Rc} (h : RecsD S s l) (e : Ext S S') : RecsD S' s l := ⟨e.slOf h.sl, fun r hr => (h.dat r hr).ext e⟩
theorem rec_nomap : ∀ r : Rc, ∀ v ∈ recC r, isMapV v = false := by
  intro r v hv
  simp only [recC, List.mem_cons, List.not_mem_nil, or_false] at hv
  rcases hv with rfl | rfl | rfl <;> rfl
theorem RecsD.nb {S S' : St} {s : Sl} {l : List Rc} {F : Nat → Prop} (h : RecsD S s l) (hn : NB S F) (m : D.Mod F S S') : RecsD S' s l :=
  ⟨slOf_nb rec_nomap (fun _ => rfl) (by omega) h.sl hn m, fun r hr => (h.dat r hr).nb hn m⟩
theorem s23 {S : St} {sb : Nat} {mr : Option Nat} {L : List Im} (h : ShAt S sb mr L) (hlen : ∀ x ∈ L, x.2.length ≤ 1000000) {x : Im} (hx : x ∈ L) {k : Value → St → Prop}
    (hk : ∀ s' S', Ext S S' → GB S' s' x.2 → (∀ c, slO s' c → S.next ≤ c) → k (sv G41 ((x.1.1, x.1.2, s') : Int × Int × Sl)) S') : WC E0 23 [.pointer (some ⟨sb, 0, none⟩), sv G67 (x.1 : Int × Int)] S k := by
  refine w23 _ _ ?_
  unfold c23
  have hN := Hld.start noB S
  refine hN.new fun b1 S1 hN hb1 _ => ?_
  refine hN.new fun b2 S2 hN hb2 _ => ?_
  refine ptrW_of ?_
  refine hN.ld 1 rfl (by kernel_rfl) x.1.1 rfl ?_
  refine ptrW_of ?_
  refine hN.ld 1 rfl (by kernel_rfl) x.1.2 rfl ?_
  have h2 := h.ext hN.mod
  have hNa := hN
  refine ptrW_of (ptrW_of (evV_of (ty := tM) mr (load_one h2.box (by kernel_rfl)) ?_))
  refine hN.lda 1 rfl (by kernel_rfl) (x.1 : Int × Int) rfl ?_
  rcases h2.map with ⟨rfl, rfl⟩ | ⟨mb, E, clock, rfl, hat, hm⟩
  · simp at hx
  rcases lookup_pr hat hm x.1 false with ⟨_, h3⟩ | ⟨sl, d, h3, h4, h5⟩
  · exact (h3 x hx rfl).elim
  have hxd : x = (x.1, d) := sortS_keys h2.srt hx h4 rfl
  refine evV_of (ty := tS) sl h3 ?_
  have hdx : x.2 = d := by rw [hxd]
  have hd0 : d ≠ [] := h2.fine _ h4
  refine evC_of (s28 h5.dat (hlen _ h4) fun s3 S3 e3 hdt hg hfr => ⟨s3, rfl, ?_⟩)
  have hg := hg hd0
  have hN := hN.ext e3
  refine hN.ld 1 rfl (by kernel_rfl) x.1.2 rfl ?_
  refine sameV_of ?_
  refine hN.ld 1 rfl (by kernel_rfl) x.1.1 rfl ?_
  refine sameV_of ?_
  have hN0 := hN.mod
  have hat2 : At S2 b2 (.cells [.int .i64 0, .int .i64 0, .slice none 0 0] none false none) := hNa.at 0 rfl
  have hb2' := hat2.lt
  refine ⟨_, store_cells (hN.at 0 rfl) (n := 3) (by kernel_rfl) rfl (Nat.le_of_ble_eq_true rfl) rfl, ?_⟩
  have m4 := upd_mod (S := S3) (b := b2) (o := .cells ([Value.int .i64 0, .int .i64 0, .slice none 0 0].take 0 ++ (cellsOf (.agg #[.int .i64 x.1.1, .int .i64 x.1.2, .slice s3.a s3.len s3.cap]) ++ [Value.int .i64 0, .int .i64 0, .slice none 0 0].drop (0 + 3))) none false none)
  have hN := hN.set 0 rfl m4 (upd_at (hN.at 0 rfl))
  generalize S3.upd b2 _ = S4 at m4 hN ⊢
  have hg4 : GB S4 s3 d := by
    refine GB.frm _ _ _ (Mod.kp m4) (fun c hc hcb => ?_) hg
    have := hfr c hc
    omega
  refine hN.lda 0 rfl (by kernel_rfl) ((x.1.1, x.1.2, s3) : Int × Int × Sl) rfl ?_
  refine hk s3 S4 hN.mod (by rw [hdx]; exact hg4) fun c hc => ?_
  have := hfr c hc
  have := hN0.next
  omega
/-- A row of keys. -/
def KsAt (S : St) (ks : Sl) (l : List Pr) : Prop := (l = [] ∧ ks = ⟨none, 0, 0⟩) ∨ ∃ b, ks = ⟨some ⟨b, 0, none⟩, l.length, inex⟩ ∧ At S b (.cells (l.flatMap prC) (some 2) false none)
theorem KsAt.of {S : St} {ks : Sl} {l : List Pr} (h : KsAt S ks l) : SlOf prC 2 S ks l := by
  rcases h with ⟨rfl, rfl⟩ | ⟨b, rfl, hat⟩
  · exact ⟨rfl, fun h => (h rfl).elim⟩
  · refine ⟨rfl, fun _ => ⟨b, 0, _, _, _, _, rfl, hat, ?_⟩⟩
    rw [List.drop_zero, List.take_of_length_le (by rw [flat_len (f := prC) (sz := 2) (fun _ => rfl)]; exact Nat.le_refl _)]
theorem KsAt.frm {ks : Sl} {l : List Pr} : Frm (slO ks) (fun S => KsAt S ks l) := by
  intro F S S' m hF h
  rcases h with ⟨rfl, rfl⟩ | ⟨b, rfl, hat⟩
  · exact .inl ⟨rfl, rfl⟩
  · exact .inr ⟨b, rfl, m.at hat (hF b ⟨0, rfl⟩)⟩
theorem und68' : ldAgg E0 68 2 = true := by kernel_rfl
/-- A shelf's keys, one by one. -/
theorem s40 {y : Value} {c1 : Nat} {S : St} {sb : Nat} {mr : Option Nat} {L : List Im} (hc1 : At S c1 (.cells [.pointer (some ⟨sb, 0, none⟩)] none false none)) (h : ShAt S sb mr L) (hL : L.length ≤ 10000) {Q : St → Prop}
    (hgo : ∀ (ks : Sl) S', Ext S S' → KsAt S' ks (L.map Prod.fst) → (∀ c, slO ks c → S.next ≤ c ∧ c < S'.next) →
      ∃ I : Nat → St → Prop, I 0 S' ∧ (∀ i S'', I i S'' → KsAt S'' ks (L.map Prod.fst)) ∧
        (∀ i (hi : i < L.length) S'' S3, I i S'' → Ext S'' S3 → evY E0 tB y [sv G67 (L[i].1 : Int × Int)] S3 fun t S4 => (t = true → I (i + 1) S4) ∧ (t = false → Q S4)) ∧ ∀ S'', I L.length S'' → Q S'') :
    WC E0 40 [y, .pointer (some ⟨c1, 0, none⟩)] S fun _ S' => Q S' := by
  refine w40 y c1 ?_
  unfold c40
  refine evV_of (ty := tP) (some ⟨sb, 0, none⟩ : Option Addr) (load_one hc1 (by kernel_rfl)) ?_
  refine ⟨false, eq23, ?_⟩
  refine ifW_of (fun h => by cases h) fun _ => ?_
  refine evV_of (ty := tP) (some ⟨sb, 0, none⟩ : Option Addr) (load_one hc1 (by kernel_rfl)) ?_
  refine ptrW_of (ptrW_of (evV_of (ty := tM) mr (load_one h.box (by kernel_rfl)) ?_))
  refine evC_of (w42 _ ?_)
  unfold c42
  refine newW_of fun bx S1 hbx hatx he1 hn1 => ⟨_, rfl, ?_⟩
  have h1 := h.ext he1
  have key : ∃ (ks : Sl) (S2 : St), skP 56 43 [.func (.func 56) #[] #[.pointer (some ⟨bx, 0, none⟩)], .func (.func 43) #[] #[]] S1 = some (.slice ks.a ks.len ks.cap, S2) ∧ Ext S1 S2 ∧ KsAt S2 ks (L.map Prod.fst) ∧ ∀ c, slO ks c → S1.next ≤ c ∧ c < S2.next := by
    rcases h1.map with ⟨rfl, rfl⟩ | ⟨mb, E, clock, rfl, hat, hm⟩
    · refine ⟨⟨none, 0, 0⟩, S1, ?_, Mod.refl _ _, .inl ⟨rfl, rfl⟩, fun c hc => by obtain ⟨o, hc⟩ := hc; cases hc⟩
      simp only [skP, hatx.get]
      rfl
    · have hbo := hm.bornOk
      have hko : keysOf (E.map mkE) = some (E.map fun x => x.1) := keysOf_of (by rw [List.map_map, List.map_map]; rfl)
      have hel : (E.map mkE).length = L.length := by have := hm.perm.length_eq; simpa using this
      have hle : Nat.ble (E.map mkE).length 1000000 = true := Nat.ble_eq_true_of_le (by omega)
      have hso : sortP2 (E.map fun x => x.1) = L.map Prod.fst := keys_sorted h1.srt (by have := hm.perm.map Prod.fst; rw [List.map_map] at this; exact this)
      cases E with
      | nil =>
        have hL0 : L = [] := List.length_eq_zero_iff.1 (by simpa using hel.symm)
        subst hL0
        refine ⟨⟨none, 0, 0⟩, S1, ?_, Mod.refl _ _, .inl ⟨rfl, rfl⟩, fun c hc => by obtain ⟨o, hc⟩ := hc; cases hc⟩
        simp only [skP, hatx.get, hat.get, hbo, hle, hko, Bool.and_self, cond_true, Option.bind_some, List.map_nil]
        rfl
      | cons e r =>
        have hkl : (L.map Prod.fst).length = (e.1 :: r.map fun x => x.1).length := by rw [← hso, sortP2_len]; rfl
        refine ⟨⟨some ⟨S1.next, 0, none⟩, (L.map Prod.fst).length, inex⟩, (S1.alloc (.cells ((L.map Prod.fst).flatMap prC) (some 2) false none)).2, ?_, alloc_ext, .inr ⟨S1.next, rfl, alloc_at⟩, fun c hc => by obtain ⟨o, hc⟩ := hc; cases hc; exact ⟨Nat.le_refl _, alloc_at.lt⟩⟩
        have hko' : keysOf (List.map mkE (e :: r)) = some (e.1 :: r.map fun x => x.1) := hko
        have hso' : sortP2 (e.1 :: r.map fun x => x.1) = L.map Prod.fst := hso
        have b1 : (Nat.beq 56 56 && Nat.beq (#[] : Array Value).size 0 && (Nat.beq 43 43 && Nat.beq (#[] : Array Value).size 0 && Nat.beq (#[] : Array Value).size 0)) = true := rfl
        simp only [skP, hatx.get, hat.get, hbo, hle, hko', b1, Bool.and_self, cond_true, Option.bind_some]
        rw [hso', hkl]
  obtain ⟨ks, S2, hp, he2, hks, hown⟩ := key
  refine evC_of (WC_prim (E := E0) (f := 41) rfl hp ⟨ks, rfl, ?_⟩)
  obtain ⟨I, h0, hI, hstep, hend⟩ := hgo ks S2 (he1.tr he2) hks fun c hc => by have := hown c hc; omega
  have hkl := hks.of.len
  rw [List.length_map] at hkl
  refine loopW_ind (fun q (n : Int) S' => ∃ i : Nat, n = (i : Int) ∧ i ≤ L.length ∧ q = L.length - i ∧ I i S') (m := L.length) ⟨0, rfl, by omega, rfl, h0⟩ ?_
  rintro P q n S3 ⟨i, rfl, hi, rfl, hIi⟩ hP
  refine ifW_dec (fun hlt => ?_) fun hlt => ?_
  · have hi' : i < L.length := by omega
    refine slOf_getA (f := prC) (sz := 2) (fun _ => rfl) (hI i S3 hIi).of und68' (n := i) (by simpa using hi') fun b1 o1 hld => ?_
    refine evV_of (ty := .one (.agg G67)) (L[i].1 : Int × Int) (by rw [hld, List.getElem_map]; rfl) ?_
    have hN := Hld.start noB S3
    refine hN.new fun b7 S4 hN _ _ => ?_
    refine hN.st 0 2 rfl (by kernel_rfl) rfl (Nat.le_of_ble_eq_true rfl) rfl rfl fun S5 hN _ => ?_
    refine hN.lda 0 rfl (by kernel_rfl) (L[i].1 : Int × Int) rfl ?_
    refine (hstep i hi' S3 S5 hIi hN.mod).mono fun v S6 h6 => ?_
    obtain ⟨t, rfl, h7, h8⟩ := h6
    refine ⟨t, rfl, ?_⟩
    refine ifW_of (fun ht => ?_) fun ht => ?_
    · exact h8 (by simpa using ht)
    · rw [wrap_succ (by omega)]
      exact hP _ _ _ (by omega) ⟨i + 1, rfl, by omega, rfl, h7 (by simpa using ht)⟩
  · have : i = L.length := by omega
    subst this
    exact hend S3 hIi
theorem und27 : E0.und 27 = some (.slice 42) := by kernel_rfl
theorem inf42 : E0.inf 42 = some DEnv.i42 := by kernel_rfl
theorem zero42 : DEnv.i42.zero = some (.agg #[.int .i64 0, .int .i64 0, .slice none 0 0]) := by kernel_rfl
theorem bytes42 : DEnv.i42.bytes = 40 := by kernel_rfl
theorem one_rec (l : List Rc) : (l.flatMap recC).all St.one = true := by
  rw [List.all_eq_true]
  intro x hx
  obtain ⟨c, _, hx⟩ := List.mem_flatMap.1 hx
  simp only [recC, List.mem_cons, List.not_mem_nil, or_false] at hx
  rcases hx with rfl | rfl | rfl <;> rfl
/-- A list of records that grows, of data of one's own. -/
structure OutR (N : Nat) (S : St) (s : Sl) (l : List Rc) : Prop where
  row : GrX recC 3 N S s l
  dat : ∀ r ∈ l, GB S r.2.2.1 r.2.2.2
def outF (s : Sl) (l : List Rc) (c : Nat) : Prop := slO s c ∨ ∃ r ∈ l, slO r.2.2.1 c
theorem GrX.frm' {α : Type} {f : α → List Value} {sz N : Nat} {s : Sl} {l : List α} : Frm (slO s) (fun S => GrX f sz N S s l) := by
  intro F S S' m hF h
  exact m.grX h fun b _ _ e => hF b ⟨0, e⟩
theorem OutR.frm {N : Nat} {s : Sl} {l : List Rc} : Frm (outF s l) (fun S => OutR N S s l) := by
  intro F S S' m hF h
  exact ⟨GrX.frm' F S S' m (fun c hc => hF c (.inl hc)) h.row, fun r hr => GB.frm F S S' m (fun c hc => hF c (.inr ⟨r, hr, hc⟩)) (h.dat r hr)⟩
theorem OutR.of {N : Nat} {S : St} {s : Sl} {l : List Rc} (h : OutR N S s l) : RecsD S s l := ⟨h.row.of fun _ => rfl, fun r hr => (h.dat r hr).dat⟩
theorem GrX.lt' {α : Type} {f : α → List Value} {sz N : Nat} {S : St} {s : Sl} {l : List α} (h : GrX f sz N S s l) {c : Nat} (hc : slO s c) : N ≤ c ∧ c < S.next := by
  rcases h with ⟨rfl, rfl⟩ | ⟨b, rest, hb, rfl, hat, _⟩
  · obtain ⟨o, hc⟩ := hc; cases hc
  · obtain ⟨o, hc⟩ := hc; cases hc; exact ⟨hb, hat.lt⟩
theorem OutR.lt {N : Nat} {S : St} {s : Sl} {l : List Rc} (h : OutR N S s l) {c : Nat} (hc : outF s l c) : c < S.next := by
  rcases hc with hc | ⟨r, hr, hc⟩
  · exact (GrX.lt' h.row hc).2
  · exact GB.lt (h.dat r hr) hc
/-- One more. -/
theorem OutR.put {N : Nat} {S : St} {s : Sl} {l : List Rc} (h : OutR N S s l) (hN : N ≤ S.next) (hlen : l.length ≤ 100000) {r : Rc} (hr : GB S r.2.2.1 r.2.2.2) {vb : Nat} {more : Option Nat} {ro : Bool} {fz : Option (Nat × Nat)} (hv : At S vb (.cells (recC r) more ro fz)) {k : Sl → St → Prop}
    (hk : ∀ s' S', OutR N S' s' (l ++ [r]) → D.Mod (slO s) S S' → (∀ c, slO s' c → slO s c ∨ S.next ≤ c) → k s' S') : evP tS (appendD E0 S 27 27 (.slice s.a s.len s.cap) (.slice (some ⟨vb, 0, none⟩) 1 1)) k := by
  refine GrX.append (E := E0) (f := recC) (sz := 3) (N := N) (fun _ => rfl) (by omega) h.row und27 inf42 und27 (by kernel_rfl) (by kernel_rfl) zero42 rfl (vs := [r]) rfl (firstD_box (f := recC) (sz := 3) (fun _ => rfl) (by omega) hv) (one_rec _) (by rw [bytes42, List.length_singleton]; omega) (by rw [List.length_singleton]; omega) (by simp) (by rw [List.length_singleton]; unfold inex; omega) (fun s' S' h' m ha => ?_) hN
  have m' : D.Mod (slO s) S S' := m.mono fun c hc _ => ⟨0, hc.2⟩
  have hoff : ∀ {x : Sl} {d : Dt}, GB S x d → GB S' x d := fun {x d} hg => by
    refine GB.frm _ _ _ m'.kp (fun c hc hcs => ?_) hg
    rcases hg with ⟨rfl, rfl⟩ | ⟨b, mk, hmk, rfl, hat⟩
    · obtain ⟨o, hc⟩ := hc; cases hc
    · obtain ⟨o, hc⟩ := hc; cases hc
      rcases h.row with ⟨_, rfl⟩ | ⟨b2, rest, _, rfl, hat2, _⟩
      · obtain ⟨o, hcs⟩ := hcs; cases hcs
      · obtain ⟨o, hcs⟩ := hcs; cases hcs
        have := (DObj.cells.inj (Option.some.inj (hat.get.symm.trans hat2.get))).2.1
        rcases hmk with rfl | rfl
        · cases this
        · exact absurd (Option.some.inj this) (by decide)
  refine hk s' S' ⟨h', fun q hq => ?_⟩ m' fun c hc => ?_
  · rcases List.mem_append.1 hq with hq | hq
    · exact hoff (h.dat q hq)
    · rw [List.mem_singleton] at hq; subst hq; exact hoff hr
  · obtain ⟨o, hc⟩ := hc
    rcases ha with e | ⟨b, e, hb⟩
    · exact .inl ⟨o, by rw [← e]; exact hc⟩
    · rw [e] at hc; cases hc; exact .inr hb
set_option maxHeartbeats 2000000 in
/-- All records. -/
theorem s8 {S : St} {sb : Nat} {mr : Option Nat} {L : List Im} (h : ShAt S sb mr L) (hL : L.length ≤ 10000) (hlen : ∀ x ∈ L, x.2.length ≤ 1000000) {k : Value → St → Prop}
    (hk : ∀ (s : Sl) (l : List Rc) S', Ext S S' → RecsD S' s l → l.map imR = L → k (.slice s.a s.len s.cap) S') : WC E0 8 [.pointer (some ⟨sb, 0, none⟩)] S k := by
  refine w8 _ ?_
  unfold c8
  have hout0 : OutR S.next S ⟨none, 0, 0⟩ [] := ⟨.inl ⟨rfl, rfl⟩, by simp⟩
  have hX := Cx.start (S := S) noB hout0 OutR.frm fun c hc => OutR.lt hout0 hc
  refine hX.new fun b1 S1 hX hb1 _ => ?_
  refine hX.new fun b2 S2 hX hb2 _ => ?_
  refine hX.ld 1 rfl (by kernel_rfl) (some ⟨sb, 0, none⟩ : Option Addr) rfl ?_
  refine evC_of (w22 _ ?_)
  unfold c22
  refine hX.new fun bc S3 hX hbc _ => ⟨_, rfl, ?_⟩
  refine hX.new fun b3 S4 hX _ _ => ?_
  rintro b4 S5 K rfl rfl hLL hR
  have hX := hX.record (o := K .ready none)
  generalize (S4.alloc (K .ready none)).2 = S5 at hX ⊢
  generalize hb4 : S4.next = b4 at hX hR ⊢
  refine WG_of rfl (s40 (y := .func (.yield b4) #[] #[]) (c1 := bc) (hX.at 2 rfl) (h.ext hX.mod) hL fun ks S6 e6 hks hown => ?_)
  have hX6 := hX.ext e6
  have hfr : Frm (fun c => outF ⟨none, 0, 0⟩ ([] : List Rc) c ∨ slO ks c) (fun S' => OutR S.next S' ⟨none, 0, 0⟩ [] ∧ KsAt S' ks (L.map Prod.fst)) := OutR.frm.and KsAt.frm
  refine ⟨fun i S' => ∃ (s : Sl) (l : List Rc), Cx noB S S' [(b4, K .ready none), (b3, .deferred), (bc, .cells [.pointer (some ⟨sb, 0, none⟩)] none false none), (b2, .cells [.slice s.a s.len s.cap] none false none), (b1, .cells [.pointer (some ⟨sb, 0, none⟩)] none false none)] (fun c => outF s l c ∨ slO ks c) (fun S' => OutR S.next S' s l ∧ KsAt S' ks (L.map Prod.fst)) ∧ l.map imR = L.take i, ?_, ?_, ?_, ?_⟩
  · refine ⟨⟨none, 0, 0⟩, [], ?_, by simp⟩
    refine hX.op e6 (fun c h => h.elim) (fun c h => h.elim) ⟨hX6.p, hks⟩ hfr (fun c hc => ?_) (fun c hc => ?_)
    · rcases hc with hc | hc
      · exact .inl hc
      · exact .inr (hown c hc).1
    · rcases hc with hc | hc
      · exact hX6.lt c hc
      · exact (hown c hc).2
  · rintro i S' ⟨s, l, hC, _⟩
    exact hC.p.2
  · rintro i hi S' S7 ⟨s, l, hC, hli⟩ e7
    have hC := hC.ext e7
    have hll : l.length = i := by have := congrArg List.length hli; simpa [List.length_take, Nat.min_eq_left (Nat.le_of_lt hi)] using this
    refine hR (L[i].1 : Int × Int) S7 _ ?_
    refine hC.has 0 rfl ?_
    refine hC.new fun b5 S8 hC _ _ => ?_
    refine hC.st 0 2 rfl (by kernel_rfl) rfl (Nat.le_of_ble_eq_true rfl) rfl rfl fun S9 hC _ => ?_
    refine hC.has 1 rfl ?_
    refine hC.upd 1 rfl fun S10 hC _ => ?_
    refine hC.ld 4 rfl (by kernel_rfl) s rfl ?_
    refine hC.ld 5 rfl (by kernel_rfl) (some ⟨sb, 0, none⟩ : Option Addr) rfl ?_
    refine hC.lda 0 rfl (by kernel_rfl) (L[i].1 : Int × Int) rfl ?_
    refine evC_of (s23 (h.ext hC.mod) hlen (x := L[i]) (List.getElem_mem hi) fun s' S11 e11 hg hfr' => ⟨(L[i].1.1, L[i].1.2, s'), rfl, ?_⟩)
    have hC11 := hC.ext e11
    refine hC11.ld 4 rfl (by kernel_rfl) s rfl ?_
    refine sameV_of ?_
    have hCd : Cx noB S S11 _ (fun c => (outF s l c ∨ slO ks c) ∨ slO s' c) (fun S' => (OutR S.next S' s l ∧ KsAt S' ks (L.map Prod.fst)) ∧ GB S' s' L[i].2) :=
      hC.op e11 (fun c h => h.elim) (fun c h => h.elim) ⟨hC11.p, hg⟩ ((OutR.frm.and KsAt.frm).and GB.frm) (fun c hc => hc.imp id fun hc => hfr' c hc) (fun c hc => by
        rcases hc with hc | hc
        · exact hC11.lt c hc
        · exact GB.lt hg hc)
    refine hCd.new fun b6 S12 hCd hb6 _ => ?_
    refine hCd.ld 5 rfl (by kernel_rfl) s rfl ?_
    refine sameV_of ?_
    have hnx : S.next ≤ S12.next := hCd.mod.next
    refine OutR.put (r := (L[i].1.1, L[i].1.2, s', L[i].2)) hCd.p.1.1 hnx (by omega) hCd.p.2 (hCd.at 0 rfl) fun s4 S13 hout m13 hs4 => ?_
    have hks13 : KsAt S13 ks (L.map Prod.fst) := by
      refine KsAt.frm _ _ _ m13.kp (fun c hc hcs => ?_) hCd.p.1.2
      rcases hCd.p.1.2 with ⟨_, rfl⟩ | ⟨b, rfl, hat⟩
      · obtain ⟨o, hc⟩ := hc; cases hc
      · obtain ⟨o, hc⟩ := hc; cases hc
        rcases hCd.p.1.1.row with ⟨_, rfl⟩ | ⟨b2, rest, _, rfl, hat2, _⟩
        · obtain ⟨o, hcs⟩ := hcs; cases hcs
        · obtain ⟨o, hcs⟩ := hcs; cases hcs
          have := (DObj.cells.inj (Option.some.inj (hat.get.symm.trans hat2.get))).2.1
          cases this
    have hCe : Cx noB S S13 _ (fun c => outF s4 (l ++ [(L[i].1.1, L[i].1.2, s', L[i].2)]) c ∨ slO ks c) (fun S' => OutR S.next S' s4 (l ++ [(L[i].1.1, L[i].1.2, s', L[i].2)]) ∧ KsAt S' ks (L.map Prod.fst)) :=
      hCd.op m13 (fun c hc => .inl (.inl (.inl hc))) (fun c hc hlt => by have := (GrX.lt' hCd.p.1.1.row hc).1; omega) ⟨hout, hks13⟩ (OutR.frm.and KsAt.frm) (fun c hc => by
        rcases hc with (hc | ⟨r, hr, hc⟩) | hc
        · rcases hs4 c hc with h | h
          · exact .inl (.inl (.inl (.inl h)))
          · exact .inr h
        · rcases List.mem_append.1 hr with hr | hr
          · exact .inl (.inl (.inl (.inr ⟨r, hr, hc⟩)))
          · rw [List.mem_singleton] at hr; subst hr; exact .inl (.inr hc)
        · exact .inl (.inl (.inr hc))) (fun c hc => by
        rcases hc with hc | hc
        · exact OutR.lt hout hc
        · rcases hks13 with ⟨_, rfl⟩ | ⟨b, rfl, hat⟩
          · obtain ⟨o, hc⟩ := hc; cases hc
          · obtain ⟨o, hc⟩ := hc; cases hc; exact hat.lt)
    refine hCe.st 5 1 rfl (by kernel_rfl) rfl (Nat.le_of_ble_eq_true rfl) rfl rfl fun S14 hCe _ => ?_
    refine hCe.has 2 rfl ?_
    refine hCe.upd 2 rfl fun S15 hCe _ => ?_
    refine ⟨fun _ => ⟨s4, l ++ [(L[i].1.1, L[i].1.2, s', L[i].2)], hCe.tl 2, ?_⟩, fun h => by cases h⟩
    rw [List.map_append, hli, List.take_succ_eq_append_getElem hi]
    rfl
  · rintro S' ⟨s, l, hC, hli⟩
    refine .inl ?_
    refine hC.has 0 rfl ?_
    refine hC.upd 0 rfl fun S16 hC _ => ?_
    refine hC.ld 3 rfl (by kernel_rfl) s rfl ?_
    refine hC.has 1 rfl ?_
    refine hC.upd 1 rfl fun S17 hC _ => ?_
    rw [List.take_length] at hli
    exact hk s l S17 hC.mod hC.p.1.of hli
end
end Go.Proofs.Ytcdignblakejoaa
