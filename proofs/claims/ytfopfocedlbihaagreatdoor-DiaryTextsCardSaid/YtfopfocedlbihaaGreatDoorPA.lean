/- Parts of the proof, put together. -/
import Derived.Test.YtfopfocedlbihaaGreatDoorDJ
import Derived.Test.YtfopfocedlbihaaGreatDoorDK
import Derived.Test.YtfopfocedlbihaaGreatDoorOC
import Derived.Test.YtfopfocedlbihaaGreatDoorDI
import Derived.Test.YtfopfocedlbihaaGreatDoorCB
/- Pages: many of them; the laws. -/
namespace Go.Proofs.YtfopfocedlbihaaGreatDoor
open Go Go.Proofs.YtfopfocedlbihaaGreatDoor.D
set_option linter.unusedVariables false
set_option linter.unusedSimpArgs false
noncomputable section

abbrev mayD (x : Pgd) : Prop := mayG x.1 x.2.1 x.2.2
def textG (l : List Pgd) : List UInt8 := l.flatMap fun x => lineG x.1 x.2.1 x.2.2 ++ [10]
def textGP (l : List Pgd) : List UInt8 × Int := if l.length ≤ 10000 ∧ ∀ x ∈ l, mayD x then (textG l, 0) else ([], 280)
theorem textG_snoc (l : List Pgd) (x : Pgd) : textG (l ++ [x]) = textG l ++ (lineG x.1 x.2.1 x.2.2 ++ [10]) := by simp [textG]
theorem lineG_len {x : Pgd} (hw : OrdW x.1) (hm : mayD x) : (lineG x.1 x.2.1 x.2.2).length ≤ 70000 := by
  have h1 := line_len hw
  have h2 := itoa_len (n := x.2.1) (by have := hm.2.1; unfold i64; omega)
  have h3 := flat_le hm.2.2.2.2
  have h4 := hm.2.2.1
  unfold lineG
  simp only [List.length_append, List.length_cons, List.length_nil]
  omega
theorem textG_len : ∀ {l : List Pgd}, (∀ x ∈ l, OrdW x.1) → (∀ x ∈ l, mayD x) → (textG l).length ≤ 70001 * l.length
  | [], _, _ => by simp [textG]
  | x :: l, hw, hm => by
    have h1 := lineG_len (hw x List.mem_cons_self) (hm x List.mem_cons_self)
    have h2 := textG_len (l := l) (fun y hy => hw y (List.mem_cons_of_mem _ hy)) (fun y hy => hm y (List.mem_cons_of_mem _ hy))
    have e : textG (x :: l) = lineG x.1 x.2.1 x.2.2 ++ [10] ++ textG l := by simp [textG]
    rw [e]
    simp only [List.length_append, List.length_cons, List.length_nil]
    omega
/-- A text's diary. -/
def pgA : List UInt8 → List Pgd → Nat → List UInt8 → List Pgd × Int × Int
  | cur, acc, n, [] => if cur = [] then (acc, 0, 0) else ([], ((n + 1 : Nat) : Int), 280)
  | cur, acc, n, c :: r => if c = 10 then (if (rdA cur).2 ≠ 0 ∨ 10000 < n + 1 then ([], ((n + 1 : Nat) : Int), 280) else pgA [] (acc ++ [(rdA cur).1]) (n + 1) r) else pgA (cur ++ [c]) acc n r
def pgP (s : List UInt8) : List Pgd × Int × Int := pgA [] [] 0 s
theorem pgA_pre : ∀ (u cur : List UInt8) (acc : List Pgd) (n : Nat) (r : List UInt8), 10 ∉ u → pgA cur acc n (u ++ r) = pgA (cur ++ u) acc n r
  | [], cur, acc, n, r, _ => by simp
  | c :: u, cur, acc, n, r, h => by
    have hc : ¬ c = 10 := fun e => h (by simp [e])
    have hu : 10 ∉ u := fun e => h (by simp [e])
    rw [List.cons_append, pgA, if_neg hc, pgA_pre u _ acc n r hu]
    simp
theorem pgA_line (u : List UInt8) (acc : List Pgd) (n : Nat) (r : List UInt8) (h : 10 ∉ u) : pgA [] acc n (u ++ [10] ++ r) = if (rdA u).2 ≠ 0 ∨ 10000 < n + 1 then ([], ((n + 1 : Nat) : Int), 280) else pgA [] (acc ++ [(rdA u).1]) (n + 1) r := by
  rw [List.append_assoc, pgA_pre u [] acc n _ h, List.nil_append, List.singleton_append, pgA, if_pos rfl]
theorem pgA_last (u : List UInt8) (acc : List Pgd) (n : Nat) (h : 10 ∉ u) (h0 : u ≠ []) : pgA [] acc n u = ([], ((n + 1 : Nat) : Int), 280) := by
  have := pgA_pre u [] acc n [] h
  rw [List.append_nil] at this
  rw [this, List.nil_append, pgA, if_neg h0]
theorem rdA_2 (s : List UInt8) : (rdA s).2 = 0 ∨ (rdA s).2 = 280 := by
  unfold rdA
  split
  · unfold outG
    split
    · exact .inl rfl
    · exact .inr rfl
  · exact .inr rfl
theorem rdA_w (s : List UInt8) : OrdW (rdA s).1.1 := by
  have hz : OrdW zeroG.1 := by constructor <;> simp [i64, zeroO, zeroG]
  unfold rdA
  split
  · unfold outG
    split
    · exact rdL_w
    · exact hz
  · exact hz
theorem rdA_ok {s : List UInt8} (h : (rdA s).2 = 0) : mayD (rdA s).1 ∧ lineG (rdA s).1.1 (rdA s).1.2.1 (rdA s).1.2.2 = s := by
  unfold rdA at h ⊢
  by_cases hc : (Lib.cut s [32, 61, 32]).2.2 = true ∧ (rdL (Lib.cut s [32, 61, 32]).1).2 = 0
  · rw [if_pos hc] at h ⊢
    unfold outG at h ⊢
    by_cases hd : mayG (candGA s).1 (candGA s).2.1 (candGA s).2.2 ∧ lineG (candGA s).1 (candGA s).2.1 (candGA s).2.2 = s
    · rw [if_pos hd]; exact hd
    · rw [if_neg hd] at h; cases h
  · rw [if_neg hc] at h; cases h
theorem rdA_len (s : List UInt8) : (rdA s).1.2.2.length ≤ 1000 := by
  unfold rdA
  split
  · unfold outG
    split
    · rename_i h; exact h.1.2.2.1
    · decide
  · decide
theorem pgA_len : ∀ (r cur : List UInt8) (acc : List Pgd) (n : Nat), (pgA cur acc n r).1.length ≤ acc.length + r.length
  | [], cur, acc, n => by unfold pgA; split <;> simp
  | c :: r, cur, acc, n => by
    unfold pgA
    split
    · split
      · simp
      · have := pgA_len r [] (acc ++ [(rdA cur).1]) (n + 1)
        simp at this ⊢; omega
    · have := pgA_len r (cur ++ [c]) acc n
      simp at this ⊢; omega
theorem pg_len (s : List UInt8) : (pgP s).1.length ≤ s.length := by
  have := pgA_len s [] [] 0
  unfold pgP
  simpa using this
/-- What may be said of all that is read. -/
theorem pgA_all {p : Pgd → Prop} (hr : ∀ s, p (rdA s).1) : ∀ (r cur : List UInt8) (acc : List Pgd) (n : Nat), (∀ x ∈ acc, p x) → ∀ x ∈ (pgA cur acc n r).1, p x
  | [], cur, acc, n, h => by
    unfold pgA
    split
    · exact h
    · intro x hx; cases hx
  | c :: r, cur, acc, n, h => by
    unfold pgA
    split
    · split
      · intro x hx; cases hx
      · refine pgA_all hr r [] (acc ++ [(rdA cur).1]) (n + 1) fun x hx => ?_
        rcases List.mem_append.1 hx with hx | hx
        · exact h x hx
        · rw [List.mem_singleton.1 hx]; exact hr _
    · exact pgA_all hr r (cur ++ [c]) acc n h
theorem pg_w (s : List UInt8) : ∀ x ∈ (pgP s).1, OrdW x.1 := pgA_all (p := fun x => OrdW x.1) rdA_w s [] [] 0 (by simp)
theorem pg_stl (s : List UInt8) : ∀ x ∈ (pgP s).1, x.2.2.length ≤ 1000 := pgA_all (p := fun x => x.2.2.length ≤ 1000) rdA_len s [] [] 0 (by simp)
/-! ### There and back -/
theorem nm10 (k : Int) : (10 : UInt8) ∉ nmL k := by
  unfold nmL
  split
  · rename_i h
    have : ∀ n : Nat, n ≤ 9 → (10 : UInt8) ∉ tabW.getD n [] := by decide
    exact this k.toNat (by omega)
  · simp
theorem words10 (x : Ord) : ∀ w ∈ wordsO x, (10 : UInt8) ∉ w := by
  intro w hw
  unfold wordsO at hw
  rcases List.mem_cons.1 hw with rfl | hw
  · exact nm10 _
  · obtain ⟨c, _, rfl⟩ := List.mem_map.1 hw
    unfold wordO
    repeat' split
    all_goals first | exact itoa_no (by unfold digB; decide) (by decide) _ | exact fun h => absurd (dec_dig _ _ h) (by unfold digB; decide) | decide
theorem stepL10 (y : Stp) : (10 : UInt8) ∉ stepL y := by
  unfold stepL
  simp only [List.mem_append, List.mem_cons, List.not_mem_nil, or_false, not_or]
  exact ⟨⟨⟨⟨nmS_no (by decide) _, by decide⟩, itoa_no (by unfold digB; decide) (by decide) _⟩, by decide⟩, itoa_no (by unfold digB; decide) (by decide) _⟩
theorem lineG10 (x : Pgd) : (10 : UInt8) ∉ lineG x.1 x.2.1 x.2.2 := by
  rw [lineG_words]
  refine jn_no (by decide) _ fun w hw => ?_
  rcases List.mem_append.1 hw with hw | hw
  · exact words10 _ w hw
  rcases List.mem_cons.1 hw with rfl | hw
  · decide
  rcases List.mem_cons.1 hw with rfl | hw
  · exact itoa_no (by unfold digB; decide) (by decide) _
  · obtain ⟨y, _, rfl⟩ := List.mem_map.1 hw
    exact stepL10 y
theorem pgA_text : ∀ (l : List Pgd) (acc : List Pgd) (n : Nat), (∀ x ∈ l, mayD x) → (∀ x ∈ l, OrdW x.1) → n + l.length ≤ 10000 → pgA [] acc n (textG l) = (acc ++ l, 0, 0)
  | [], acc, n, _, _, _ => by simp [textG, pgA]
  | x :: l, acc, n, hm, hw, hn => by
    have e : textG (x :: l) = lineG x.1 x.2.1 x.2.2 ++ [10] ++ textG l := by simp [textG]
    rw [List.length_cons] at hn
    rw [e, pgA_line _ _ _ _ (lineG10 x), rdA_line (hm x List.mem_cons_self) (hw x List.mem_cons_self), if_neg (fun h => h.elim (fun h => h rfl) (fun h => by omega)),
      pgA_text l _ _ (fun y hy => hm y (List.mem_cons_of_mem _ hy)) (fun y hy => hw y (List.mem_cons_of_mem _ hy)) (by omega)]
    simp
theorem pg_text {l : List Pgd} (hm : ∀ x ∈ l, mayD x) (hw : ∀ x ∈ l, OrdW x.1) (hn : l.length ≤ 10000) : pgP (textG l) = (l, 0, 0) := by
  unfold pgP
  rw [pgA_text l [] 0 hm hw (by omega), List.nil_append]
theorem pgA_back : ∀ (r cur : List UInt8) (acc : List Pgd) (n : Nat), (∀ x ∈ acc, mayD x) → acc.length = n → n ≤ 10000 → (pgA cur acc n r).2.2 = 0 → (∀ x ∈ (pgA cur acc n r).1, mayD x) ∧ textG (pgA cur acc n r).1 = textG acc ++ (cur ++ r) ∧ (pgA cur acc n r).1.length ≤ 10000
  | [], cur, acc, n, hm, ha, hn => by
    unfold pgA
    split
    · rename_i h
      intro _
      exact ⟨hm, by simp [h], by show acc.length ≤ 10000; omega⟩
    · intro h; cases h
  | c :: r, cur, acc, n, hm, ha, hn => by
    unfold pgA
    split
    · rename_i hc
      split
      · intro h; cases h
      · rename_i hb
        have h2 : (rdA cur).2 = 0 := Classical.byContradiction fun h => hb (.inl h)
        have hn2 : ¬ 10000 < n + 1 := fun h => hb (.inr h)
        obtain ⟨h3, h4⟩ := rdA_ok h2
        intro h
        obtain ⟨k1, k2, k3⟩ := pgA_back r [] (acc ++ [(rdA cur).1]) (n + 1) (fun x hx => by
          rcases List.mem_append.1 hx with hx | hx
          · exact hm x hx
          · rw [List.mem_singleton.1 hx]; exact h3) (by simp [ha]) (by omega) h
        refine ⟨k1, ?_, k3⟩
        rw [k2, textG_snoc, h4, hc]
        simp
    · intro h
      obtain ⟨k1, k2, k3⟩ := pgA_back r (cur ++ [c]) acc n hm ha hn h
      exact ⟨k1, by rw [k2]; simp, k3⟩
theorem pg_back {s : List UInt8} (h : (pgP s).2.2 = 0) : textGP (pgP s).1 = (s, 0) := by
  obtain ⟨k1, k2, k3⟩ := pgA_back s [] [] 0 (by simp) rfl (by omega) h
  unfold pgP
  unfold textGP
  rw [if_pos ⟨k3, k1⟩, k2]
  simp [textG]
theorem pgA_bad : ∀ (r cur : List UInt8) (acc : List Pgd) (n : Nat), (pgA cur acc n r).2.2 ≠ 0 → (pgA cur acc n r).1 = []
  | [], cur, acc, n => by
    unfold pgA
    split
    · intro h; exact (h rfl).elim
    · intro _; rfl
  | c :: r, cur, acc, n => by
    unfold pgA
    split
    · split
      · intro _; rfl
      · exact pgA_bad r _ _ _
    · exact pgA_bad r _ _ _
theorem textGP_ok {l : List Pgd} (h : (textGP l).2 = 0) : (textGP l).1 = textG l ∧ l.length ≤ 10000 ∧ ∀ x ∈ l, mayD x := by
  unfold textGP at h ⊢
  by_cases hc : l.length ≤ 10000 ∧ ∀ x ∈ l, mayD x
  · rw [if_pos hc]; exact ⟨rfl, hc⟩
  · rw [if_neg hc] at h; cases h
end
end Go.Proofs.YtfopfocedlbihaaGreatDoor

/- Pages: many of them in memory. -/
namespace Go.Proofs.YtfopfocedlbihaaGreatDoor
open Go Go.Proofs.YtfopfocedlbihaaGreatDoor.D
set_option linter.unusedVariables false
set_option linter.unusedSimpArgs false
noncomputable section

/-- A page in memory, and its steps. -/
abbrev PL := Pg × List Stp
abbrev fP (p : PL) : List Value := cellsG p.1
def dG (p : PL) : Pgd := (pO p.1, pE p.1, p.2)
def PSt (S : St) (ps : List PL) : Prop := ∀ p ∈ ps, Sts S (pS p.1) p.2
theorem PSt.ext {S S' : St} {ps : List PL} (h : PSt S ps) (e : Ext S S') : PSt S' ps := fun p hp => Ext.slOf e (h p hp)
theorem PSt.at {S : St} {ps : List PL} (h : PSt S ps) {n : Nat} (hn : n < ps.length) : Sts S (pS ps[n].1) ps[n].2 := h _ (List.getElem_mem hn)
structure Pgs (S : St) (s : Sl) (ps : List PL) : Prop where
  sl : SlOf fP 8 S s ps
  st : PSt S ps
theorem Pgs.ext {S S' : St} {s : Sl} {ps : List PL} (h : Pgs S s ps) (e : Ext S S') : Pgs S' s ps := ⟨Ext.slOf e h.sl, h.st.ext e⟩
theorem Pgs.len {S : St} {s : Sl} {ps : List PL} (h : Pgs S s ps) : s.len = ps.length := h.sl.len
theorem Pgs.ix {S : St} {s : Sl} {ps : List PL} (h : Pgs S s ps) {n : Nat} (hn : n < ps.length) {k : Pg → Prop} (hk : k ps[n].1) : idxW s.a s.len (n : Int) fun b1 b2 => evV (TT.one (Ty.agg G38)) (loadV E0 S 39 (.pointer (some ⟨b1, b2 + Int.toNat (n : Int) * 8, none⟩))) k := by
  refine h.sl.idxL (f := fP) (sz := 8) (fun _ => rfl) h.sl.len hn fun b o cs m ro fz hat _ hv => ?_
  exact ⟨ps[n].1, load_agg hat (by kernel_rfl) hv rfl, hk⟩
/-- What is owned: the pages' slice, and their steps. -/
def pgO (sl : Sl) (ps : List PL) (c : Nat) : Prop := slO sl c ∨ ∃ p ∈ ps, SlB (pS p.1) p.2 c
abbrev PF (sl : Sl) (acc ps : List PL) (S : St) : Prop := GrX fP 8 0 S sl acc ∧ PSt S ps
theorem pf_frm {sl : Sl} {acc ps : List PL} : Frm (pgO sl ps) (PF sl acc ps) := by
  intro F S S' m hF h
  refine ⟨grX_frm F S S' m (fun c hc => hF c (.inl hc)) h.1, fun p hp => ?_⟩
  exact Frm.sl F S S' m (fun c hc => hF c (.inr ⟨p, hp, hc⟩)) (h.2 p hp)
theorem pf_lt {S : St} {sl : Sl} {acc ps : List PL} (h : PF sl acc ps S) {c : Nat} (hc : pgO sl ps c) : c < S.next := by
  rcases hc with hc | ⟨p, hp, hc⟩
  · exact grX_lt h.1 hc
  · exact SlOf.lt (h.2 p hp) hc
structure Pk (S0 S : St) (L : List (Nat × DObj)) (sl : Sl) (acc ps : List PL) : Prop where
  cx : Cx noB S0 S L (pgO sl ps) (PF sl acc ps)
  new : ∀ c, pgO sl ps c → S0.next ≤ c
  sep : ∀ p ∈ ps, ∀ c, SlB (pS p.1) p.2 c → ¬ slO sl c
theorem Pk.with {S0 S S' : St} {L L' : List (Nat × DObj)} {sl : Sl} {acc ps : List PL} (h : Pk S0 S L sl acc ps) (hL : Cx noB S0 S' L' (pgO sl ps) (PF sl acc ps)) : Pk S0 S' L' sl acc ps := ⟨hL, h.new, h.sep⟩
theorem slB_slO {x : Sl} {α : Type} {l : List α} {c : Nat} (h : SlB x l c) : slO x c := h.2
/-- A page is read. -/
theorem Pk.read {S0 S S' : St} {L : List (Nat × DObj)} {sl : Sl} {acc : List PL} {x : Pg} {l : List Stp} (h : Pk S0 S L sl acc acc) (e : Ext S S') (g : GrX cellsS 3 0 S' (pS x) l) (h3 : ∀ c, slO (pS x) c → S.next ≤ c) : Pk S0 S' L sl acc (acc ++ [(x, l)]) := by
  have hx : Sts S' (pS x) l := GrX.of (f := cellsS) (sz := 3) (fun _ => rfl) g
  have hc := h.cx.ext e
  have hn := h.cx.mod.next
  have hP : PF sl acc (acc ++ [(x, l)]) S' := ⟨hc.p.1, fun p hp => by
    rcases List.mem_append.1 hp with hp | hp
    · exact hc.p.2 p hp
    · rw [List.mem_singleton.1 hp]; exact hx⟩
  have hO : ∀ c, pgO sl (acc ++ [(x, l)]) c → pgO sl acc c ∨ S.next ≤ c := by
    rintro c (hc | ⟨p, hp, hc⟩)
    · exact .inl (.inl hc)
    · rcases List.mem_append.1 hp with hp | hp
      · exact .inl (.inr ⟨p, hp, hc⟩)
      · rw [List.mem_singleton.1 hp] at hc
        exact .inr (h3 c (slB_slO hc))
  refine ⟨h.cx.op e (fun _ h => h.elim) (fun _ h => h.elim) hP pf_frm hO (fun c hc => pf_lt hP hc), fun c hc => ?_, fun p hp c hc hs => ?_⟩
  · rcases hO c hc with hc | hc
    · exact h.new c hc
    · omega
  · rcases List.mem_append.1 hp with hp | hp
    · exact h.sep p hp c hc hs
    · rw [List.mem_singleton.1 hp] at hc
      have h1 := h3 c (slB_slO hc)
      have h2 := h.cx.lt c (.inl hs)
      omega
theorem und22 : E0.und 22 = some (.slice 39) := by kernel_rfl
theorem inf39 : E0.inf 39 = some DEnv.i39 := by kernel_rfl
theorem bytes39 : DEnv.i39.bytes = 80 := by kernel_rfl
theorem zero39 : DEnv.i39.zero = some (.agg #[.int .i64 0, .int .i64 0, .int .i64 0, .int .i64 0, .int .i64 0, .int .u64 0, .int .i64 0, .slice none 0 0]) := by kernel_rfl
/-- It is appended. -/
theorem Pk.app {S0 S : St} {L : List (Nat × DObj)} {sl : Sl} {acc : List PL} {p : PL} (h : Pk S0 S L sl acc (acc ++ [p])) (i : Nat) {b : Nat} (hi : L[i]? = some (b, .cells (cellsG p.1) none false none)) (hl : acc.length ≤ 100000000)
    {k : Sl → St → Prop} (hk : ∀ s' S', Pk S0 S' L s' (acc ++ [p]) (acc ++ [p]) → k s' S') :
    evP tS (appendD E0 S 22 22 (.slice sl.a sl.len sl.cap) (.slice (some ⟨b, 0, none⟩) 1 1)) k := by
  have hp0 := h.cx.p
  refine GrX.append (E := E0) (f := fP) (sz := 8) (N := 0) (fun _ => rfl) (by omega) hp0.1 und22 inf39 und22 (by kernel_rfl) (by kernel_rfl) zero39 rfl (vs := [p]) rfl (firstD_box (f := fP) (sz := 8) (v := p) (fun _ => rfl) (by omega) (h.cx.at i hi)) rfl
    (show (acc.length + 1) * DEnv.i39.bytes ≤ 17592186044416 by rw [bytes39]; omega) (show acc.length + 1 ≤ 17592186044416 by omega) (by simp) (show (acc.length + 1) * 8 < inex by have h := lt_inex; omega)
    (fun s' S' g m hs' => ?_) (Nat.zero_le _)
  have hm : Mod (slO sl) S S' := m.mono fun c hc _ => ⟨0, hc.2⟩
  have hs2 : ∀ c, slO s' c → slO sl c ∨ S.next ≤ c := fun c hc => by
    obtain ⟨o, e⟩ := hc
    rcases hs' with h | ⟨b', h, h'⟩
    · exact .inl ⟨o, by rw [← h]; exact e⟩
    · rw [h] at e; cases e; exact .inr h'
  have hn := h.cx.mod.next
  have hP : PF s' (acc ++ [p]) (acc ++ [p]) S' := ⟨g, fun q hq => Frm.sl (slO sl) S S' hm.kp (fun c hc => h.sep q hq c hc) (hp0.2 q hq)⟩
  have hO : ∀ c, pgO s' (acc ++ [p]) c → pgO sl (acc ++ [p]) c ∨ S.next ≤ c := by
    rintro c (hc | hc)
    · exact (hs2 c hc).imp .inl id
    · exact .inl (.inr hc)
  refine hk s' S' ⟨h.cx.op hm (fun c hc => .inl hc) (fun c hc hlt => by have := h.new c (.inl hc); omega) hP pf_frm hO (fun c hc => pf_lt hP hc), fun c hc => ?_, fun q hq c hc hs => ?_⟩
  · rcases hO c hc with hc | hc
    · exact h.new c hc
    · omega
  · rcases hs2 c hs with h1 | h1
    · exact h.sep q hq c hc h1
    · have := SlOf.lt (hp0.2 q hq) hc
      omega
theorem pgO_nil {c : Nat} (h : pgO ⟨none, 0, 0⟩ [] c) : False := by
  rcases h with ⟨o, hc⟩ | ⟨p, hp, _⟩
  · cases hc
  · cases hp
theorem Pk.start (S : St) : Pk S S [] ⟨none, 0, 0⟩ [] [] :=
  ⟨Cx.start (S := S) noB (P := PF ⟨none, 0, 0⟩ [] []) ⟨.inl ⟨rfl, rfl⟩, fun p hp => by cases hp⟩ pf_frm (fun c hc => (pgO_nil hc).elim), fun c hc => (pgO_nil hc).elim, fun p hp => by cases hp⟩
end
end Go.Proofs.YtfopfocedlbihaaGreatDoor

/- Pages: a diary's text. -/
namespace Go.Proofs.YtfopfocedlbihaaGreatDoor
open Go Go.Proofs.YtfopfocedlbihaaGreatDoor.D
set_option linter.unusedVariables false
set_option linter.unusedSimpArgs false
noncomputable section

theorem s15 {S : St} {x : Pg} {l : List Stp} {k : Value → St → Prop} (g : Gl S) (h : Sts S (pS x) l) (hk : ∀ S', Ext S S' → k (.bool (!eqI (chkG (pO x) (pE x) l) 0)) S') : WC E0 15 [sv G38 x] S k := by
  refine w15 x ?_
  unfold c15
  have hL := Hld.start noB S
  refine hL.new fun b1 S1 hL _ _ => ?_
  (first | refine hL.ld 0 rfl (by kernel_rfl) _ rfl ?_ | refine hL.ld 1 rfl (by kernel_rfl) _ rfl ?_ | refine hL.ld 2 rfl (by kernel_rfl) _ rfl ?_ | refine hL.ld 3 rfl (by kernel_rfl) _ rfl ?_ | refine hL.ld 4 rfl (by kernel_rfl) _ rfl ?_ | refine hL.ld 5 rfl (by kernel_rfl) _ rfl ?_ | refine hL.ld 6 rfl (by kernel_rfl) _ rfl ?_ | refine hL.ld 7 rfl (by kernel_rfl) _ rfl ?_ | refine hL.lda 0 rfl (by kernel_rfl) _ rfl ?_ | refine hL.lda 1 rfl (by kernel_rfl) _ rfl ?_ | refine hL.lda 2 rfl (by kernel_rfl) _ rfl ?_ | refine hL.lda 3 rfl (by kernel_rfl) _ rfl ?_ | refine hL.lda 4 rfl (by kernel_rfl) _ rfl ?_ | refine hL.lda 5 rfl (by kernel_rfl) _ rfl ?_ | refine hL.lda 6 rfl (by kernel_rfl) _ rfl ?_ | refine hL.lda 7 rfl (by kernel_rfl) _ rfl ?_)
  refine evC_of (s16 (g.ext hL.mod) (Ext.slOf hL.mod h) fun S2 e2 => ⟨_, rfl, ?_⟩)
  exact hk _ (hL.ext e2).mod
theorem chkG_bad (o : Ord) (e : Int) (l : List Stp) : (!eqI (chkG o e l) 0) = decide (¬ mayG o e l) := by
  unfold chkG
  by_cases h : mayG o e l
  · rw [if_pos h, eqI_eq]; simp [h]
  · rw [if_neg h, eqI_eq]; simp [h]
theorem s27 {S : St} {s : Sl} {ps : List PL} {k : Value → St → Prop} (g : Gl S) (h : Pgs S s ps) (hlen : ps.length ≤ 1000000) (hk : ∀ i S', Ext S S' → (0 ≤ i ↔ ∃ p ∈ ps, ¬ mayD (dG p)) → k (.int .i64 i) S') :
    WC E0 27 [.slice s.a s.len s.cap, .func (.func 15) #[] #[]] S k := by
  refine w27 s _ ?_
  unfold c27
  refine loopW_ind (fun q (n1 : Int) S' => ∃ n : Nat, n1 = n ∧ n ≤ ps.length ∧ q = ps.length - n ∧ Ext S S' ∧ ∀ p ∈ ps.take n, mayD (dG p)) (m := ps.length) ⟨0, rfl, by omega, rfl, Mod.refl _ _, by simp⟩ ?_
  rintro P q n1 S1 ⟨n, rfl, hn, rfl, e1, hm⟩ hP
  have hl := h.len
  refine ifW_dec (fun hlt => ?_) fun hlt => ?_
  · have hn' : n < ps.length := by rw [hl] at hlt; omega
    have h1 := h.ext e1
    refine h1.ix hn' ?_
    refine evY_func (evC_of (s15 (g.ext e1) (h1.st.at hn') fun S2 e2 => ⟨_, rfl, ?_⟩))
    rw [chkG_bad]
    refine ifW_dec (fun hb => ?_) fun hb => ?_
    · exact hk _ _ (e1.tr e2) ⟨fun _ => ⟨ps[n], List.getElem_mem hn', hb⟩, fun _ => by omega⟩
    · rw [wrap_succ (by omega)]
      refine hP _ _ _ (by omega) ⟨n + 1, rfl, by omega, rfl, e1.tr e2, ?_⟩
      rw [take_snoc hn']
      intro x hx
      rcases List.mem_append.1 hx with hx | hx
      · exact hm x hx
      · rw [List.mem_singleton.1 hx]; exact Classical.not_not.1 hb
  · have hn' : n = ps.length := by rw [hl] at hlt; omega
    refine hk _ _ e1 ⟨fun hh => by omega, fun ⟨x, hx, hb⟩ => ?_⟩
    rw [hn', List.take_length] at hm
    exact (hb (hm x hx)).elim
theorem s14 {S : St} {s : Sl} {ps : List PL} {k : Value → St → Prop} (g : Gl S) (h : Pgs S s ps) (hlen : ps.length ≤ 1000000) (hk : ∀ t S', Ext S S' → (t = true ↔ ∃ p ∈ ps, ¬ mayD (dG p)) → k (.bool t) S') :
    WC E0 14 [.slice s.a s.len s.cap, .func (.func 15) #[] #[]] S k := by
  refine w14 s _ ?_
  unfold c14
  refine evC_of (s27 g h hlen fun i S1 e1 hi => ⟨_, rfl, ?_⟩)
  exact hk _ _ e1 (by rw [leI_eq, decide_eq_true_iff]; exact hi)
theorem textGP_yes {ps : List PL} (h1 : ps.length ≤ 10000) (h2 : ∀ p ∈ ps, mayD (dG p)) : textGP (ps.map dG) = (textG (ps.map dG), 0) := by
  unfold textGP
  refine if_pos ⟨by rw [List.length_map]; exact h1, fun x hx => ?_⟩
  obtain ⟨p, hp, rfl⟩ := List.mem_map.1 hx
  exact h2 p hp
theorem textGP_no {ps : List PL} (h : ¬ (ps.length ≤ 10000 ∧ ∀ p ∈ ps, mayD (dG p))) : textGP (ps.map dG) = ([], 280) := by
  unfold textGP
  refine if_neg fun h' => h ⟨?_, fun p hp => h'.2 _ (List.mem_map_of_mem hp)⟩
  have := h'.1
  rw [List.length_map] at this
  exact this
set_option maxHeartbeats 1000000 in
theorem s5 {S : St} {s : Sl} {ps : List PL} {k : Value → St → Prop} (g : Gd S) (h : Pgs S s ps) (hps : ps.length ≤ 10001) (hw : ∀ p ∈ ps, OrdW (pO p.1)) (hk : ∀ S', Ext S S' → k (.tuple #[strV (textGP (ps.map dG)).1, .int .i64 (textGP (ps.map dG)).2]) S') : WC E0 5 [.slice s.a s.len s.cap] S k := by
  refine w5 s ?_
  unfold c5
  have hl := h.len
  by_cases hyes : ps.length ≤ 10000 ∧ ∀ p ∈ ps, mayD (dG p)
  case neg =>
    rw [textGP_no hyes] at hk
    have hno := hyes
    refine ifW_dec (fun hlt => hk S (Mod.refl _ _)) fun hlt => ?_
    refine evC_of (s14 g.g h (by omega) fun t S1 e1 ht => ⟨t, rfl, ?_⟩)
    refine ifW_of (fun hb => hk S1 e1) fun hb => ?_
    refine (hno ⟨by omega, fun p hp => ?_⟩).elim
    by_cases hm : mayD (dG p)
    · exact hm
    · have := ht.2 ⟨p, hp, hm⟩; rw [hb] at this; cases this
  obtain ⟨hlen, hm⟩ := hyes
  rw [textGP_yes hlen hm] at hk
  refine ifW_dec (fun hlt => ?_) fun hlt => ?_
  · omega
  refine evC_of (s14 g.g h (by omega) fun t S1 e1 ht => ⟨t, rfl, ?_⟩)
  refine ifW_of (fun hb => ?_) fun hb => ?_
  · obtain ⟨p, hp, hn⟩ := ht.1 hb
    exact (hn (hm p hp)).elim
  refine newW_of fun b1 S2 hb1 ha1 e2 hn2 => ?_
  have hL := (Cx.start (S := S) (P := fun _ => True) noB trivial Frm.true (fun _ h => h.elim)).ext e1
  have hB : Bl S2 b1 none [] := ⟨rfl, ha1⟩
  have hL : Cx noB S S2 [] (blO b1 none) (fun S => Bl S b1 none (textG ((ps.take 0).map dG))) :=
    hL.op e2 (fun _ h => h.elim) (fun _ h => h.elim) hB Bl.frm (fun c hc => .inr (by
      rcases hc with rfl | hc
      · omega
      · cases hc)) (fun c hc => hB.lt hc)
  have hS : S.next ≤ S1.next := e1.next
  refine loopW_ind (fun q (n1 : Int) S' => ∃ (n : Nat) (gg : Option Nat), n1 = n ∧ n ≤ ps.length ∧ q = ps.length - n ∧ Cx noB S S' [] (blO b1 gg) (fun S => Bl S b1 gg (textG ((ps.take n).map dG))) ∧ ∀ c, blO b1 gg c → S.next ≤ c) (m := ps.length)
    ⟨0, none, rfl, by omega, rfl, hL, fun c hc => by
      rcases hc with rfl | hc
      · omega
      · cases hc⟩ ?_
  rintro P q n1 S3 ⟨n, gg, rfl, hn, rfl, hL, hS3⟩ hP
  have hwt : ∀ m, (textG ((ps.take m).map dG)).length ≤ 70001 * 10000 := fun m => by
    have := textG_len (l := (ps.take m).map dG) (fun x hx => by
      obtain ⟨p, hp, rfl⟩ := List.mem_map.1 hx
      exact hw p (List.mem_of_mem_take hp)) (fun x hx => by
      obtain ⟨p, hp, rfl⟩ := List.mem_map.1 hx
      exact hm p (List.mem_of_mem_take hp))
    have h2 : ((ps.take m).map dG).length ≤ ps.length := by rw [List.length_map, List.length_take]; omega
    omega
  refine ifW_dec (fun hlt => ?_) fun hlt => ?_
  · have hn' : n < ps.length := by omega
    have h3 := h.ext hL.mod
    refine h3.ix hn' ?_
    have hx := hw ps[n] (List.getElem_mem hn')
    have hmx := hm ps[n] (List.getElem_mem hn')
    have hst := h.st.at hn'
    have hsn : (ps.take (n + 1)).map dG = (ps.take n).map dG ++ [dG ps[n]] := by rw [take_snoc hn', List.map_append]; rfl
    generalize ps[n] = p at hx hmx hsn hst ⊢
    obtain ⟨x, l⟩ := p
    refine hL.new fun b4 S4 hL _ _ => ?_
    (first | refine hL.st 0 _ rfl (by kernel_rfl) rfl (Nat.le_of_ble_eq_true rfl) rfl rfl fun S5 hL hn5 => ?_ | refine hL.st 1 _ rfl (by kernel_rfl) rfl (Nat.le_of_ble_eq_true rfl) rfl rfl fun S5 hL hn5 => ?_ | refine hL.st 2 _ rfl (by kernel_rfl) rfl (Nat.le_of_ble_eq_true rfl) rfl rfl fun S5 hL hn5 => ?_ | refine hL.st 3 _ rfl (by kernel_rfl) rfl (Nat.le_of_ble_eq_true rfl) rfl rfl fun S5 hL hn5 => ?_ | refine hL.st 4 _ rfl (by kernel_rfl) rfl (Nat.le_of_ble_eq_true rfl) rfl rfl fun S5 hL hn5 => ?_ | refine hL.st 5 _ rfl (by kernel_rfl) rfl (Nat.le_of_ble_eq_true rfl) rfl rfl fun S5 hL hn5 => ?_ | refine hL.st 6 _ rfl (by kernel_rfl) rfl (Nat.le_of_ble_eq_true rfl) rfl rfl fun S5 hL hn5 => ?_ | refine hL.st 7 _ rfl (by kernel_rfl) rfl (Nat.le_of_ble_eq_true rfl) rfl rfl fun S5 hL hn5 => ?_)
    refine hL.lda 0 rfl (by kernel_rfl) x rfl ?_
    refine evC_of (s17 (g.ext hL.mod) hx (Ext.slOf hL.mod hst) fun S6 e6 => ⟨((lineGP (pO x) (pE x) l).1, (lineGP (pO x) (pE x) l).2), rfl, ?_⟩)
    have hL := hL.ext e6
    have hlp : lineGP (pO x) (pE x) l = (lineG (pO x) (pE x) l, 0) := if_pos hmx
    rw [hlp]
    have hll := lineG_len (x := dG (x, l)) hx hmx
    have hll : (lineG (pO x) (pE x) l).length ≤ 70000 := hll
    refine evV_of (ty := tT) (lineG (pO x) (pE x) l ++ [10]) (cat_eq (by simp; omega)) ?_
    have hnx := hL.mod.next
    refine evC_of (s18 hL.p (v := lineG (pO x) (pE x) l ++ [10]) (by simp) (by have := hwt n; simp at this ⊢; omega) fun g' S7 hB m hs' => ⟨(_, _), rfl, ?_⟩)
    rw [wrap_succ (by omega)]
    have hL2 : Cx noB S S7 [] (blO b1 g') (fun S => Bl S b1 g' (textG ((ps.take (n + 1)).map dG))) := by
      refine Cx.tl (hL.op m (fun _ h => h) (fun c hc hlt => by have := hS3 c hc; omega) (P' := fun S => Bl S b1 g' (textG ((ps.take (n + 1)).map dG))) ?_ Bl.frm hs' (fun c hc => hB.lt hc)) 1
      rw [hsn, textG_snoc]
      exact hB
    exact hP _ _ _ (by omega) ⟨n + 1, g', rfl, by omega, rfl, hL2, fun c hc => (hs' c hc).elim (hS3 c) fun h => by omega⟩
  · have hn' : n = ps.length := by omega
    have hp := hL.p
    have := hwt ps.length
    rw [hn'] at hp
    rw [List.take_length] at hp this
    refine evC_of (s19 hp (by omega) fun S8 m => ⟨_, rfl, ?_⟩)
    exact hk S8 (hL.mod.ext m hS3)
end
end Go.Proofs.YtfopfocedlbihaaGreatDoor
