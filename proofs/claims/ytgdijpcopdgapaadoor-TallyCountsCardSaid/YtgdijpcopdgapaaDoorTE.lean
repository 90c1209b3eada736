/- Parts of the proof, put together. -/
import Derived.Test.YtgdijpcopdgapaaDoorTD
import Derived.Test.YtgdijpcopdgapaaDoorCD
/- Tally: counts' names. -/
namespace Go.Proofs.YtgdijpcopdgapaaDoor
open Go Go.Proofs.YtgdijpcopdgapaaDoor.D
set_option linter.unusedVariables false
set_option linter.unusedSimpArgs false
noncomputable section

/-- Boxes, and an own list that grows. -/
structure CX {α : Type} (W : Nat → Prop) (f : α → List Value) (sz : Nat) (S0 S : St) (L : List (Nat × DObj)) (s : Sl) (l : List α) : Prop where
  cx : Cx W S0 S L (slO s) (fun S' => GrX f sz 0 S' s l)
  own : ∀ c, slO s c → S0.next ≤ c
section
variable {α : Type} {W : Nat → Prop} {f : α → List Value} {sz : Nat} {S0 S : St} {L : List (Nat × DObj)} {s : Sl} {l : List α}
theorem CX.start (W : Nat → Prop) : CX W f sz S S [] ⟨none, 0, 0⟩ [] := ⟨Cx.start W (.inl ⟨rfl, rfl⟩) grX_frm fun c hc => by (obtain ⟨o, hc⟩ := hc; cases hc), fun c hc => by obtain ⟨o, hc⟩ := hc; cases hc⟩
theorem CX.ext (h : CX W f sz S0 S L s l) {S' : St} (e : Ext S S') : CX W f sz S0 S' L s l := ⟨h.cx.ext e, h.own⟩
theorem CX.tl (h : CX W f sz S0 S L s l) (n : Nat) : CX W f sz S0 S (L.drop n) s l := ⟨h.cx.tl n, h.own⟩
theorem CX.new (h : CX W f sz S0 S L s l) {o : DObj} {k : Nat → St → Prop} (hk : ∀ b S', CX W f sz S0 S' ((b, o) :: L) s l → k b S') : newW S o k := h.cx.new fun b S' hL _ _ => hk b S' ⟨hL, h.own⟩
theorem CX.record (h : CX W f sz S0 S L s l) {o : DObj} : CX W f sz S0 (S.alloc o).2 ((S.next, o) :: L) s l := ⟨h.cx.record, h.own⟩
theorem CX.upd (h : CX W f sz S0 S L s l) (i : Nat) {b : Nat} {o o' : DObj} {k : St → Prop} (hi : L[i]? = some (b, o)) (hk : ∀ S', CX W f sz S0 S' (L.set i (b, o')) s l → k S') : updW S b o' k := h.cx.upd i hi fun S' hL _ => hk S' ⟨hL, h.own⟩
theorem CX.st (h : CX W f sz S0 S L s l) (i : Nat) {b o t : Nat} (n : Nat) {cs cs' : List Value} {more : Option Nat} {v : Value} {k : St → Prop} (hi : L[i]? = some (b, .cells cs more false none)) (ht : stOk E0 t n = true) (hn : (cellsOf v).length = n) (ho : o + n ≤ cs.length)
    (hone : (cellsOf v).all St.one = true) (hcs : cs.take o ++ (cellsOf v ++ cs.drop (o + n)) = cs') (hk : ∀ S', CX W f sz S0 S' (L.set i (b, .cells cs' more false none)) s l → k S') : evS (storeV E0 S t (.pointer (some ⟨b, o, none⟩)) v) k :=
  h.cx.st i n hi ht hn ho hone hcs fun S' hL _ => hk S' ⟨hL, h.own⟩
/-- What an append makes of it. -/
theorem CX.step (h : CX W f sz S0 S L s l) {S' : St} {s' : Sl} {l' : List α} (g : GrX f sz 0 S' s' l') (m : Mod (fun b => 0 ≤ b ∧ s.a = some ⟨b, 0, none⟩) S S') (hs : s'.a = s.a ∨ ∃ b, s'.a = some ⟨b, 0, none⟩ ∧ S.next ≤ b) : CX W f sz S0 S' L s' l' := by
  have hs2 : ∀ c, slO s' c → slO s c ∨ S.next ≤ c := fun c hc => by
    obtain ⟨o, e⟩ := hc
    rcases hs with h | ⟨b', h, h'⟩
    · exact .inl ⟨o, by rw [← h]; exact e⟩
    · rw [h] at e
      cases e
      exact .inr h'
  refine ⟨h.cx.op (m.mono fun c hc _ => (⟨0, hc.2⟩ : slO s c)) (fun _ h => h) (fun c hc hlt => by have := h.own c hc; omega) g grX_frm hs2 fun c hc => grX_lt g hc, fun c hc => ?_⟩
  rcases hs2 c hc with hc | hc
  · exact h.own c hc
  · exact Nat.le_trans h.cx.mod.next hc
end
theorem all_str (v : List (List UInt8)) : (v.flatMap strC).all St.one = true := by
  rw [flat_str, List.all_eq_true]
  intro x hx
  obtain ⟨c, _, rfl⟩ := List.mem_map.1 hx
  rfl
theorem CX.strs {W : Nat → Prop} {S0 S : St} {L : List (Nat × DObj)} {s : Sl} {l : List (List UInt8)} (h : CX W strC 1 S0 S L s l) {b n : Nat} {vs : List (List UInt8)} (hat : At S b (.cells (vs.map strV) none false none)) (hn : n = vs.length) (hvs : vs ≠ []) (hl : l.length + vs.length ≤ 1000000)
    {k : Sl → St → Prop} (hk : ∀ s' S', CX W strC 1 S0 S' L s' (l ++ vs) → k s' S') : evP tS (appendD E0 S 48 48 (.slice s.a s.len s.cap) (.slice (some ⟨b, 0, none⟩) n n)) k := by
  subst hn
  have hx : SlOf strC 1 S ⟨some ⟨b, 0, none⟩, vs.length, vs.length⟩ vs := ⟨rfl, fun _ => ⟨b, 0, _, _, _, _, rfl, hat, by rw [flat_str, List.drop_zero, List.take_of_length_le (by simp)]⟩⟩
  have hfd : firstD S 1 vs.length (.slice (some ⟨b, 0, none⟩) vs.length vs.length) = some (vs.flatMap strC) := by
    refine SlOf.first (f := strC) (sz := 1) (x := ⟨some ⟨b, 0, none⟩, vs.length, vs.length⟩) (fun _ => rfl) hx ?_
    intro a h
    cases h
    rfl
  exact GrX.append (E := E0) (f := strC) (sz := 1) (N := 0) (fun _ => rfl) (by omega) h.cx.p und48 inf9 und48 (by kernel_rfl) (by kernel_rfl) (by kernel_rfl : DEnv.i9.zero = some (.string ⟨#[]⟩)) rfl (vs := vs) rfl hfd (all_str vs)
    (show (l.length + vs.length) * DEnv.i9.bytes ≤ 17592186044416 by rw [bytes9]; omega) (show l.length + vs.length ≤ 17592186044416 by omega) hvs (show (l.length + vs.length) * 1 < inex by have h := lt_inex; omega)
    (fun s' S' g m hs' => hk s' S' (h.step g m hs')) (Nat.zero_le _)
theorem CX.str {W : Nat → Prop} {S0 S : St} {L : List (Nat × DObj)} {s : Sl} {l : List (List UInt8)} (h : CX W strC 1 S0 S L s l) {w : List UInt8} (hl : l.length ≤ 100000)
    {k : Sl → St → Prop} (hk : ∀ s' S', CX W strC 1 S0 S' L s' (l ++ [w]) → k s' S') : newW S (.cells [strV w] none false none) fun b S1 => evP tS (appendD E0 S1 48 48 (.slice s.a s.len s.cap) (.slice (some ⟨b, 0, none⟩) 1 1)) k := by
  refine h.new fun b S1 hB => ?_
  exact hB.strs (vs := [w]) (hB.cx.at 0 rfl) rfl (by simp) (by simp; omega) fun s' S' hB => hk s' S' (hB.tl 1)
/-! ### Names -/
def oW : List UInt8 := [111, 114, 100, 101, 114, 46]
def eW : List UInt8 := [101, 114, 114, 111, 114, 115]
def sW : List UInt8 := [115, 116, 101, 112, 46]
def pW : List UInt8 := [112, 97, 99, 107, 101, 116, 46]
def gW : List UInt8 := [103, 114, 97, 110, 116]
def rW : List UInt8 := [114, 101, 108, 101, 97, 115, 101]
def mW : List UInt8 := [109, 111, 118, 101]
def noW : List UInt8 := [112, 97, 99, 107, 101, 116, 46, 110, 111, 110, 101]
/-- The names of all counts. -/
def nmT : List (List UInt8) := (List.range 9).map (fun i : Nat => oW ++ nmL ((i : Int) + 1)) ++ [eW, sW ++ gW, sW ++ rW, sW ++ mW] ++ (List.range 11).map (fun i : Nat => pW ++ wordK ((i : Int) + 1)) ++ [noW]
theorem nmT_len : nmT.length = 25 := by decide +kernel
def nm (i : Nat) : List UInt8 := nmT.getD i []
theorem nm_get {i : Nat} (h : i < 25) : nmT[i]'(by rw [nmT_len]; exact h) = nm i := by
  unfold nm
  rw [List.getD_eq_getElem?_getD, List.getElem?_eq_getElem (by rw [nmT_len]; exact h)]
  rfl
theorem nm_ord : ∀ i : Nat, i < 9 → nm i = oW ++ nmL ((i : Int) + 1) := by decide +kernel
theorem nm_pk : ∀ i : Nat, i < 11 → nm (13 + i) = pW ++ wordK ((i : Int) + 1) := by decide +kernel
theorem nm_len : ∀ i : Nat, i < 25 → (nm i).length ≤ 40 := by decide +kernel
theorem nm_inj : ∀ i : Nat, i < 25 → ∀ j : Nat, j < 25 → nm i = nm j → i = j := by decide +kernel
theorem kind_get : ∀ i : Nat, i < 11 → (kindW.flatMap kindV)[0 + i * 6 + 0]? = some (strV (wordK ((i : Int) + 1))) := by
  intro i hi
  have : i = 0 ∨ i = 1 ∨ i = 2 ∨ i = 3 ∨ i = 4 ∨ i = 5 ∨ i = 6 ∨ i = 7 ∨ i = 8 ∨ i = 9 ∨ i = 10 := by omega
  rcases this with rfl | rfl | rfl | rfl | rfl | rfl | rfl | rfl | rfl | rfl | rfl <;> rfl
theorem s46 {S : St} {kd : Int} {k : Value → St → Prop} (g : Gl S) (hk : k (strV (wordK kd)) S) : WC E0 46 [.int .i64 kd] S k := by
  refine w46 kd ?_
  unfold c46
  refine evC_of (s28 ⟨_, rfl, ?_⟩)
  refine ifW_of (fun h => ?_) fun h => ?_
  · rw [show wordK kd = [] from if_neg (by simp at h; omega)] at hk
    exact hk
  have h : 1 ≤ kd ∧ kd ≤ 11 := by simpa using h
  rw [wrap_i64 (by omega) (by omega)]
  obtain ⟨more, ro, fz, hat⟩ := g.kinds
  refine ⟨0, 0, rfl, by omega, by omega, ?_⟩
  refine ptrW_of ?_
  have := kind_get (kd - 1).toNat (by omega)
  rw [show (((kd - 1).toNat : Nat) : Int) + 1 = kd from by omega] at this
  exact evV_of (ty := tT) (wordK kd) ((load_one hat (by kernel_rfl)).trans this) hk
theorem nmL_len (k : Int) : (nmL k).length ≤ 100 := by
  unfold nmL
  split
  · rename_i h
    have : k = 0 ∨ k = 1 ∨ k = 2 ∨ k = 3 ∨ k = 4 ∨ k = 5 ∨ k = 6 ∨ k = 7 ∨ k = 8 ∨ k = 9 := by omega
    rcases this with rfl | rfl | rfl | rfl | rfl | rfl | rfl | rfl | rfl | rfl <;> decide
  · simp
theorem wordK_len (k : Int) : (wordK k).length ≤ 100 := by
  unfold wordK
  split
  · rename_i h
    rcases kind_case h.1 h.2 with rfl | rfl | rfl | rfl | rfl | rfl | rfl | rfl | rfl | rfl | rfl <;> decide
  · simp
theorem s35 {S : St} {i : Nat} {k : Value → St → Prop} (g : Gl S) (hi : i < 25) (hk : ∀ S', Ext S S' → k (strV (nm i)) S') : WC E0 35 [.int .i64 (i : Int)] S k := by
  refine w35 _ ?_
  unfold c35
  have hL := Hld.start noB S
  refine hL.new fun b1 S1 hL _ _ => ?_
  refine hL.st 0 3 rfl (by kernel_rfl) rfl (Nat.le_of_ble_eq_true rfl) rfl rfl fun S2 hL _ => ?_
  have hL : Hld noB S S2 [(b1, .cells [strV gW, strV rW, strV mW] none false none)] := hL
  have hk := hk S2 hL.mod
  have g := g.ext hL.mod
  refine ifW_dec (fun h => ?_) fun h => ?_
  · rw [wrap_i64 (n := (i : Int) + 1) (by omega) (by omega)]
    refine evC_of (s45 g ⟨_, rfl, ?_⟩)
    have := nmL_len ((i : Int) + 1)
    refine evV_of (ty := tT) (oW ++ nmL ((i : Int) + 1)) (cat_eq (a := oW) (by show 6 + _ ≤ _; omega)) ?_
    rw [nm_ord i (by omega)] at hk
    exact hk
  refine ifW_dec (fun h2 => ?_) fun h2 => ?_
  · have e : i = 9 := by omega
    subst e
    exact hk
  refine ifW_dec (fun h3 => ?_) fun h3 => ?_
  · have : i = 10 ∨ i = 11 ∨ i = 12 := by omega
    rw [wrap_i64 (n := (i : Int) - 10) (by omega) (by omega)]
    refine ⟨b1, 0, rfl, by omega, by omega, ?_⟩
    rcases this with rfl | rfl | rfl
    · refine hL.ld 0 rfl (by kernel_rfl) gW rfl ?_
      exact evV_of (ty := tT) (sW ++ gW) (cat_eq (a := sW) (by decide)) hk
    · refine hL.ld 0 rfl (by kernel_rfl) rW rfl ?_
      exact evV_of (ty := tT) (sW ++ rW) (cat_eq (a := sW) (by decide)) hk
    · refine hL.ld 0 rfl (by kernel_rfl) mW rfl ?_
      exact evV_of (ty := tT) (sW ++ mW) (cat_eq (a := sW) (by decide)) hk
  refine ifW_dec (fun h4 => ?_) fun h4 => ?_
  · rw [wrap_i64 (n := (i : Int) - 13) (by omega) (by omega), wrap_i64 (n := (i : Int) - 13 + 1) (by omega) (by omega)]
    refine evC_of (s46 g ⟨_, rfl, ?_⟩)
    have := wordK_len ((i : Int) - 13 + 1)
    refine evV_of (ty := tT) (pW ++ wordK ((i : Int) - 13 + 1)) (cat_eq (a := pW) (by show 7 + _ ≤ _; omega)) ?_
    have e := nm_pk (i - 13) (by omega)
    rw [show 13 + (i - 13) = i from by omega, show (((i - 13 : Nat) : Int)) + 1 = (i : Int) - 13 + 1 from by omega] at e
    rw [e] at hk
    exact hk
  · have e : i = 24 := by omega
    subst e
    exact hk
/-- All names, one by one. -/
theorem s34 {y : Value} {S : St} (I : Nat → St → Prop) {Q : St → Prop} (hg : ∀ i S', I i S' → Gl S') (hI : ∀ i S' S'', I i S' → Ext S' S'' → I i S'') (h0 : I 0 S)
    (hstep : ∀ i S', i < 25 → I i S' → evY E0 tB y [.int .i64 (i : Int), strV (nm i)] S' fun t S'' => (t = true → I (i + 1) S'') ∧ (t = false → Q S'')) (hend : ∀ S', I 25 S' → Q S') : WC E0 34 [y] S fun _ S' => Q S' := by
  refine w34 y ?_
  unfold c34
  refine loopW_ind (fun q (n : Int) S' => ∃ i : Nat, n = (i : Int) ∧ i ≤ 25 ∧ q = 25 - i ∧ I i S') (m := 25) ⟨0, rfl, by omega, rfl, h0⟩ ?_
  rintro P q n S1 ⟨i, rfl, hi, rfl, h⟩ hP
  refine ifW_dec (fun hlt => ?_) fun hlt => ?_
  · have hi' : i < 25 := by omega
    refine evC_of (s35 (hg i S1 h) hi' fun S2 e => ⟨_, rfl, ?_⟩)
    refine WV.mono (hstep i S2 hi' (hI i S1 S2 h e)) ?_
    rintro v S3 ⟨t, rfl, ht1, ht2⟩
    refine ⟨t, rfl, ifW_of (fun h => ht2 (by simpa using h)) fun h => ?_⟩
    rw [wrap_succ (by omega)]
    exact hP _ _ _ (by omega) ⟨i + 1, rfl, by omega, rfl, ht1 (by simpa using h)⟩
  · have e : i = 25 := by omega
    subst e
    exact hend S1 h
end
end Go.Proofs.YtgdijpcopdgapaaDoor

/- Tally: lists of names; a new tally. -/
namespace Go.Proofs.YtgdijpcopdgapaaDoor
open Go Go.Proofs.YtgdijpcopdgapaaDoor.D
set_option linter.unusedVariables false
set_option linter.unusedSimpArgs false
noncomputable section

theorem nm_take {i : Nat} (h : i < 25) : nmT.take i ++ [nm i] = nmT.take (i + 1) := by
  rw [List.take_succ_eq_append_getElem (by rw [nmT_len]; exact h), nm_get h]
theorem nm_all : nmT.take 25 = nmT := List.take_of_length_le (by rw [nmT_len]; exact Nat.le_refl _)
theorem tk_len (i : Nat) : (nmT.take i).length ≤ 25 := by rw [List.length_take, nmT_len]; omega
theorem s14 {S : St} (g : Gl S) {k : Value → St → Prop} (hk : ∀ s S', Ext S S' → SlOf strC 1 S' s nmT → k (.slice s.a s.len s.cap) S') : WC E0 14 [] S k := by
  refine w14 ?_
  unfold c14
  have hB := CX.start (f := strC) (sz := 1) (S := S) noB
  refine hB.new fun b1 S1 hB => ?_
  refine evC_of (w21 ?_)
  unfold c21
  refine ⟨_, rfl, ?_⟩
  refine hB.new fun b2 S3 hB => ?_
  rintro b3 S4 L rfl rfl hLL hR
  have hB := hB.record (o := L .ready none)
  generalize (S3.alloc (L .ready none)).2 = S4 at hB ⊢
  generalize hb3 : S3.next = b3 at hB hR ⊢
  refine WG_of rfl (s34 (fun i S' => ∃ s, CX noB strC 1 S S' [(b3, L .ready none), (b2, .deferred), (b1, .cells [.slice s.a s.len s.cap] none false none)] s (nmT.take i)) ?_ ?_ ?_ ?_ ?_)
  · rintro i S' ⟨s, hB⟩; exact g.ext hB.cx.mod
  · rintro i S' S'' ⟨s, hB⟩ e; exact ⟨s, hB.ext e⟩
  · exact ⟨⟨none, 0, 0⟩, hB⟩
  · rintro i S' hi ⟨s, hB⟩
    refine hR ((i : Int), nm i) S' _ ?_
    refine hB.cx.has 0 rfl ?_
    refine hB.cx.has 0 rfl ?_
    refine hB.upd 0 rfl fun S6 hB => ?_
    refine hB.cx.ld 2 rfl (by kernel_rfl) s rfl ?_
    have hl := tk_len i
    refine hB.str (by omega) fun s2 S8 hB => ?_
    refine hB.st 2 1 rfl (by kernel_rfl) rfl (Nat.le_of_ble_eq_true rfl) rfl rfl fun S9 hB => ?_
    refine hB.cx.has 0 rfl ?_
    refine hB.upd 0 rfl fun S10 hB => ?_
    refine ⟨fun _ => ⟨s2, ?_⟩, fun h => by cases h⟩
    rw [nm_take hi] at hB
    exact hB
  · rintro S' ⟨s, hB⟩
    refine .inl ?_
    refine hB.cx.has 0 rfl ?_
    refine hB.upd 0 rfl fun S12 hB => ?_
    refine hB.cx.ld 2 rfl (by kernel_rfl) s rfl ?_
    refine hB.cx.has 1 rfl ?_
    refine hB.upd 1 rfl fun S13 hB => ?_
    rw [nm_all] at hB
    exact hk s S13 hB.cx.mod (GrX.of (f := strC) (sz := 1) (fun _ => rfl) hB.cx.p)
theorem s15 {S : St} {k : Value → St → Prop} (hk : ∀ s S', CX noB strC 1 S S' [] s nmT → k (.slice s.a s.len s.cap) S') : WC E0 15 [] S k := by
  refine w15 ?_
  unfold c15
  refine loopW_ind (fun q (x : Sl × Int) S' => ∃ (s : Sl) (j : Nat), x = (s, (j : Int) + 1) ∧ j ≤ 9 ∧ q = 9 - j ∧ CX noB strC 1 S S' [] s (nmT.take j)) (m := 9) ⟨⟨none, 0, 0⟩, 0, rfl, by omega, rfl, CX.start noB⟩ ?_
  rintro P q x S1 ⟨s, j, rfl, hj, rfl, hB⟩ hP
  dsimp only
  have hl := tk_len j
  refine ifW_dec (fun hle => ?_) fun hle => ?_
  · refine evC_of (s25 fun S2 e2 => ⟨_, rfl, ?_⟩)
    have hB := hB.ext e2
    have := nmL_len ((j : Int) + 1)
    refine evV_of (ty := tT) (oW ++ nmL ((j : Int) + 1)) (cat_eq (a := oW) (by show 6 + _ ≤ _; omega)) ?_
    rw [← nm_ord j (by omega)]
    refine hB.str (by omega) fun s2 S4 hB => ?_
    rw [wrap_i64 (by omega) (by omega)]
    refine hP _ _ _ (by omega) ⟨s2, j + 1, by simp, by omega, rfl, ?_⟩
    rw [nm_take (by omega)] at hB
    exact hB
  · have e : j = 9 := by omega
    subst e
    refine hB.new fun b2 S5 hB => ?_
    refine hB.strs (vs := [eW, sW ++ gW, sW ++ rW, sW ++ mW]) (hB.cx.at 0 rfl) rfl (by simp) (by simp; omega) fun s2 S6 hB => ?_
    have e13 : nmT.take 9 ++ [eW, sW ++ gW, sW ++ rW, sW ++ mW] = nmT.take 13 := by decide +kernel
    rw [e13] at hB
    have hB := hB.tl 1
    refine loopW_ind (fun q (x : Sl × Int) S' => ∃ (s : Sl) (j : Nat), x = (s, (j : Int) + 1) ∧ j ≤ 11 ∧ q = 11 - j ∧ CX noB strC 1 S S' [] s (nmT.take (13 + j))) (m := 11) ⟨s2, 0, rfl, by omega, rfl, hB⟩ ?_
    rintro P2 q x S7 ⟨s, j, rfl, hj, rfl, hB⟩ hP2
    dsimp only
    have hl := tk_len (13 + j)
    refine ifW_dec (fun hle => ?_) fun hle => ?_
    · refine evC_of (s20 ⟨_, rfl, ?_⟩)
      have := wordK_len ((j : Int) + 1)
      refine evV_of (ty := tT) (pW ++ wordK ((j : Int) + 1)) (cat_eq (a := pW) (by show 7 + _ ≤ _; omega)) ?_
      rw [← nm_pk j (by omega)]
      refine hB.str (by omega) fun s3 S10 hB => ?_
      rw [wrap_i64 (by omega) (by omega)]
      refine hP2 _ _ _ (by omega) ⟨s3, j + 1, by simp, by omega, rfl, ?_⟩
      rw [nm_take (by omega)] at hB
      exact hB
    · have e : j = 11 := by omega
      subst e
      refine hB.str (w := noW) (by omega) fun s4 S12 hB => ?_
      have e25 : nmT.take (13 + 11) ++ [noW] = nmT := by decide +kernel
      rw [e25] at hB
      exact hk s4 S12 hB
/-! ### The document's tally -/
abbrev Cnt := List UInt8 × Nat
abbrev cntC (c : Cnt) : List Value := [strV c.1, .int .u64 (c.2 : Int)]
theorem und39 : E0.und 39 = some (.slice 43) := by kernel_rfl
theorem inf43 : E0.inf 43 = some DEnv.i43 := by kernel_rfl
theorem bytes43 : DEnv.i43.bytes = 24 := by kernel_rfl
theorem zero43 : DEnv.i43.zero = some (.agg #[.string ⟨#[]⟩, .int .u64 0]) := by kernel_rfl
theorem CX.cnt {W : Nat → Prop} {S0 S : St} {L : List (Nat × DObj)} {s : Sl} {l : List Cnt} (h : CX W cntC 2 S0 S L s l) {b : Nat} {x : Cnt} (hat : At S b (.cells (cntC x) none false none)) (hl : l.length ≤ 100000)
    {k : Sl → St → Prop} (hk : ∀ s' S', CX W cntC 2 S0 S' L s' (l ++ [x]) → k s' S') : evP tS (appendD E0 S 39 39 (.slice s.a s.len s.cap) (.slice (some ⟨b, 0, none⟩) 1 1)) k :=
  GrX.append (E := E0) (f := cntC) (sz := 2) (N := 0) (fun _ => rfl) (by omega) h.cx.p und39 inf43 und39 (by kernel_rfl) (by kernel_rfl) zero43 rfl (vs := [x]) rfl (firstD_box (f := cntC) (sz := 2) (fun _ => rfl) (by omega) hat) rfl
    (show (l.length + 1) * DEnv.i43.bytes ≤ 17592186044416 by rw [bytes43]; omega) (show l.length + 1 ≤ 17592186044416 by omega) (by simp) (show (l.length + 1) * 2 < inex by have h := lt_inex; omega)
    (fun s' S' g m hs' => hk s' S' (h.step g m hs')) (Nat.zero_le _)
theorem s4 {S : St} {k : Value → St → Prop} (hk : ∀ b1 s S', CX noB cntC 2 S S' [(b1, .cells [.slice s.a s.len s.cap] none false none)] s (nmT.map fun n => (n, 0)) → k (.pointer (some ⟨b1, 0, none⟩)) S') : WC E0 4 [] S k := by
  refine w4 ?_
  unfold c4
  refine newW_of fun b1 S1 hb1 ha e1 hn1 => ?_
  refine evC_of (s15 fun s1 S2 hC => ⟨_, rfl, ?_⟩)
  have e2 : Ext S1 S2 := hC.cx.mod
  have hs1 : SlOf strC 1 S2 s1 nmT := GrX.of (f := strC) (sz := 1) (fun _ => rfl) hC.cx.p
  have hlen := hs1.len
  rw [nmT_len] at hlen
  have ha2 := e2.at ha
  have h0 : CX (fun c => c = b1) cntC 2 S2 S2 [(b1, .cells [.slice none 0 0] none false none)] ⟨none, 0, 0⟩ [] :=
    ⟨Cx.startL _ (fun p hp => by rw [List.mem_singleton] at hp; subst hp; exact ⟨ha2, rfl⟩) (by simp) (.inl ⟨rfl, rfl⟩) grX_frm (fun c hc => by obtain ⟨o, hc⟩ := hc; cases hc) (fun p hp hc => by obtain ⟨o, hc⟩ := hc; cases hc), fun c hc => by obtain ⟨o, hc⟩ := hc; cases hc⟩
  have hrd : ∀ {S'}, D.Mod (fun c => c = b1) S2 S' → SlOf strC 1 S' s1 nmT := fun m => m.slOf hs1 fun b o h _ hb => by
    have := hC.own b ⟨o, h⟩
    omega
  refine loopW_ind (fun q (x : Int) S' => ∃ (s : Sl) (j : Nat), x = (j : Int) ∧ j ≤ 25 ∧ q = 25 - j ∧ CX (fun c => c = b1) cntC 2 S2 S' [(b1, .cells [.slice s.a s.len s.cap] none false none)] s ((nmT.take j).map fun n => (n, 0))) (m := 25) ⟨⟨none, 0, 0⟩, 0, rfl, by omega, rfl, h0⟩ ?_
  rintro P q x S3 ⟨s, j, rfl, hj, rfl, hB⟩ hP
  have hl := tk_len j
  refine ifW_dec (fun hlt => ?_) fun hlt => ?_
  · have hj' : j < 25 := by omega
    refine ptrW_of (ptrW_of ?_)
    refine hB.cx.ld 0 rfl (by kernel_rfl) s rfl ?_
    refine (hrd hB.cx.mod).get1n (n := j) (g := strV) (t := 9) inf9 (by kernel_rfl) (by rw [nmT_len]; exact hj') fun b6 o6 hld _ => evV_of (ty := tT) (nm j) ((hld _ rfl).trans (by rw [nm_get hj']; rfl)) ?_
    refine hB.new fun b8 S4 hB => ?_
    refine hB.cx.ld 1 rfl (by kernel_rfl) s rfl ?_
    refine sameV_of ?_
    refine hB.cnt (x := (nm j, 0)) (hB.cx.at 0 rfl) (by rw [List.length_map]; omega) fun s4 S5 hB => ?_
    refine ptrW_of (ptrW_of ?_)
    refine hB.st 1 1 rfl (by kernel_rfl) rfl (Nat.le_of_ble_eq_true rfl) rfl rfl fun S6 hB => ?_
    rw [wrap_succ (by omega)]
    refine hP _ _ _ (by omega) ⟨s4, j + 1, rfl, by omega, rfl, ?_⟩
    rw [← nm_take hj', List.map_append]
    exact hB.tl 1
  · have e : j = 25 := by omega
    subst e
    rw [nm_all] at hB
    refine hk b1 s S3 ⟨⟨⟨?_, fun p hp => ⟨(hB.cx.h.all p hp).1, .inl ?_⟩, hB.cx.h.dis⟩, hB.cx.lt, hB.cx.sep, hB.cx.p, hB.cx.fr⟩, fun c hc => ?_⟩
    · exact (e1.tr e2).ext hB.cx.mod fun c hc => by (have hc : c = b1 := hc; omega)
    · rw [List.mem_singleton] at hp; subst hp; simp only; omega
    · have := hB.own c hc
      have h1 := e2.next
      have h2 := e1.next
      omega
end
end Go.Proofs.YtgdijpcopdgapaaDoor

/- Tally: counting. -/
namespace Go.Proofs.YtgdijpcopdgapaaDoor
open Go Go.Proofs.YtgdijpcopdgapaaDoor.D
set_option linter.unusedVariables false
set_option linter.unusedSimpArgs false
noncomputable section

/-- Counts, by their places. -/
abbrev Ct := Nat → Nat
def bump (c : Ct) (i : Nat) : Ct := fun j => if j = i then c j + 1 else c j
def cellsN (c : Ct) : List Value := (List.range 25).map fun i => .int .u64 (c i : Int)
def cellsR (c : Ct) : List Value := (List.range 25).flatMap fun i => cntC (nm i, c i)
theorem cellsN_len (c : Ct) : (cellsN c).length = 25 := by simp [cellsN]
theorem cellsR_len (c : Ct) : (cellsR c).length = 50 := by
  unfold cellsR
  rw [flat_len (f := fun i => cntC (nm i, c i)) (sz := 2) (fun _ => rfl), List.length_range]
theorem cellsN_at (c : Ct) {i : Nat} (h : i < 25) : (cellsN c)[i]? = some (.int .u64 (c i : Int)) := by
  unfold cellsN
  rw [List.getElem?_map, List.getElem?_range h]
  rfl
theorem cellsR_at (c : Ct) {i : Nat} (h : i < 25) : (cellsR c)[i * 2]? = some (strV (nm i)) ∧ (cellsR c)[i * 2 + 1]? = some (.int .u64 (c i : Int)) := by
  have hl : i < (List.range 25).length := by rw [List.length_range]; exact h
  have := flat_at (f := fun i => cntC (nm i, c i)) (sz := 2) (fun _ => rfl) hl
  rw [List.getElem_range] at this
  have h1 : (cellsR c)[i * 2]? = (((cellsR c).drop (i * 2)).take 2)[0]? := by rw [List.getElem?_take_of_lt (by omega), List.getElem?_drop]; rfl
  have h2 : (cellsR c)[i * 2 + 1]? = (((cellsR c).drop (i * 2)).take 2)[1]? := by rw [List.getElem?_take_of_lt (by omega), List.getElem?_drop]
  rw [h1, h2]
  unfold cellsR
  rw [this]
  exact ⟨rfl, rfl⟩
theorem put_set {l : List Value} {o : Nat} {v : Value} (h : o < l.length) : l.take o ++ ([v] ++ l.drop (o + 1)) = l.set o v := by
  rw [List.set_eq_take_append_cons_drop, if_pos h]; rfl
theorem cellsN_set (c : Ct) {i : Nat} (h : i < 25) : (cellsN c).set i (.int .u64 ((c i : Int) + 1)) = cellsN (bump c i) := by
  refine List.ext_getElem? fun n => ?_
  by_cases hn : n < 25
  · rw [cellsN_at _ hn, List.getElem?_set, cellsN_len]
    by_cases e : i = n
    · subst e
      rw [if_pos rfl, if_pos h]
      unfold bump
      rw [if_pos rfl]
      rfl
    · rw [if_neg e, cellsN_at _ hn]
      unfold bump
      rw [if_neg (fun h => e h.symm)]
  · rw [List.getElem?_eq_none (by rw [List.length_set, cellsN_len]; omega), List.getElem?_eq_none (by rw [cellsN_len]; omega)]
theorem cellsR_set (c : Ct) {i : Nat} (h : i < 25) {rest : List Value} : (cellsR c ++ rest).set (i * 2 + 1) (.int .u64 ((c i : Int) + 1)) = cellsR (bump c i) ++ rest := by
  rw [List.set_append_left _ _ (by rw [cellsR_len]; omega)]
  congr 1
  refine List.ext_getElem? fun n => ?_
  by_cases hn : n < 50
  · obtain ⟨j, hj, he⟩ : ∃ j, j < 25 ∧ (n = j * 2 ∨ n = j * 2 + 1) := ⟨n / 2, by omega, by omega⟩
    rcases he with rfl | rfl
    · rw [List.getElem?_set_ne (by omega), (cellsR_at c hj).1, (cellsR_at _ hj).1]
    · rw [(cellsR_at (bump c i) hj).2]
      by_cases e : i = j
      · subst e
        rw [List.getElem?_set_self (by rw [cellsR_len]; omega)]
        unfold bump
        rw [if_pos rfl]
        rfl
      · rw [List.getElem?_set_ne (by omega), (cellsR_at c hj).2]
        unfold bump
        rw [if_neg (fun h => e h.symm)]
  · rw [List.getElem?_eq_none (by rw [List.length_set, cellsR_len]; omega), List.getElem?_eq_none (by rw [cellsR_len]; omega)]
theorem add1_ev {S S' : St} {b o : Nat} {n m : Int} (h0 : S.load1 b o = some (.int .u64 n)) (h1 : decide (0 ≤ n) = true) (h2 : decide (n < 18446744073709551615) = true) (hm : m = n + 1) (hst : S.storeN b o [.int .u64 m] = some S') : add1P [.pointer (some ⟨b, o, none⟩), .int .u64 1] S = some (.int .u64 m, S') := by
  subst hm
  show (S.load1 b o).bind _ = _
  rw [h0]
  show cond (decide (0 ≤ n) && decide (n < 18446744073709551615)) _ _ = _
  rw [h1, h2]
  show (S.storeN b o [.int .u64 (n + 1)]).map _ = _
  rw [hst]
  rfl
theorem s17 {S : St} {b o n : Nat} {cs : List Value} {more : Option Nat} {k : Value → St → Prop} (hat : At S b (.cells cs more false none)) (ho : cs[o]? = some (.int .u64 (n : Int))) (hn : n < 18446744073709551615)
    (hk : k (.int .u64 ((n : Int) + 1)) (S.upd b (.cells (cs.set o (.int .u64 ((n : Int) + 1))) more false none))) : WC E0 17 [.pointer (some ⟨b, o, none⟩), .int .u64 1] S k := by
  refine WC_prim (E := E0) (f := 17) rfl (show add1P [.pointer (some ⟨b, o, none⟩), .int .u64 1] S = some (.int .u64 ((n : Int) + 1), _) from ?_) hk
  have hol : o < cs.length := by
    rcases Nat.lt_or_ge o cs.length with h | h
    · exact h
    · rw [List.getElem?_eq_none h] at ho; cases ho
  have h0 : S.load1 b o = some (.int .u64 (n : Int)) := (load1_at hat).trans ho
  have h1 : decide ((0 : Int) ≤ (n : Int)) = true := by simp
  have h2 : decide ((n : Int) < 18446744073709551615) = true := decide_eq_true (by omega)
  have h5 : Nat.ble (o + 1) cs.length = true := Nat.ble_eq_true_of_le hol
  have hone : ([Value.int .u64 ((n : Int) + 1)]).all St.one = true := rfl
  have hst : S.storeN b o [.int .u64 ((n : Int) + 1)] = some (S.upd b (.cells (cs.set o (.int .u64 ((n : Int) + 1))) more false none)) := by
    rw [← put_set hol]
    simp only [St.storeN, hat.get, List.length_singleton, Bool.not_false, Bool.true_and, h5, hone, St.fzOk, Bool.and_self, cond_true]
  exact add1_ev h0 h1 h2 rfl hst
theorem s22 {S : St} {b o n : Nat} {cs : List Value} {more : Option Nat} {ro : Bool} {fz : Option (Nat × Nat)} {k : Value → St → Prop} (hat : At S b (.cells cs more ro fz)) (ho : cs[o]? = some (.int .u64 (n : Int)))
    (hk : k (.int .u64 (n : Int)) S) : WC E0 22 [.pointer (some ⟨b, o, none⟩)] S k := by
  refine WC_prim (E := E0) (f := 22) rfl (show withS ldP [.pointer (some ⟨b, o, none⟩)] S = some (.int .u64 (n : Int), S) from ?_) hk
  have h0 : S.load1 b o = some (.int .u64 (n : Int)) := (load1_at hat).trans ho
  simp only [withS, ldP, h0, Option.bind_some, Option.map_some]
/-- Both tallies. -/
abbrev TL (F : Nat → Prop) (S0 S : St) (bt br bl : Nat) (rest : List Value) (c c' : Ct) : Prop :=
  Hld F S0 S [(bt, .cells (cellsN c) none false none), (br, .cells [.slice (some ⟨bl, 0, none⟩) 25 inex] none false none), (bl, .cells (cellsR c' ++ rest) (some 2) false none)]
theorem okR_kind {r : Rd} (h : okR r) : 1 ≤ kdR r ∧ kdR r ≤ 11 := by
  by_cases hk : 1 ≤ kdR r ∧ kdR r ≤ 11
  · exact hk
  · have hb : bodyR r = (zM, [], tkR 1 (hdR r)) := if_neg hk
    have h2 := h.2
    rw [hb] at h2
    have := h2.2.1.1
    simp at this
/-- Where a packet is counted. -/
def ix (l : List UInt8) : Nat := if okR (unD l) then 12 + kdR (unD l) else 24
theorem ix_lt (l : List UInt8) : ix l < 25 := by
  unfold ix
  split
  · rename_i h; have := okR_kind h; omega
  · omega
section
variable {F : Nat → Prop} {S0 S : St} {bt br bl : Nat} {rest : List Value} {c c' : Ct}
theorem TL.add1 (hL : TL F S0 S bt br bl rest c c') {i : Nat} (hi : i < 25) (hc : c i < 18446744073709551615) {k : Value → St → Prop} (hk : ∀ n S', TL F S0 S' bt br bl rest (bump c i) c' → k (.int .u64 n) S') : WC E0 17 [.pointer (some ⟨bt, 0 + i * 1, none⟩), .int .u64 1] S k := by
  rw [Nat.zero_add, Nat.mul_one]
  refine s17 (hL.at 0 rfl) (cellsN_at c hi) hc (hk _ _ ?_)
  have := hL.set 0 rfl (upd_mod (S := S) (b := bt)) (upd_at (o' := .cells ((cellsN c).set i (.int .u64 ((c i : Int) + 1))) none false none) (hL.at 0 rfl))
  rw [cellsN_set c hi] at this ⊢
  exact this
theorem s5 (g : Gl S0) (hL : TL noB S0 S bt br bl rest c c') {b : Sl} {l : List UInt8} (hb : Bs S0 b l) (hlc : b.len ≤ b.cap) (hci : b.cap < inex) (hlen : l.length ≤ 4000) (hc : ∀ i, c i < 1000000) {k : Value → St → Prop}
    (hk : ∀ S', TL noB S0 S' bt br bl rest (bump c (ix l)) c' → k (.tuple #[]) S') : WC E0 5 [.pointer (some ⟨bt, 0, none⟩), .slice b.a b.len b.cap] S k := by
  refine w5 _ b ?_
  unfold c5
  refine ⟨false, by kernel_rfl, ?_⟩
  refine ifW_of (fun h => by cases h) fun _ => ?_
  have hcx := hc (ix l)
  refine evC_of (s16 (g.ext hL.mod) (Ext.slOf hL.mod hb) hlc hci hlen fun x S1 e1 hx => ⟨(x, if okR (unD l) then 0 else 70), rfl, ?_⟩)
  have hL := Hld.ext hL e1
  refine hL.new fun b1 S2 hL _ _ => ?_
  refine hL.st 0 15 rfl (by kernel_rfl) rfl (Nat.le_of_ble_eq_true rfl) rfl rfl fun S3 hL _ => ?_
  dsimp only
  have hT : TL noB S0 S3 bt br bl rest c c' := hld_tl hL
  by_cases hok : okR (unD l)
  · rw [if_pos hok]
    refine ifW_ndec (fun h => (h rfl).elim) fun _ => ?_
    refine ptrW_of (ptrW_of ?_)
    refine hL.ld 0 rfl (by kernel_rfl) x.2.2.2.2.2.2.1 rfl ?_
    rw [hx hok]
    have hkd := okR_kind hok
    rw [wrap_i64 (n := 13 + ((kdR (unD l) : Nat) : Int)) (by omega) (by omega), wrap_i64 (n := 13 + ((kdR (unD l) : Nat) : Int) - 1) (by omega) (by omega)]
    refine ptrW_of (ptrW_of ?_)
    refine ⟨bt, 0, rfl, by omega, by omega, ?_⟩
    have hix : ix l = 12 + kdR (unD l) := if_pos hok
    rw [show (13 + ((kdR (unD l) : Nat) : Int) - 1).toNat = ix l from by omega]
    exact evC_of (hT.add1 (ix_lt l) (by omega) fun n S' hT => ⟨n, rfl, hk S' hT⟩)
  · rw [if_neg hok]
    refine ifW_ndec (fun _ => ?_) fun h => by cases h
    refine ptrW_of (ptrW_of ?_)
    refine ⟨bt, 0, rfl, by omega, by omega, ?_⟩
    have hix : ix l = 24 := if_neg hok
    rw [show (24 : Int).toNat = ix l from by rw [hix]; rfl]
    exact evC_of (hT.add1 (ix_lt l) (by omega) fun n S' hT => ⟨n, rfl, hk S' hT⟩)
end
end
end Go.Proofs.YtgdijpcopdgapaaDoor

/- Tally: counting (2). -/
namespace Go.Proofs.YtgdijpcopdgapaaDoor
open Go Go.Proofs.YtgdijpcopdgapaaDoor.D
set_option linter.unusedVariables false
set_option linter.unusedSimpArgs false
noncomputable section

theorem cellsRR_at (c : Ct) {rest : List Value} {j : Nat} (h : j < 25) : (cellsR c ++ rest)[0 + Int.toNat (j : Int) * 2 + 0]? = some (strV (nm j)) ∧ (cellsR c ++ rest)[0 + Int.toNat (j : Int) * 2 + 1]? = some (.int .u64 (c j : Int)) := by
  rw [show 0 + Int.toNat (j : Int) * 2 + 0 = j * 2 from by omega, show 0 + Int.toNat (j : Int) * 2 + 1 = j * 2 + 1 from by omega]
  rw [List.getElem?_append_left (by rw [cellsR_len]; omega), List.getElem?_append_left (by rw [cellsR_len]; omega)]
  exact cellsR_at c h
abbrev stC (x : Int × Int × Int) : List Value := [.int .i64 x.1, .int .i64 x.2.1, .int .i64 x.2.2]
/-- Where a step is counted. -/
def bumpS (c : Ct) (x : Int × Int × Int) : Ct := if 1 ≤ x.1 ∧ x.1 ≤ 3 then bump c (9 + x.1.toNat) else c
theorem bump_le (c : Ct) (i j : Nat) : bump c i j ≤ c j + 1 := by unfold bump; split <;> omega
theorem bumpS_le (c : Ct) (x : Int × Int × Int) (j : Nat) : bumpS c x j ≤ c j + 1 := by
  unfold bumpS; split
  · exact bump_le _ _ _
  · omega
theorem bumps_le : ∀ (l : List (Int × Int × Int)) (c : Ct) (j : Nat), l.foldl bumpS c j ≤ c j + l.length := by
  intro l
  induction l with
  | nil => intro c j; simp
  | cons x l ih =>
    intro c j
    have h1 := ih (bumpS c x) j
    have h2 := bumpS_le c x j
    rw [List.foldl_cons, List.length_cons]
    omega
section
variable {F : Nat → Prop} {S0 S : St} {bt br bl : Nat} {rest : List Value} {c c' : Ct}
theorem s19 (hL : TL F S0 S bt br bl rest c c') {i0 : Nat} {w : List UInt8} (hw : w = nm i0) (hi0 : i0 < 25) (hc : c' i0 < 1000000) {k : Value → St → Prop}
    (hk : ∀ S', TL F S0 S' bt br bl rest c (bump c' i0) → k (.tuple #[]) S') : WC E0 19 [.pointer (some ⟨br, 0, none⟩), strV w] S k := by
  subst hw
  refine w19 _ (nm i0) ?_
  unfold c19
  refine loopW_ind (fun q (n : Int) S' => ∃ j : Nat, n = (j : Int) ∧ j ≤ 25 ∧ q = 25 - j ∧ TL F S0 S' bt br bl rest c (if i0 < j then bump c' i0 else c')) (m := 25) ⟨0, rfl, by omega, rfl, hL⟩ ?_
  rintro P q n S1 ⟨j, rfl, hj, rfl, hL⟩ hP
  refine ptrW_of (ptrW_of ?_)
  refine hL.ld 1 rfl (by kernel_rfl) (⟨some ⟨bl, 0, none⟩, 25, inex⟩ : Sl) rfl ?_
  dsimp only
  refine ifW_dec (fun hlt => ?_) fun hlt => ?_
  · have hj' : j < 25 := by omega
    refine ptrW_of (ptrW_of ?_)
    refine hL.ld 1 rfl (by kernel_rfl) (⟨some ⟨bl, 0, none⟩, 25, inex⟩ : Sl) rfl ?_
    refine ⟨bl, 0, rfl, by omega, by dsimp only; omega, ?_⟩
    refine ptrW_of ?_
    refine hL.ld 2 rfl (by kernel_rfl) (nm j) (cellsRR_at _ hj').1 ?_
    refine ifW_of (fun h => ?_) fun h => ?_
    · have e : j = i0 := nm_inj j hj' i0 hi0 (by simpa using h)
      subst e
      rw [if_neg (Nat.lt_irrefl _)] at hL
      refine ptrW_of (ptrW_of ?_)
      refine hL.ld 1 rfl (by kernel_rfl) (⟨some ⟨bl, 0, none⟩, 25, inex⟩ : Sl) rfl ?_
      refine ⟨bl, 0, rfl, by omega, by dsimp only; omega, ?_⟩
      refine ptrW_of ?_
      refine hL.ld 2 rfl (by kernel_rfl) ((c' j : Nat) : Int) (cellsRR_at _ hj').2 ?_
      refine ⟨bl, 0, rfl, by omega, by dsimp only; omega, ?_⟩
      refine ptrW_of ?_
      rw [wrap_u64 (by omega) (by omega)]
      refine hL.st 2 1 rfl (by kernel_rfl) rfl (by rw [List.length_append, cellsR_len]; omega) rfl (cs' := cellsR (bump c' j) ++ rest) ?_ fun S2 hL _ => ?_
      · rw [show 0 + Int.toNat (j : Int) * 2 + 1 = j * 2 + 1 from by omega]
        exact (put_set (by rw [List.length_append, cellsR_len]; omega)).trans (cellsR_set c' hj')
      · rw [wrap_succ (by omega)]
        refine hP _ _ _ (by omega) ⟨j + 1, rfl, by omega, rfl, ?_⟩
        rw [if_pos (by omega)]
        exact hL
    · have e : ¬ j = i0 := fun e => by rw [e] at h; simp at h
      rw [wrap_succ (by omega)]
      refine hP _ _ _ (by omega) ⟨j + 1, rfl, by omega, rfl, ?_⟩
      by_cases h2 : i0 < j
      · rw [if_pos h2] at hL
        rw [if_pos (by omega)]
        exact hL
      · rw [if_neg h2] at hL
        rw [if_neg (by omega)]
        exact hL
  · rw [if_pos (by omega)] at hL
    exact hk S1 hL
theorem s6 (g : Gl S0) (hL : TL noB S0 S bt br bl rest c c') {b : Sl} {l : List UInt8} (hb : Bs S0 b l) (hlen : l.length ≤ 4000) (hc : ∀ i, c' i < 1000000) {k : Value → St → Prop}
    (hk : ∀ S', TL noB S0 S' bt br bl rest c (bump c' (ix l)) → k (.tuple #[]) S') : WC E0 6 [.pointer (some ⟨br, 0, none⟩), .slice b.a b.len b.cap] S k := by
  refine w6 _ b ?_
  unfold c6
  refine evC_of (s18 (Ext.slOf hL.mod hb) hlen fun x S1 e1 hx => ⟨(x, if okR (unD l) then 0 else 70), rfl, ?_⟩)
  have hL := Hld.ext hL e1
  refine hL.new fun b1 S2 hL _ _ => ?_
  refine hL.st 0 15 rfl (by kernel_rfl) rfl (Nat.le_of_ble_eq_true rfl) rfl rfl fun S3 hL _ => ?_
  dsimp only
  have hT : TL noB S0 S3 bt br bl rest c c' := hld_tl hL
  by_cases hok : okR (unD l)
  · rw [if_pos hok]
    refine ifW_ndec (fun h => (h rfl).elim) fun _ => ?_
    refine ptrW_of (ptrW_of ?_)
    refine hL.ld 0 rfl (by kernel_rfl) x.2.2.2.2.2.2.1 rfl ?_
    rw [hx hok]
    have hkd := okR_kind hok
    have hix : ix l = 12 + kdR (unD l) := if_pos hok
    refine evC_of (s20 ⟨_, rfl, ?_⟩)
    have := wordK_len ((kdR (unD l) : Nat) : Int)
    refine evV_of (ty := tT) (pW ++ wordK ((kdR (unD l) : Nat) : Int)) (cat_eq (a := pW) (by show 7 + _ ≤ _; omega)) ?_
    have e := nm_pk (kdR (unD l) - 1) (by omega)
    rw [show 13 + (kdR (unD l) - 1) = ix l from by omega, show ((kdR (unD l) - 1 : Nat) : Int) + 1 = ((kdR (unD l) : Nat) : Int) from by omega] at e
    exact evC_of (s19 hT e.symm (ix_lt l) (hc _) fun S' hT => ⟨PUnit.unit, rfl, hk S' hT⟩)
  · rw [if_neg hok]
    refine ifW_ndec (fun _ => ?_) fun h => by cases h
    have hix : ix l = 24 := if_neg hok
    have e : noW = nm (ix l) := by rw [hix]; decide +kernel
    exact evC_of (s19 (w := noW) hT e (ix_lt l) (hc _) fun S' hT => ⟨PUnit.unit, rfl, hk S' hT⟩)
theorem s7 (hL : TL noB S0 S bt br bl rest c c') {s : Sl} {l : List (Int × Int × Int)} (hs : SlOf stC 3 S0 s l) (hlen : l.length ≤ 1000) (hc : ∀ i, c i < 1000000) {k : Value → St → Prop}
    (hk : ∀ S', TL noB S0 S' bt br bl rest (l.foldl bumpS c) c' → k (.tuple #[]) S') : WC E0 7 [.pointer (some ⟨bt, 0, none⟩), .slice s.a s.len s.cap] S k := by
  refine w7 _ s ?_
  unfold c7
  have hsl := hs.len
  refine loopW_ind (fun q (n : Int) S' => ∃ j : Nat, n = (j : Int) ∧ j ≤ l.length ∧ q = l.length - j ∧ TL noB S0 S' bt br bl rest ((l.take j).foldl bumpS c) c') (m := l.length) ⟨0, rfl, by omega, rfl, hL⟩ ?_
  rintro P q n S1 ⟨j, rfl, hj, rfl, hL⟩ hP
  refine ifW_dec (fun hlt => ?_) fun hlt => ?_
  · have hj' : j < l.length := by omega
    have hcb := fun i => bumps_le (l.take j) c i
    have htl : (l.take j).length ≤ 1000 := by rw [List.length_take]; omega
    have hnext : ∀ S', TL noB S0 S' bt br bl rest (bumpS ((l.take j).foldl bumpS c) l[j]) c' → P (wrapI .i64 ((j : Int) + 1)) S' := fun S' hL => by
      rw [wrap_succ (by omega)]
      refine hP _ _ _ (by omega) ⟨j + 1, rfl, by omega, rfl, ?_⟩
      rw [List.take_succ_eq_append_getElem hj', List.foldl_append]
      exact hL
    generalize (l.take j).foldl bumpS c = d at hL hcb hnext
    refine (Ext.slOf hL.mod hs).idxL (f := stC) (sz := 3) (fun _ => rfl) hsl hj' fun b1 o1 cs mm ro fz hat _ hv => ?_
    refine ⟨l[j], load_agg hat (by kernel_rfl) hv rfl, ?_⟩
    generalize l[j] = x at hnext
    refine hL.new fun b3 S2 hL _ _ => ?_
    refine hL.st 0 3 rfl (by kernel_rfl) rfl (Nat.le_of_ble_eq_true rfl) rfl rfl fun S3 hL _ => ?_
    have hT : TL noB S0 S3 bt br bl rest d c' := hld_tl hL
    intro k1 hk1
    refine ⟨false, by kernel_rfl, ?_⟩
    refine ifW_of (fun _ => ?_) fun h => by cases h
    have go : ∀ t : Bool, (t = true ↔ 1 ≤ x.1 ∧ x.1 ≤ 3) → k1 t S3 := by
      intro t ht
      refine hk1 t S3 (ifW_of (fun h => ?_) fun h => ?_)
      · have h13 := ht.1 h
        refine ptrW_of ?_
        refine hL.ld 0 rfl (by kernel_rfl) x.1 rfl ?_
        rw [wrap_i64 (n := 10 + x.1) (by omega) (by omega), wrap_i64 (n := 10 + x.1 - 1) (by omega) (by omega)]
        refine ptrW_of (ptrW_of ?_)
        refine ⟨bt, 0, rfl, by omega, by omega, ?_⟩
        have e : bumpS d x = bump d (9 + x.1.toNat) := if_pos h13
        rw [e] at hnext
        have h1 := hcb (9 + x.1.toNat)
        have h2 := hc (9 + x.1.toNat)
        rw [show (10 + x.1 - 1).toNat = 9 + x.1.toNat from by omega]
        exact evC_of (hT.add1 (by omega) (by omega) fun n S' hT => ⟨n, rfl, hnext S' hT⟩)
      · have e : bumpS d x = d := if_neg fun hh => by rw [ht.2 hh] at h; cases h
        rw [e] at hnext
        exact hnext S3 hT
    refine ptrW_of ?_
    refine hL.ld 0 rfl (by kernel_rfl) x.1 rfl ?_
    refine ifW_dec (fun h1 => ?_) fun h1 => ?_
    · refine ptrW_of ?_
      refine hL.ld 0 rfl (by kernel_rfl) x.1 rfl ?_
      rw [leI_eq]
      exact go _ (by rw [decide_eq_true_iff]; omega)
    · exact go false ⟨(fun h => by cases h), fun h => (h1 h.1).elim⟩
  · rw [List.take_of_length_le (by omega)] at hL
    exact hk S1 hL
theorem s8 (hL : TL noB S0 S bt br bl rest c c') {s : Sl} {l : List (Int × Int × Int)} (hs : SlOf stC 3 S0 s l) (hlen : l.length ≤ 1000) (hc : ∀ i, c' i < 100000) {k : Value → St → Prop}
    (hk : ∀ S', TL noB S0 S' bt br bl rest c (l.foldl bumpS c') → k (.tuple #[]) S') : WC E0 8 [.pointer (some ⟨br, 0, none⟩), .slice s.a s.len s.cap] S k := by
  refine w8 _ s ?_
  unfold c8
  have hsl := hs.len
  refine loopW_ind (fun q (n : Int) S' => ∃ j : Nat, n = (j : Int) ∧ j ≤ l.length ∧ q = l.length - j ∧ TL noB S0 S' bt br bl rest c ((l.take j).foldl bumpS c')) (m := l.length) ⟨0, rfl, by omega, rfl, hL⟩ ?_
  rintro P q n S1 ⟨j, rfl, hj, rfl, hL⟩ hP
  refine ifW_dec (fun hlt => ?_) fun hlt => ?_
  · have hj' : j < l.length := by omega
    have hcb := fun i => bumps_le (l.take j) c' i
    have htl : (l.take j).length ≤ 1000 := by rw [List.length_take]; omega
    have hnext : ∀ S', TL noB S0 S' bt br bl rest c (bumpS ((l.take j).foldl bumpS c') l[j]) → P (wrapI .i64 ((j : Int) + 1)) S' := fun S' hL => by
      rw [wrap_succ (by omega)]
      refine hP _ _ _ (by omega) ⟨j + 1, rfl, by omega, rfl, ?_⟩
      rw [List.take_succ_eq_append_getElem hj', List.foldl_append]
      exact hL
    generalize (l.take j).foldl bumpS c' = d at hL hcb hnext
    refine (Ext.slOf hL.mod hs).idxL (f := stC) (sz := 3) (fun _ => rfl) hsl hj' fun b1 o1 cs mm ro fz hat _ hv => ?_
    refine ptrW_of ?_
    refine evV_of (ty := tI) l[j].1 ((load_one hat (by kernel_rfl)).trans ((at_take hv (j := 0) (by omega)).trans rfl)) ?_
    generalize l[j] = x at hnext
    have hd : ∀ i, d i < 1000000 := fun i => by have := hcb i; have := hc i; omega
    have step : ∀ {w : List UInt8} {q : Nat}, w = nm (9 + q) → x.1 = (q : Int) → 1 ≤ q → q ≤ 3 → evC E0 (TT.tup []) 19 [.pointer (some ⟨br, 0, none⟩), strV w] S1 fun (_ : PUnit) S2 => P (wrapI .i64 ((j : Int) + 1)) S2 := by
      intro w q hw hx h1 h3
      have e : bumpS d x = bump d (9 + q) := by
        unfold bumpS
        rw [if_pos (by omega), show x.1.toNat = q from by omega]
      rw [e] at hnext
      exact evC_of (s19 hL hw (by omega) (hd _) fun S' hT => ⟨PUnit.unit, rfl, hnext S' hT⟩)
    refine ifW_dec (fun h => ?_) fun h1 => ?_
    · exact step (w := sW ++ gW) (q := 1) (by decide +kernel) h (by omega) (by omega)
    refine ifW_dec (fun h => ?_) fun h2 => ?_
    · exact step (w := sW ++ rW) (q := 2) (by decide +kernel) h (by omega) (by omega)
    refine ifW_dec (fun h => ?_) fun h3 => ?_
    · exact step (w := sW ++ mW) (q := 3) (by decide +kernel) h (by omega) (by omega)
    have e : bumpS d x = d := if_neg fun hh => by omega
    rw [e] at hnext
    exact hnext S1 hL
  · rw [List.take_of_length_le (by omega)] at hL
    exact hk S1 hL
end
end
end Go.Proofs.YtgdijpcopdgapaaDoor

/- Tally: what is told of counts. -/
namespace Go.Proofs.YtgdijpcopdgapaaDoor
open Go Go.Proofs.YtgdijpcopdgapaaDoor.D
set_option linter.unusedVariables false
set_option linter.unusedSimpArgs false
noncomputable section

/-- What is left to write of a number, ahead of what is written. -/
def dg (m : Nat) (s : List UInt8) : List UInt8 := if m = 0 then s else dec m ++ s
theorem dg_step {m : Nat} (h : 0 < m) (s : List UInt8) : dg (m / 10) (UInt8.ofNat (48 + m % 10) :: s) = dg m s := by
  unfold dg
  rw [if_neg (show ¬ m = 0 by omega)]
  have h1 := dec_head m
  unfold dHead at h1
  by_cases h10 : m < 10
  · rw [if_pos h10, List.nil_append] at h1
    rw [if_pos (by omega), h1]
    rfl
  · rw [if_neg h10] at h1
    rw [if_neg (by omega), h1]
    simp
theorem s24 {S : St} {n : Nat} (h0 : 0 < n) (hn : n < 10000000000000000000) {k : Value → St → Prop} (hk : ∀ S', Ext S S' → k (strV (dec n)) S') : WC E0 24 [.int .u64 (n : Int)] S k := by
  refine w24 _ ?_
  unfold c24
  refine loopW_ind (fun q (x : Int × List UInt8 × Int) S' => ∃ (m i : Nat) (s : List UInt8), x = ((m : Int), s, (i : Int)) ∧ i ≤ 20 ∧ q = 20 - i ∧ m < 10 ^ (20 - i) ∧ s.length ≤ i ∧ m < 10000000000000000000 ∧ dg m s = dec n ∧ (m = 0 → s ≠ []) ∧ Ext S S') (m := 20)
    ⟨n, 0, [], rfl, by omega, rfl, by omega, by simp, hn, by unfold dg; rw [if_neg (by omega), List.append_nil], fun h => by omega, Mod.refl _ _⟩ ?_
  rintro P q x S1 ⟨m, i, s, rfl, hi, rfl, hm, hsl, hm2, hd, hne, e1⟩ hP
  dsimp only
  have stop : m = 0 → k (strV s) S1 := fun h => by
    have := hk S1 e1
    rw [← hd, h] at this
    exact this
  refine ifW_dec (fun hlt => ?_) fun hlt => ?_
  · refine ifW_dec (fun hp => ?_) fun hp => ?_
    · refine ⟨rfl, ?_⟩
      rw [dig_wrap m (by omega)]
      refine newW_of fun b1 S2 hb ha e hn => ?_
      refine ⟨[UInt8.ofNat (48 + m % 10)], S2, one_str ha, ?_⟩
      refine evV_of (ty := tT) ([UInt8.ofNat (48 + m % 10)] ++ s) (cat_eq (by simp; omega)) ⟨rfl, ?_⟩
      rw [Int.tdiv_eq_ediv_of_nonneg (by omega), show (m : Int) / 10 = ((m / 10 : Nat) : Int) from by omega, wrap_u64 (by omega) (by omega), wrap_succ (by omega)]
      refine hP _ _ _ (by omega) ⟨m / 10, i + 1, _, rfl, by omega, rfl, ?_, by simp; omega, by omega, ?_, fun _ => by simp, e1.tr e⟩
      · have : 10 ^ (20 - i) = 10 ^ (20 - (i + 1)) * 10 := by rw [← Nat.pow_succ]; congr 1; omega
        exact Nat.div_lt_of_lt_mul (by rw [Nat.mul_comm, ← this]; exact hm)
      · rw [← hd]
        exact dg_step (by omega) s
    · have hm0 : m = 0 := by omega
      refine ifW_of (fun h => ?_) fun _ => stop hm0
      exact (hne hm0 (by simpa using h)).elim
  · have hi20 : i = 20 := by omega
    subst hi20
    simp at hm
    exact stop hm
theorem s11 {S : St} {a b : Sl} {x y : List (List UInt8)} (ha : SlOf strC 1 S a x) (hb : SlOf strC 1 S b y) (hx : x.length ≤ 1000000) {k : Value → St → Prop} (hk : x = y → k (.bool true) S) (hk2 : ¬ x = y → k (.bool false) S) : WC E0 11 [.slice a.a a.len a.cap, .slice b.a b.len b.cap] S k := by
  refine w11 a b ?_
  unfold c11
  have hal := ha.len
  have hbl := hb.len
  refine ifW_ndec (fun h => hk2 fun e => ?_) fun h => ?_
  · rw [e] at hal; omega
  refine loopW_ind (fun q (n : Int) S' => ∃ j : Nat, n = (j : Int) ∧ j ≤ x.length ∧ q = x.length - j ∧ (∀ i, i < j → x[i]? = y[i]?) ∧ S' = S) (m := x.length) ⟨0, rfl, by omega, rfl, fun i h => by omega, rfl⟩ ?_
  rintro P q n S1 ⟨j, rfl, hj, rfl, hok, rfl⟩ hP
  refine ifW_dec (fun hlt => ?_) fun hlt => ?_
  · have hj' : j < x.length := by omega
    have hjy : j < y.length := by omega
    refine ha.get1n (n := j) (g := strV) (t := 9) inf9 (by kernel_rfl) hj' fun b1 o1 hld _ => evV_of (ty := tT) x[j] (hld _ rfl) ?_
    refine hb.get1n (n := j) (g := strV) (t := 9) inf9 (by kernel_rfl) hjy fun b2 o2 hld2 _ => evV_of (ty := tT) y[j] (hld2 _ rfl) ?_
    refine ifW_of (fun h => hk2 fun e => ?_) fun h => ?_
    · subst e
      simp at h
    · have e : x[j] = y[j] := by simpa using h
      rw [wrap_succ (by omega)]
      refine hP _ _ _ (by omega) ⟨j + 1, rfl, by omega, rfl, fun i hi => ?_, rfl⟩
      rcases Nat.lt_or_ge i j with h | h
      · exact hok i h
      · rw [show i = j from by omega, List.getElem?_eq_getElem hj', List.getElem?_eq_getElem hjy, e]
  · refine hk (List.ext_getElem? fun i => ?_)
    by_cases hi : i < x.length
    · exact hok i (by omega)
    · rw [List.getElem?_eq_none (by omega), List.getElem?_eq_none (by omega)]
/-- Counts together. -/
def sumC (c : Ct) : Nat → Nat
  | 0 => 0
  | n + 1 => sumC c n + c n
theorem sumC_le {c : Ct} {N : Nat} (h : ∀ i, c i ≤ N) : ∀ n, sumC c n ≤ n * N := by
  intro n
  induction n with
  | zero => simp [sumC]
  | succ n ih =>
    have := h n
    show sumC c n + c n ≤ _
    rw [Nat.succ_mul]
    omega
/-- A count's line. -/
def lnC (c : Ct) (i : Nat) : List UInt8 := nm i ++ [32] ++ dec (c i)
def linesC (c : Ct) : Nat → List (List UInt8)
  | 0 => []
  | n + 1 => if 0 < c n then linesC c n ++ [lnC c n] else linesC c n
theorem linesC_len (c : Ct) (n : Nat) : (linesC c n).length ≤ n := by
  induction n with
  | zero => simp [linesC]
  | succ n ih =>
    unfold linesC
    split
    · rw [List.length_append, List.length_singleton]; omega
    · omega
section
variable {F : Nat → Prop} {S0 S : St} {bt br bl : Nat} {rest : List Value} {c c' : Ct}
theorem TL.ld (hL : TL F S0 S bt br bl rest c c') {i : Nat} (hi : i < 25) {k : Int → St → Prop} (hk : k (c i : Int) S) : evC E0 tU 22 [.pointer (some ⟨bt, 0 + i * 1, none⟩)] S k := by
  rw [Nat.zero_add, Nat.mul_one]
  exact evC_of (s22 (hL.at 0 rfl) (cellsN_at c hi) ⟨_, rfl, hk⟩)
theorem s10 (hL : TL F S0 S bt br bl rest c c') (hc : ∀ i, c i ≤ 100000000) {k : Value → St → Prop} (hk : k (.int .u64 (sumC c 25 : Nat)) S) : WC E0 10 [.pointer (some ⟨bt, 0, none⟩)] S k := by
  refine w10 _ ?_
  unfold c10
  refine ⟨false, by kernel_rfl, ?_⟩
  refine ifW_of (fun h => by cases h) fun _ => ?_
  refine loopW_ind (fun q (x : Int × Int) S' => ∃ j : Nat, x = (((sumC c j : Nat) : Int), (j : Int)) ∧ j ≤ 25 ∧ q = 25 - j ∧ S' = S) (m := 25) ⟨0, rfl, by omega, rfl, rfl⟩ ?_
  rintro P q x S1 ⟨j, rfl, hj, rfl, rfl⟩ hP
  dsimp only
  refine ifW_dec (fun hlt => ?_) fun hlt => ?_
  · have hj' : j < 25 := by omega
    refine ptrW_of (ptrW_of ?_)
    refine ⟨bt, 0, rfl, by omega, by omega, ?_⟩
    rw [Int.toNat_natCast]
    refine hL.ld hj' ?_
    have h1 := sumC_le hc j
    have h2 := hc j
    rw [wrap_u64 (by omega) (by omega), wrap_succ (by omega)]
    refine hP _ _ _ (by omega) ⟨j + 1, ?_, by omega, rfl, rfl⟩
    show _ = (((sumC c j + c j : Nat) : Int), _)
    rw [show ((sumC c j : Nat) : Int) + (c j : Int) = ((sumC c j + c j : Nat) : Int) from by omega]
  · have e : j = 25 := by omega
    subst e
    exact hk
end
end
end Go.Proofs.YtgdijpcopdgapaaDoor

/- Tally: what is told of counts (2). -/
namespace Go.Proofs.YtgdijpcopdgapaaDoor
open Go Go.Proofs.YtgdijpcopdgapaaDoor.D
set_option linter.unusedVariables false
set_option linter.unusedSimpArgs false
noncomputable section

section
variable {F : Nat → Prop} {S0 S : St} {bt br bl : Nat} {rest : List Value} {c c' : Ct}
set_option maxHeartbeats 1000000 in
theorem s9 (g : Gl S) (hT : TL F S0 S bt br bl rest c c') {name : List UInt8} {k : Value → St → Prop}
    (hk1 : ∀ i, i < 25 → name = nm i → ∀ S', Ext S S' → k (.tuple #[.int .u64 (c i : Int), .bool true]) S') (hk2 : (∀ i, i < 25 → ¬ name = nm i) → ∀ S', Ext S S' → k (.tuple #[.int .u64 0, .bool false]) S') :
    WC E0 9 [.pointer (some ⟨bt, 0, none⟩), strV name] S k := by
  refine w9 _ name ?_
  unfold c9
  have hL := Hld.start noB S
  refine hL.new fun b1 S1 hL _ _ => ?_
  refine hL.new fun b2 S2 hL _ _ => ?_
  refine hL.st 0 1 rfl (by kernel_rfl) rfl (Nat.le_of_ble_eq_true rfl) rfl rfl fun S3 hL _ => ?_
  intro k1 hk
  refine evC_of (w21 ?_)
  unfold c21
  refine ⟨_, rfl, ?_⟩
  refine hL.new fun b9 S10 hL _ _ => ?_
  rintro b10 S11 L rfl rfl hLL hR
  have hL := hL.record (o := L .ready none)
  generalize (S10.alloc (L .ready none)).2 = S11 at hL ⊢
  generalize hb10 : S10.next = b10 at hL hR ⊢
  have fin1 : ∀ {i : Nat} {S'} {st}, i < 25 → name = nm i → Hld noB S S' [(b10, st), (b9, .deferred), (b2, .cells [.int .i64 (i : Int)] none false none), (b1, .cells [strV name] none false none)] → k1 ([b9], PUnit.unit) S' := by
    intro i S' st hi hn hL
    refine hk _ _ ⟨false, by kernel_rfl, ?_⟩
    refine ifW_of (fun h => by cases h) fun _ => ?_
    refine hL.ld 2 rfl (by kernel_rfl) ((i : Nat) : Int) rfl ?_
    refine ifW_neg (by omega) ?_
    refine hL.ld 2 rfl (by kernel_rfl) ((i : Nat) : Int) rfl ?_
    refine ptrW_of (ptrW_of ?_)
    refine ⟨bt, 0, rfl, by omega, by omega, ?_⟩
    rw [Int.toNat_natCast]
    refine TL.ld (Hld.ext hT hL.mod) hi ?_
    refine hL.has 1 rfl ?_
    refine hL.upd 1 rfl fun S8 hL _ => ?_
    exact hk1 i hi hn S8 hL.mod
  have fin2 : ∀ {S'} {st}, (∀ i, i < 25 → ¬ name = nm i) → Hld noB S S' [(b10, st), (b9, .deferred), (b2, .cells [.int .i64 (-1)] none false none), (b1, .cells [strV name] none false none)] → k1 ([b9], PUnit.unit) S' := by
    intro S' st hn hL
    refine hk _ _ ⟨false, by kernel_rfl, ?_⟩
    refine ifW_of (fun h => by cases h) fun _ => ?_
    refine hL.ld 2 rfl (by kernel_rfl) (-1 : Int) rfl ?_
    refine ifW_pos (by decide) ?_
    refine hL.has 1 rfl ?_
    refine hL.upd 1 rfl fun S8 hL _ => ?_
    exact hk2 hn S8 hL.mod
  refine WG_of rfl (s34 (fun i S' => Hld noB S S' [(b10, L .ready none), (b9, .deferred), (b2, .cells [.int .i64 (-1)] none false none), (b1, .cells [strV name] none false none)] ∧ ∀ j, j < i → ¬ name = nm j) ?_ ?_ ?_ ?_ ?_)
  · rintro i S' ⟨hL, _⟩; exact g.ext hL.mod
  · rintro i S' S'' ⟨hL, h⟩ e; exact ⟨hL.ext e, h⟩
  · exact ⟨hL, fun j h => by omega⟩
  · rintro i S' hi ⟨hL, hno⟩
    refine hR ((i : Int), nm i) S' _ ?_
    refine hL.has 0 rfl ?_
    refine hL.has 0 rfl ?_
    refine hL.upd 0 rfl fun S6 hL _ => ?_
    refine hL.ld 3 rfl (by kernel_rfl) name rfl ?_
    refine ifW_of (fun h => ?_) fun h => ?_
    · have hn : name = nm i := by
        have : nm i = name := by simpa using h
        exact this.symm
      refine hL.st 2 1 rfl (by kernel_rfl) rfl (Nat.le_of_ble_eq_true rfl) rfl rfl fun S14 hL _ => ?_
      refine hL.has 0 rfl ?_
      refine hL.upd 0 rfl fun S15 hL _ => ?_
      refine ⟨(fun h => by cases h), fun _ => ?_⟩
      refine .inr (.inl ?_)
      refine hL.has 0 rfl ?_
      refine hL.upd 0 rfl fun S19 hL _ => ?_
      exact fin1 hi hn hL
    · have hn : ¬ name = nm i := fun e => by rw [← e] at h; simp at h
      refine hL.has 0 rfl ?_
      refine hL.upd 0 rfl fun S16 hL _ => ?_
      refine ⟨fun _ => ⟨hL, fun j hj => ?_⟩, (fun h => by cases h)⟩
      rcases Nat.lt_or_ge j i with h | h
      · exact hno j h
      · rw [show j = i from by omega]; exact hn
  · rintro S' ⟨hL, hno⟩
    refine .inl ?_
    refine hL.has 0 rfl ?_
    refine hL.upd 0 rfl fun S18 hL _ => ?_
    exact fin2 hno hL
theorem cat_sp (w : List UInt8) (h : w.length ≤ 1000) : catD ⟨w.toArray⟩ ⟨#[UInt8.ofNat 32]⟩ = some (strV (w ++ [32])) := cat_eq (a := w) (b := [32]) (by simp; omega)
theorem linesC_yes {c : Ct} {i : Nat} (h : 0 < c i) : linesC c (i + 1) = linesC c i ++ [lnC c i] := if_pos h
theorem linesC_no {c : Ct} {i : Nat} (h : ¬ 0 < c i) : linesC c (i + 1) = linesC c i := if_neg h
set_option maxHeartbeats 1000000 in
theorem s12 (g : Gl S) (hT : TL F S0 S bt br bl rest c c') (hc : ∀ i, c i ≤ 1000000) {k : Value → St → Prop} (hk : ∀ s S', Ext S S' → SlOf strC 1 S' s (linesC c 25) → k (.slice s.a s.len s.cap) S') : WC E0 12 [.pointer (some ⟨bt, 0, none⟩)] S k := by
  refine w12 _ ?_
  unfold c12
  have hB := CX.start (f := strC) (sz := 1) (S := S) noB
  refine hB.new fun b1 S1 hB => ?_
  refine hB.new fun b2 S2 hB => ?_
  refine hB.cx.ld 1 rfl (by kernel_rfl) (some ⟨bt, 0, none⟩ : Option Addr) rfl ?_
  refine ⟨false, by kernel_rfl, ?_⟩
  refine ifW_of (fun h => by cases h) fun _ => ?_
  refine evC_of (w21 ?_)
  unfold c21
  refine ⟨_, rfl, ?_⟩
  refine hB.new fun b3 S4 hB => ?_
  rintro b4 S5 L rfl rfl hLL hR
  have hB := hB.record (o := L .ready none)
  generalize (S4.alloc (L .ready none)).2 = S5 at hB ⊢
  generalize hb4 : S4.next = b4 at hB hR ⊢
  refine WG_of rfl (s34 (fun i S' => ∃ s, CX noB strC 1 S S' [(b4, L .ready none), (b3, .deferred), (b2, .cells [.slice s.a s.len s.cap] none false none), (b1, .cells [.pointer (some ⟨bt, 0, none⟩)] none false none)] s (linesC c i)) ?_ ?_ ?_ ?_ ?_)
  · rintro i S' ⟨s, hB⟩; exact g.ext hB.cx.mod
  · rintro i S' S'' ⟨s, hB⟩ e; exact ⟨s, hB.ext e⟩
  · exact ⟨⟨none, 0, 0⟩, hB⟩
  · rintro i S' hi ⟨s, hB⟩
    refine hR ((i : Int), nm i) S' _ ?_
    refine hB.cx.has 0 rfl ?_
    refine hB.cx.has 0 rfl ?_
    refine hB.upd 0 rfl fun S7 hB => ?_
    refine hB.cx.ld 3 rfl (by kernel_rfl) (some ⟨bt, 0, none⟩ : Option Addr) rfl ?_
    refine ptrW_of (ptrW_of ?_)
    refine ⟨bt, 0, rfl, by omega, by dsimp only; omega, ?_⟩
    dsimp only
    rw [Int.toNat_natCast]
    refine TL.ld (Hld.ext hT hB.cx.mod) hi ?_
    have hll := linesC_len c i
    have hci := hc i
    refine ifW_dec (fun h => ?_) fun h => ?_
    · refine hB.cx.ld 2 rfl (by kernel_rfl) s rfl ?_
      have hnl := nm_len i hi
      refine evV_of (ty := tT) (nm i ++ [32]) (cat_sp _ (by omega)) ?_
      refine evC_of (s23 (g.ext hB.cx.mod) (by omega) (by omega) fun S9 e9 => ⟨_, rfl, ?_⟩)
      have hB := hB.ext e9
      rw [Int.toNat_natCast]
      refine hB.cx.ld 2 rfl (by kernel_rfl) s rfl ?_
      refine sameV_of ?_
      have hdl := dec_len (u := c i) (by omega)
      refine evV_of (ty := tT) (lnC c i) (cat_eq (a := nm i ++ [32]) (by simp; omega)) ?_
      refine hB.new fun b11 S10 hB => ?_
      refine hB.cx.ld 3 rfl (by kernel_rfl) s rfl ?_
      refine sameV_of ?_
      refine hB.strs (vs := [lnC c i]) (hB.cx.at 0 rfl) rfl (by simp) (by simp; omega) fun s4 S11 hB => ?_
      refine hB.st 3 1 rfl (by kernel_rfl) rfl (Nat.le_of_ble_eq_true rfl) rfl rfl fun S12 hB => ?_
      refine hB.cx.has 1 rfl ?_
      refine hB.upd 1 rfl fun S13 hB => ?_
      refine ⟨fun _ => ⟨s4, ?_⟩, (fun h => by cases h)⟩
      rw [linesC_yes (by omega)]
      exact hB.tl 1
    · refine hB.cx.has 0 rfl ?_
      refine hB.upd 0 rfl fun S14 hB => ?_
      refine ⟨fun _ => ⟨s, ?_⟩, (fun h => by cases h)⟩
      rw [linesC_no (by omega)]
      exact hB
  · rintro S' ⟨s, hB⟩
    refine .inl ?_
    refine hB.cx.has 0 rfl ?_
    refine hB.upd 0 rfl fun S16 hB => ?_
    refine hB.cx.ld 2 rfl (by kernel_rfl) s rfl ?_
    refine hB.cx.has 1 rfl ?_
    refine hB.upd 1 rfl fun S17 hB => ?_
    exact hk s S17 hB.cx.mod (GrX.of (f := strC) (sz := 1) (fun _ => rfl) hB.cx.p)
set_option maxHeartbeats 1000000 in
theorem s13 (hT : TL F S0 S bt br bl rest c c') (hc : ∀ i, c' i ≤ 1000000) {k : Value → St → Prop} (hk : ∀ s S', Ext S S' → SlOf strC 1 S' s (linesC c' 25) → k (.slice s.a s.len s.cap) S') : WC E0 13 [.pointer (some ⟨br, 0, none⟩)] S k := by
  refine w13 _ ?_
  unfold c13
  refine loopW_ind (fun q (x : Sl × Int) S' => ∃ (s : Sl) (j : Nat), x = (s, (j : Int)) ∧ j ≤ 25 ∧ q = 25 - j ∧ CX noB strC 1 S S' [] s (linesC c' j)) (m := 25) ⟨⟨none, 0, 0⟩, 0, rfl, by omega, rfl, CX.start noB⟩ ?_
  rintro P q x S1 ⟨s, j, rfl, hj, rfl, hB⟩ hP
  dsimp only
  have hL := Hld.ext hT hB.cx.mod
  refine ptrW_of (ptrW_of ?_)
  refine hL.ld 1 rfl (by kernel_rfl) (⟨some ⟨bl, 0, none⟩, 25, inex⟩ : Sl) rfl ?_
  dsimp only
  refine ifW_dec (fun hlt => ?_) fun hlt => ?_
  · have hj' : j < 25 := by omega
    have hll := linesC_len c' j
    have hci := hc j
    have hnl := nm_len j hj'
    refine ptrW_of (ptrW_of ?_)
    refine hL.ld 1 rfl (by kernel_rfl) (⟨some ⟨bl, 0, none⟩, 25, inex⟩ : Sl) rfl ?_
    refine ⟨bl, 0, rfl, by omega, by dsimp only; omega, ?_⟩
    refine ptrW_of ?_
    refine hL.ld 2 rfl (by kernel_rfl) ((c' j : Nat) : Int) (cellsRR_at _ hj').2 ?_
    refine ifW_dec (fun h => ?_) fun h => ?_
    · refine ptrW_of (ptrW_of ?_)
      refine hL.ld 1 rfl (by kernel_rfl) (⟨some ⟨bl, 0, none⟩, 25, inex⟩ : Sl) rfl ?_
      refine ⟨bl, 0, rfl, by omega, by dsimp only; omega, ?_⟩
      refine ptrW_of ?_
      refine hL.ld 2 rfl (by kernel_rfl) (nm j) (cellsRR_at _ hj').1 ?_
      refine evV_of (ty := tT) (nm j ++ [32]) (cat_sp _ (by omega)) ?_
      refine ptrW_of (ptrW_of ?_)
      refine hL.ld 1 rfl (by kernel_rfl) (⟨some ⟨bl, 0, none⟩, 25, inex⟩ : Sl) rfl ?_
      refine ⟨bl, 0, rfl, by omega, by dsimp only; omega, ?_⟩
      refine ptrW_of ?_
      refine hL.ld 2 rfl (by kernel_rfl) ((c' j : Nat) : Int) (cellsRR_at _ hj').2 ?_
      refine evC_of (s24 (by omega) (by omega) fun S2 e2 => ⟨_, rfl, ?_⟩)
      have hB := hB.ext e2
      have hL := Hld.ext hL e2
      refine hL.ld 2 rfl (by kernel_rfl) (nm j) (cellsRR_at _ hj').1 ?_
      refine sameV_of ?_
      refine hL.ld 1 rfl (by kernel_rfl) (⟨some ⟨bl, 0, none⟩, 25, inex⟩ : Sl) rfl ?_
      refine sameV_of ?_
      have hdl := dec_len (u := c' j) (by omega)
      refine evV_of (ty := tT) (lnC c' j) (cat_eq (a := nm j ++ [32]) (by simp; omega)) ?_
      refine hB.str (by omega) fun s6 S4 hB => ?_
      rw [wrap_succ (by omega)]
      refine hP _ _ _ (by omega) ⟨s6, j + 1, rfl, by omega, rfl, ?_⟩
      rw [linesC_yes (by omega)]
      exact hB
    · rw [wrap_succ (by omega)]
      refine hP _ _ _ (by omega) ⟨s, j + 1, rfl, by omega, rfl, ?_⟩
      rw [linesC_no (by omega)]
      exact hB
  · have e : j = 25 := by omega
    subst e
    exact hk s S1 hB.cx.mod (GrX.of (f := strC) (sz := 1) (fun _ => rfl) hB.cx.p)
end
end
end Go.Proofs.YtgdijpcopdgapaaDoor

/- Tally: the law. -/
namespace Go.Proofs.YtgdijpcopdgapaaDoor
open Go Go.Proofs.YtgdijpcopdgapaaDoor.D
set_option linter.unusedVariables false
set_option linter.unusedSimpArgs false
noncomputable section

abbrev Row := Sl × List UInt8
abbrev slC (x : Row) : List Value := [.slice x.1.a x.1.len x.1.cap]
theorem inf36 : E0.inf 36 = some DEnv.i36 := by kernel_rfl
/-- Bytes are counted. -/
def bumpP (c : Ct) (x : Row) : Ct := if x.2.length ≤ 300 then bump c (ix x.2) else c
theorem bumpPs_le : ∀ (l : List Row) (c : Ct) (j : Nat), l.foldl bumpP c j ≤ c j + l.length := by
  intro l
  induction l with
  | nil => intro c j; simp
  | cons x l ih =>
    intro c j
    have h1 := ih (bumpP c x) j
    have h2 : bumpP c x j ≤ c j + 1 := by
      unfold bumpP; split
      · exact bump_le _ _ _
      · omega
    rw [List.foldl_cons, List.length_cons]
    omega
/-- A name's count, and whether it is one's. -/
def fnd (c : Ct) (name : List UInt8) : Nat → Nat × Bool
  | 0 => (0, false)
  | n + 1 => if nm n = name then (c n, true) else fnd c name n
theorem fnd_no {c : Ct} {name : List UInt8} : ∀ n, (∀ i, i < n → ¬ name = nm i) → fnd c name n = (0, false) := by
  intro n
  induction n with
  | zero => intro _; rfl
  | succ n ih =>
    intro h
    unfold fnd
    rw [if_neg fun e => h n (by omega) e.symm]
    exact ih fun i hi => h i (by omega)
theorem fnd_yes {c : Ct} {name : List UInt8} {i : Nat} (h : name = nm i) : ∀ n, n ≤ 25 → i < n → fnd c name n = (c i, true) := by
  intro n
  induction n with
  | zero => intro _ h; omega
  | succ n ih =>
    intro hn hi
    unfold fnd
    by_cases e : nm n = name
    · rw [if_pos e]
      have : n = i := nm_inj n (by omega) i (by omega) (e.trans h)
      rw [this]
    · rw [if_neg e]
      refine ih (by omega) ?_
      rcases Nat.lt_or_ge i n with h2 | h2
      · exact h2
      · exact (e (by rw [h, show n = i from by omega])).elim
theorem nmT_map : nmT = (List.range 25).map nm := by decide +kernel
theorem rows0 : (nmT.map fun n => (n, 0)).flatMap cntC = cellsR fun _ => 0 := by
  rw [nmT_map, List.map_map, List.flatMap_map]
  rfl
theorem new_TL {S S1 S2 : St} {b1 br : Nat} {s : Sl} (hb1 : b1 = S.next) (ha : At S1 b1 (.cells (cellsN fun _ => 0) none false none)) (e1 : Ext S S1) (hn : S1.next = S.next + 1) (h : CX noB cntC 2 S1 S2 [(br, .cells [.slice s.a s.len s.cap] none false none)] s (nmT.map fun n => (n, 0))) :
    ∃ bl rest, TL noB S S2 b1 br bl rest (fun _ => 0) fun _ => 0 := by
  rcases h.cx.p with ⟨h0, _⟩ | ⟨bl, rest, _, hs, hat, _⟩
  · have := congrArg List.length h0
    rw [List.length_map, nmT_len] at this
    simp at this
  · subst hs
    rw [rows0] at hat
    rw [List.length_map, nmT_len] at h
    have hbl := h.own bl ⟨0, rfl⟩
    have hne := h.cx.sep _ (List.mem_singleton.2 rfl)
    have hbr := (h.cx.h.all _ (List.mem_singleton.2 rfl))
    have hbr1 : S1.next ≤ br := hbr.2.elim id fun h => h.elim
    have hne' : br ≠ bl := fun e => hne (by subst e; exact ⟨0, rfl⟩)
    refine ⟨bl, rest, e1.tr h.cx.mod, ?_, ?_⟩
    · intro p hp
      simp only [List.mem_cons, List.not_mem_nil, or_false] at hp
      rcases hp with rfl | rfl | rfl
      · exact ⟨Ext.at h.cx.mod ha, .inl (by simp only; omega)⟩
      · exact ⟨hbr.1, .inl (by simp only; omega)⟩
      · exact ⟨hat, .inl (by simp only; omega)⟩
    · simp only [List.map_cons, List.map_nil, List.nodup_cons, List.mem_cons, List.not_mem_nil, or_false, not_or, not_false_eq_true, List.nodup_nil, and_true]
      omega
set_option maxHeartbeats 4000000 in
theorem s3 {l s : Sl} {name : List UInt8} {S : St} (g : Gl S) {xs : List Row} (hl : SlOf slC 1 S l xs) (hx : ∀ x ∈ xs, Bs S x.1 x.2 ∧ x.1.len ≤ x.1.cap ∧ x.1.cap < inex) {ss : List (Int × Int × Int)} (hs : SlOf stC 3 S s ss) {k : Value → St → Prop}
    (hk : ∀ S', Ext S S' → k (.bool true) S') : WC E0 3 [.slice l.a l.len l.cap, .slice s.a s.len s.cap, strV name] S k := by
  refine w3 l s name ?_
  unfold c3
  have hll := hl.len
  have hsl := hs.len
  refine ifW_dec (fun _ => hk S (Mod.refl _ _)) fun h20 => ?_
  refine ifW_dec (fun _ => hk S (Mod.refl _ _)) fun h100 => ?_
  refine ifW_dec (fun _ => hk S (Mod.refl _ _)) fun h40 => ?_
  refine newW_of fun b1 S1 hb1 ha e1 hn => ?_
  refine evC_of (s4 fun br sr S2 hC => ⟨some ⟨br, 0, none⟩, rfl, ?_⟩)
  obtain ⟨bl, rest, hT⟩ := new_TL hb1 ha e1 hn hC
  clear hC
  refine loopW_ind (fun q (n : Int) S' => ∃ j : Nat, n = (j : Int) ∧ j ≤ xs.length ∧ q = xs.length - j ∧ TL noB S S' b1 br bl rest ((xs.take j).foldl bumpP fun _ => 0) ((xs.take j).foldl bumpP fun _ => 0)) (m := xs.length) ⟨0, rfl, by omega, rfl, hT⟩ ?_
  rintro P q n S3 ⟨j, rfl, hj, rfl, hT⟩ hP
  clear ha e1
  refine ifW_dec (fun hlt => ?_) fun hlt => ?_
  · have hj' : j < xs.length := by omega
    have hcb : ∀ i, (xs.take j).foldl bumpP (fun _ => 0) i ≤ 0 + (xs.take j).length := fun i => bumpPs_le (xs.take j) (fun _ => 0) i
    have htl : (xs.take j).length ≤ 1000 := by rw [List.length_take]; omega
    have hnext : ∀ S', TL noB S S' b1 br bl rest (bumpP ((xs.take j).foldl bumpP fun _ => 0) xs[j]) (bumpP ((xs.take j).foldl bumpP fun _ => 0) xs[j]) → P (wrapI .i64 ((j : Int) + 1)) S' := fun S' hL => by
      rw [wrap_succ (by omega)]
      refine hP _ _ _ (by omega) ⟨j + 1, rfl, by omega, rfl, ?_⟩
      rw [List.take_succ_eq_append_getElem hj', List.foldl_append]
      exact hL
    generalize (xs.take j).foldl bumpP (fun _ => 0) = d at hT hcb hnext
    have hget : ∀ {S' : St} {K : Sl → Prop}, Ext S S' → K xs[j].1 → idxW l.a l.len (j : Int) fun b2 b3 => evV tS (loadV E0 S' 36 (.pointer (some ⟨b2, b3 + Int.toNat (j : Int) * 1, none⟩))) K := fun e hK =>
      (Ext.slOf e hl).get1n (n := j) (g := fun x : Row => .slice x.1.a x.1.len x.1.cap) (t := 36) inf36 (by kernel_rfl) hj' fun b1 o1 hld _ => evV_of (ty := tS) xs[j].1 (hld _ rfl) hK
    have hxj := hx _ (List.getElem_mem hj')
    generalize xs[j] = x at hnext hget hxj
    obtain ⟨hb, hlc, hci⟩ := hxj
    have hbl := hb.len
    refine hget hT.mod ?_
    refine ifW_dec (fun h => ?_) fun h => ?_
    · have e : bumpP d x = bump d (ix x.2) := if_pos (by omega)
      rw [e] at hnext
      refine hget hT.mod ?_
      refine evC_of (s5 g hT hb hlc hci (by omega) (fun i => by have := hcb i; omega) fun S4 hT => ⟨PUnit.unit, rfl, ?_⟩)
      refine hget hT.mod ?_
      exact evC_of (s6 g hT hb (by omega) (fun i => by have := hcb i; omega) fun S5 hT => ⟨PUnit.unit, rfl, hnext S5 hT⟩)
    · have e : bumpP d x = d := if_neg (by omega)
      rw [e] at hnext
      exact hnext S3 hT
  · rw [List.take_of_length_le (by omega)] at hT
    have hcb : ∀ i, xs.foldl bumpP (fun _ => 0) i ≤ 0 + xs.length := fun i => bumpPs_le xs (fun _ => 0) i
    generalize xs.foldl bumpP (fun _ => 0) = d at hT hcb
    refine evC_of (s7 hT hs (by omega) (fun i => by have := hcb i; omega) fun S6 hT => ⟨PUnit.unit, rfl, ?_⟩)
    refine evC_of (s8 hT hs (by omega) (fun i => by have := hcb i; omega) fun S7 hT => ⟨PUnit.unit, rfl, ?_⟩)
    have hcb : ∀ i, ss.foldl bumpS d i ≤ 1000 := fun i => by have := bumps_le ss d i; have := hcb i; omega
    generalize ss.foldl bumpS d = c at hT hcb
    refine loopW_ind (fun q (x : Int × Int × Bool × Int) S' => ∃ j : Nat, x = (((sumC c j : Nat) : Int), (((fnd c name j).1 : Nat) : Int), (fnd c name j).2, (j : Int)) ∧ j ≤ 25 ∧ q = 25 - j ∧ TL noB S S' b1 br bl rest c c) (m := 25) ⟨0, rfl, by omega, rfl, hT⟩ ?_
    rintro P2 q x S8 ⟨j, rfl, hj, rfl, hT⟩ hP2
    dsimp only
    refine ptrW_of (ptrW_of ?_)
    refine Hld.ld hT 1 rfl (by kernel_rfl) (⟨some ⟨bl, 0, none⟩, 25, inex⟩ : Sl) rfl ?_
    dsimp only
    refine ifW_dec (fun hlt => ?_) fun hlt => ?_
    · have hj' : j < 25 := by omega
      refine ptrW_of (ptrW_of ?_)
      refine Hld.ld hT 1 rfl (by kernel_rfl) (⟨some ⟨bl, 0, none⟩, 25, inex⟩ : Sl) rfl ?_
      refine ⟨bl, 0, rfl, by omega, by dsimp only; omega, ?_⟩
      refine ptrW_of ?_
      refine Hld.ld hT 2 rfl (by kernel_rfl) ((c j : Nat) : Int) (cellsRR_at _ hj').2 ?_
      refine ptrW_of (ptrW_of ?_)
      refine Hld.ld hT 1 rfl (by kernel_rfl) (⟨some ⟨bl, 0, none⟩, 25, inex⟩ : Sl) rfl ?_
      refine ⟨bl, 0, rfl, by omega, by dsimp only; omega, ?_⟩
      refine ptrW_of ?_
      refine Hld.ld hT 2 rfl (by kernel_rfl) (nm j) (cellsRR_at _ hj').1 ?_
      refine evC_of (s9 (g.ext hT.mod) hT (fun i hi hne S9 e9 => ?_) fun hno => (hno j hj' rfl).elim)
      have e : j = i := nm_inj j hj' i hi hne
      subst e
      refine ⟨(((c j : Nat) : Int), true), rfl, ?_⟩
      have hT := Hld.ext hT e9
      dsimp only
      refine ifW_of (fun h => by cases h) fun _ => ?_
      refine ptrW_of (ptrW_of ?_)
      refine Hld.ld hT 1 rfl (by kernel_rfl) (⟨some ⟨bl, 0, none⟩, 25, inex⟩ : Sl) rfl ?_
      refine ⟨bl, 0, rfl, by omega, by dsimp only; omega, ?_⟩
      refine ptrW_of ?_
      refine Hld.ld hT 2 rfl (by kernel_rfl) ((c j : Nat) : Int) (cellsRR_at _ hj').2 ?_
      refine ifW_ndec (fun h => (h rfl).elim) fun _ => ?_
      refine ptrW_of (ptrW_of ?_)
      refine Hld.ld hT 1 rfl (by kernel_rfl) (⟨some ⟨bl, 0, none⟩, 25, inex⟩ : Sl) rfl ?_
      refine ⟨bl, 0, rfl, by omega, by dsimp only; omega, ?_⟩
      refine ptrW_of ?_
      refine Hld.ld hT 2 rfl (by kernel_rfl) (nm j) (cellsRR_at _ hj').1 ?_
      have hsum := sumC_le hcb j
      have hcj := hcb j
      rw [wrap_u64 (n := ((sumC c j : Nat) : Int) + ((c j : Nat) : Int)) (by omega) (by omega), wrap_succ (by omega)]
      have es : ((sumC c j : Nat) : Int) + ((c j : Nat) : Int) = ((sumC c (j + 1) : Nat) : Int) := by
        show _ = ((sumC c j + c j : Nat) : Int)
        omega
      rw [es]
      refine ifW_of (fun h => ?_) fun h => ?_
      · have hn : nm j = name := by simpa using h
        have ef : fnd c name (j + 1) = (c j, true) := if_pos hn
        refine hP2 _ _ _ (by omega) ⟨j + 1, ?_, by omega, rfl, hT⟩
        rw [ef]
      · have hn : ¬ nm j = name := by simpa using h
        have ef : fnd c name (j + 1) = fnd c name j := if_neg hn
        refine hP2 _ _ _ (by omega) ⟨j + 1, ?_, by omega, rfl, hT⟩
        rw [ef]
    · have e : j = 25 := by omega
      subst e
      have fin : ∀ {S10}, TL noB S S10 b1 br bl rest c c → evC E0 tU 10 [.pointer (some ⟨b1, 0, none⟩)] S10 fun (n4 : Int) (S11 : St) =>
          ifW (eqI n4 ((sumC c 25 : Nat) : Int))
            (evC E0 tS 12 [.pointer (some ⟨b1, 0, none⟩)] S11 fun (s9 : Sl) (S12 : St) =>
              evC E0 tS 13 [.pointer (some ⟨br, 0, none⟩)] S12 fun (s10 : Sl) (S13 : St) =>
                evC E0 tB 11 [.slice s9.a s9.len s9.cap, .slice s10.a s10.len s10.cap] S13 fun (t2 : Bool) (S14 : St) =>
                  ifW t2
                    (evC E0 tS 14 [] S14 fun (s11 : Sl) (S15 : St) =>
                      evC E0 tS 15 [] S15 fun (s12 : Sl) (S16 : St) =>
                        evC E0 tB 11 [.slice s11.a s11.len s11.cap, .slice s12.a s12.len s12.cap] S16 fun (t3 : Bool) (S17 : St) => k (.bool t3) S17)
                    (k (.bool false) S14))
            (k (.bool false) S11) := by
        intro S10 hT
        refine evC_of (s10 hT (fun i => by have := hcb i; omega) ⟨_, rfl, ?_⟩)
        refine ifW_pos rfl ?_
        refine evC_of (s12 (g.ext hT.mod) hT (fun i => by have := hcb i; omega) fun sa S12 ea ha => ⟨sa, rfl, ?_⟩)
        have hT := Hld.ext hT ea
        refine evC_of (s13 hT (fun i => by have := hcb i; omega) fun sb S13 eb hb => ⟨sb, rfl, ?_⟩)
        have hT := Hld.ext hT eb
        have hla := linesC_len c 25
        refine evC_of (s11 (Ext.slOf eb ha) hb (by omega) (fun _ => ⟨true, rfl, ?_⟩) fun hne => (hne rfl).elim)
        refine ifW_of (fun _ => ?_) fun h => by cases h
        refine evC_of (s14 (g.ext hT.mod) fun sc S15 ec hc => ⟨sc, rfl, ?_⟩)
        refine evC_of (s15 fun sd S16 hd => ⟨sd, rfl, ?_⟩)
        have hd' : SlOf strC 1 S16 sd nmT := GrX.of (f := strC) (sz := 1) (fun _ => rfl) hd.cx.p
        refine evC_of (s11 (Ext.slOf hd.cx.mod hc) hd' (by rw [nmT_len]; omega) (fun _ => ⟨true, rfl, ?_⟩) fun hne => (hne rfl).elim)
        exact hk S16 ((hT.mod.tr ec).tr hd.cx.mod)
      refine evC_of (s9 (g.ext hT.mod) hT (fun i hi hne S9 e9 => ?_) fun hno S9 e9 => ?_)
      · refine ⟨(((c i : Nat) : Int), true), rfl, ?_⟩
        rw [fnd_yes hne 25 (by omega) hi]
        dsimp only
        refine ifW_pos rfl ?_
        refine ⟨true, by kernel_rfl, ?_⟩
        refine ifW_of (fun _ => fin (Hld.ext hT e9)) fun h => by cases h
      · refine ⟨(0, false), rfl, ?_⟩
        rw [fnd_no 25 hno]
        dsimp only
        refine ifW_pos rfl ?_
        refine ⟨true, by kernel_rfl, ?_⟩
        refine ifW_of (fun _ => fin (Hld.ext hT e9)) fun h => by cases h
end
end Go.Proofs.YtgdijpcopdgapaaDoor
