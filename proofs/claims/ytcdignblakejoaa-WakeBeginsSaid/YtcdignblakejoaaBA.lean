/- Parts of the proof, put together. -/
import Derived.Test.YtcdignblakejoaaLA
/- Where robots may be: all apart, on the map. -/
namespace Go.Proofs.Ytcdignblakejoaa
open Go Go.Proofs.Ytcdignblakejoaa.D
set_option linter.unusedVariables false
set_option linter.unusedSimpArgs false
noncomputable section

theorem inf3' : E0.inf 3 = some DEnv.i3 := by kernel_rfl
theorem one_int (l : List Int) : (l.flatMap encI).all St.one = true := by
  rw [List.all_eq_true]
  intro x hx
  obtain ⟨c, _, hx⟩ := List.mem_flatMap.1 hx
  simp only [encI, List.mem_singleton] at hx
  subst hx; rfl
theorem bytes3' : DEnv.i3.bytes = 8 := by kernel_rfl
/-- Numbers, collected. -/
theorem s58 {S : St} {bv : Nat} {s : Sl} {l : List Int} (hbv : At S bv (.cells [.slice s.a s.len s.cap] none false none)) (hs : SlOf encI 1 S s l) (hl : l.length ≤ 10000) {k : Value → St → Prop}
    (hk : ∀ s' S', Ext S S' → GrX encI 1 S.next S' s' l → k (.slice s'.a s'.len s'.cap) S') : WC E0 58 [.slice none 0 0, .func (.func 48) #[] #[.pointer (some ⟨bv, 0, none⟩)]] S k := by
  refine w58 ⟨none, 0, 0⟩ _ ?_
  unfold c58
  have hg0 : GrX encI 1 S.next S ⟨none, 0, 0⟩ [] := .inl ⟨rfl, rfl⟩
  have hX := Cx.start (S := S) noB hg0 GrX.frm' fun c hc => (GrX.lt' hg0 hc).2
  refine hX.new fun b1 S1 hX _ _ => ?_
  refine hX.new fun b2 S2 hX _ _ => ?_
  rintro b3 S3 K rfl rfl hLL hR
  have hX := hX.record (o := K .ready none)
  generalize (S2.alloc (K .ready none)).2 = S3 at hX ⊢
  generalize hb3 : S2.next = b3 at hX hR ⊢
  have hsl := hs.len
  refine WG_of rfl (w48 (.func (.yield b3) #[] #[]) bv ?_)
  unfold c48
  refine evV_of (ty := tS) s (load_one (Ext.at hX.mod hbv) (by kernel_rfl)) ?_
  refine loopW_ind (fun q (n : Int) S' => ∃ (i : Nat) (o : Sl), n = (i : Int) ∧ i ≤ l.length ∧ q = l.length - i ∧ Cx noB S S' [(b3, K .ready none), (b2, .deferred), (b1, .cells [.slice o.a o.len o.cap] none false none)] (slO o) (fun S' => GrX encI 1 S.next S' o (l.take i))) (m := l.length) ⟨0, ⟨none, 0, 0⟩, rfl, by omega, rfl, hX⟩ ?_
  rintro P q n S4 ⟨i, o, rfl, hi, rfl, hX⟩ hP
  refine ifW_dec (fun hlt => ?_) fun hlt => ?_
  · have hi' : i < l.length := by omega
    refine SlOf.int (Ext.slOf hX.mod hs) hi' ?_
    refine hR l[i] S4 _ ?_
    refine hX.has 0 rfl ?_
    refine hX.has 0 rfl ?_
    refine hX.upd 0 rfl fun S5 hX _ => ?_
    refine hX.ld 2 rfl (by kernel_rfl) o rfl ?_
    refine hX.new fun b4 S6 hX _ _ => ?_
    refine GrX.append (E := E0) (f := encI) (sz := 1) (N := S.next) (fun _ => rfl) (by omega) hX.p und22 inf3' und22 (by kernel_rfl) (by kernel_rfl) (by kernel_rfl : DEnv.i3.zero = some (.int .i64 0)) rfl (vs := [l[i]]) rfl (firstD_box (f := encI) (sz := 1) (fun _ => rfl) (by omega) (hX.at 0 rfl)) (one_int _) (by rw [bytes3', List.length_singleton, List.length_take]; omega) (by rw [List.length_singleton, List.length_take]; omega) (by simp) (by rw [List.length_singleton, List.length_take]; unfold inex; omega) (fun o2 S7 hg7 m7 ha7 => ?_) hX.mod.next
    rw [← take_snoc hi'] at hg7
    have hX7 := hX.op m7 (fun c hc => ⟨0, hc.2⟩) (fun c hc hlt => by have := hc.1; omega) hg7 GrX.frm' (fun c hc => by
      obtain ⟨q, hc⟩ := hc
      rcases ha7 with e | ⟨b, e, hb⟩
      · exact .inl ⟨q, by rw [← e]; exact hc⟩
      · rw [e] at hc; cases hc; exact .inr hb) (fun c hc => (GrX.lt' hg7 hc).2)
    refine hX7.st 3 1 rfl (by kernel_rfl) rfl (Nat.le_of_ble_eq_true rfl) rfl rfl fun S8 hX8 _ => ?_
    refine hX8.has 1 rfl ?_
    refine hX8.upd 1 rfl fun S9 hX9 _ => ?_
    refine ifW_of (fun h => by cases h) fun _ => ?_
    rw [wrap_succ (by omega)]
    exact hP _ _ _ (by omega) ⟨i + 1, o2, rfl, by omega, rfl, hX9.tl 1⟩
  · have : i = l.length := by omega
    subst this
    refine .inl ?_
    refine hX.has 0 rfl ?_
    refine hX.upd 0 rfl fun S11 hX _ => ?_
    refine hX.ld 2 rfl (by kernel_rfl) o rfl ?_
    refine hX.has 1 rfl ?_
    refine hX.upd 1 rfl fun S12 hX _ => ?_
    have hg := hX.p
    rw [List.take_length] at hg
    exact hk o S12 hX.mod hg
theorem GrX.low {α : Type} {f : α → List Value} {sz N N' : Nat} {S : St} {s : Sl} {l : List α} (h : GrX f sz N S s l) (hN : N' ≤ N) : GrX f sz N' S s l := by
  rcases h with h | ⟨b, rest, hb, h⟩
  · exact .inl h
  · exact .inr ⟨b, rest, by omega, h⟩
/-- Numbers, sorted. -/
theorem s24 {S : St} {bv : Nat} {s : Sl} {l : List Int} (hbv : At S bv (.cells [.slice s.a s.len s.cap] none false none)) (hs : SlOf encI 1 S s l) (hl : l.length ≤ 10000) {k : Value → St → Prop}
    (hk : ∀ s' S', Ext S S' → GrX encI 1 0 S' s' (sortI l) → (∀ c, slO s' c → S.next ≤ c) → k (.slice s'.a s'.len s'.cap) S') : WC E0 24 [.func (.func 48) #[] #[.pointer (some ⟨bv, 0, none⟩)]] S k := by
  refine w24 _ ?_
  unfold c24
  refine evC_of (w46 _ ?_)
  unfold c46
  refine evC_of (s58 hbv hs hl fun s1 S1 e1 hg1 => ⟨s1, rfl, ⟨s1, rfl, ?_⟩⟩)
  refine evC_of (s47 (GrX.low hg1 (Nat.zero_le _)) (by omega) fun S2 hg2 m2 => ⟨PUnit.unit, rfl, ?_⟩)
  exact hk s1 S2 (e1.ext m2 fun c hc => (GrX.lt' hg1 hc).1) hg2 fun c hc => (GrX.lt' hg1 hc).1
/-! ### Each once -/
theorem cmpct_nodup : ∀ {l : List Int}, (l.Pairwise fun x y => x ≤ y) → ((cmpct l).length = l.length ↔ l.Nodup)
  | [], _ => by simp [cmpct]
  | [a], _ => by simp [cmpct]
  | a :: b :: r, h => by
    rw [List.pairwise_cons] at h
    have ih := cmpct_nodup h.2
    have hle := cmpct_len_le (b :: r)
    show (if a = b then cmpct (b :: r) else a :: cmpct (b :: r)).length = _ ↔ _
    rw [List.nodup_cons, ← ih]
    by_cases hab : a = b
    · rw [if_pos hab]
      simp only [List.length_cons] at hle ⊢
      constructor
      · intro hh; omega
      · rintro ⟨h1, _⟩; exact (h1 (by rw [hab]; simp)).elim
    · rw [if_neg hab]
      simp only [List.length_cons] at hle ⊢
      constructor
      · intro hh
        refine ⟨fun hm => ?_, by omega⟩
        rcases List.mem_cons.1 hm with e | hm
        · exact hab e
        · have h1 := h.1 b (by simp)
          have h2 := (List.pairwise_cons.1 h.2).1 a hm
          omega
      · rintro ⟨_, hh⟩; omega
theorem sortI_le (l : List Int) : (sortI l).Pairwise fun x y => x ≤ y := by
  have := List.pairwise_mergeSort (le := fun x y : Int => decide (x ≤ y)) (fun _ _ _ h1 h2 => by simp at *; omega) (fun _ _ => by simp; omega) l
  exact this.imp fun h => by simpa using h
theorem sortI_mem {l : List Int} {x : Int} : x ∈ sortI l ↔ x ∈ l := (List.mergeSort_perm l _).mem_iff
/-- May robots be there? -/
def mayP (k cells : Int) (l : List Int) : Prop := 1 ≤ l.length ∧ l.length ≤ 64 ∧ 0 ≤ k ∧ k < (l.length : Int) ∧ 1 ≤ cells ∧ cells ≤ 1024 ∧ (∀ p ∈ l, 0 ≤ p ∧ p < cells) ∧ l.Nodup
open Classical in
/-- The program's question. -/
theorem s9 {S : St} {s : Sl} {l : List Int} {kk cells : Int} (hs : SlOf encI 1 S s l) (hl : l.length ≤ 10000) {k : Value → St → Prop} (hk : ∀ (t : Bool) S', Ext S S' → (t = true ↔ mayP kk cells l) → k (.bool t) S') : WC E0 9 [.int .i64 kk, .int .i64 cells, .slice s.a s.len s.cap] S k := by
  refine w9 _ _ s ?_
  unfold c9
  have hsl := hs.len
  have no : ∀ {S'}, Ext S S' → ¬ mayP kk cells l → k (.bool false) S' := fun e h => hk false _ e ⟨(fun h => by cases h), fun hh => (h hh).elim⟩
  refine ifW_dec (fun h => no (Mod.refl _ _) fun hh => by have := hh.1; omega) fun h1 => ?_
  refine ifW_dec (fun h => no (Mod.refl _ _) fun hh => by have := hh.2.1; omega) fun h2 => ?_
  refine ifW_dec (fun h => no (Mod.refl _ _) fun hh => by have := hh.2.2.1; omega) fun h3 => ?_
  refine ifW_dec (fun h => no (Mod.refl _ _) fun hh => by have := hh.2.2.2.1; omega) fun h4 => ?_
  refine ifW_dec (fun h => no (Mod.refl _ _) fun hh => by have := hh.2.2.2.2.1; omega) fun h5 => ?_
  refine ifW_dec (fun h => no (Mod.refl _ _) fun hh => by have := hh.2.2.2.2.2.1; omega) fun h6 => ?_
  refine evC_of (w25 s ?_)
  unfold c25
  refine newW_of fun b1 S1 _ hat1 e1 _ => ⟨_, rfl, ?_⟩
  refine evC_of (s24 hat1 (e1.slOf hs) hl fun s1 S2 e2 hg2 hown => ⟨s1, rfl, ?_⟩)
  have he2 : Ext S S2 := e1.tr e2
  have hsz : (sortI l).length = l.length := sortI_len l
  have hss : SlOf encI 1 S2 s1 (sortI l) := hg2.of fun _ => rfl
  have h0 : 0 < (sortI l).length := by omega
  refine SlOf.int hss (n := 0) h0 ?_
  have hfirst : ∀ p ∈ l, (sortI l)[0] ≤ p := fun p hp => by
    obtain ⟨j, hj, e⟩ := List.getElem_of_mem (sortI_mem.2 hp)
    rcases Nat.eq_zero_or_pos j with h | h
    · subst h; omega
    · have := List.pairwise_iff_getElem.1 (sortI_le l) 0 j h0 hj h; omega
  refine ifW_dec (fun h7 => ?_) fun h7 => no he2 fun hh => ?_
  rotate_left
  · have := (hh.2.2.2.2.2.2.1 _ (sortI_mem.1 (List.getElem_mem h0))).1
    omega
  have hw : wrapI .i64 ((s.len : Int) - 1) = ((l.length - 1 : Nat) : Int) := by rw [wrap_i64 (by omega) (by omega)]; omega
  rw [hw]
  have hlast : l.length - 1 < (sortI l).length := by omega
  refine SlOf.int hss (n := l.length - 1) hlast ?_
  have hlst : ∀ p ∈ l, p ≤ (sortI l)[l.length - 1] := fun p hp => by
    obtain ⟨j, hj, e⟩ := List.getElem_of_mem (sortI_mem.2 hp)
    rcases Nat.lt_or_ge j (l.length - 1) with h | h
    · have := List.pairwise_iff_getElem.1 (sortI_le l) j (l.length - 1) hj hlast h; omega
    · have : j = l.length - 1 := by omega
      subst this; omega
  refine ifW_dec (fun h8 => ?_) fun h8 => no he2 fun hh => ?_
  rotate_left
  · have := (hh.2.2.2.2.2.2.1 _ (sortI_mem.1 (List.getElem_mem hlast))).2
    omega
  refine evC_of (s26 hg2 (by omega) fun s2 S3 hg3 m3 _ => ⟨s2, rfl, ?_⟩)
  rw [eqI_eq]
  refine hk _ S3 (he2.ext m3 fun c hc => by have := hown c hc; have := e1.next; omega) ?_
  rw [decide_eq_true_eq]
  have hl3 := hg3.len
  have hnd := cmpct_nodup (sortI_le l)
  have hnd2 : (sortI l).Nodup ↔ l.Nodup := (List.mergeSort_perm l _).nodup_iff
  constructor
  · intro he
    refine ⟨by omega, by omega, by omega, by omega, by omega, by omega, fun p hp => ?_, hnd2.1 (hnd.1 (by omega))⟩
    have := hfirst p hp
    have := hlst p hp
    omega
  · intro hh
    have := hnd.2 (hnd2.2 hh.2.2.2.2.2.2.2)
    omega
end
end Go.Proofs.Ytcdignblakejoaa

/- A shelf at the beginning: the law. -/
namespace Go.Proofs.Ytcdignblakejoaa
open Go Go.Proofs.Ytcdignblakejoaa.D
set_option linter.unusedVariables false
set_option linter.unusedSimpArgs false
noncomputable section

/-- A shelf's records at the beginning, of the first i places. -/
def begL (k : Int) (l : List Int) : Nat → List Im
  | 0 => putS (putS [] (1, 0) (be4 0)) (2, l.getD k.toNat 0) (be4 1)
  | i + 1 => if Int.tmod (l.getD i 0) (l.length : Int) = k then putS (begL k l i) (3, l.getD i 0) (recB ((i : Int), 1)) else begL k l i
theorem rec_len {i : Int} : (recB (i, 1)).length = 5 := by
  unfold recB
  rw [if_neg (fun e => by cases e)]
  rfl
theorem rec_ne {i : Int} : recB (i, 1) ≠ [] := fun e => by have := rec_len (i := i); rw [e] at this; cases this
theorem begL_sort (k : Int) (l : List Int) : ∀ i, sortS (begL k l i)
  | 0 => putS_sort (putS_sort sortS_nil _ _) _ _
  | i + 1 => by
    unfold begL
    split
    · exact putS_sort (begL_sort k l i) _ _
    · exact begL_sort k l i
theorem begL_len (k : Int) (l : List Int) : ∀ i, (begL k l i).length ≤ i + 2
  | 0 => Nat.le_trans (putS_len _ _ _) (by have := putS_len [] (1, 0) (be4 0); simp at this; omega)
  | i + 1 => by
    have ih := begL_len k l i
    unfold begL
    split
    · have := putS_len (begL k l i) (3, l.getD i 0) (recB ((i : Int), 1)); omega
    · omega
theorem begL_dat (k : Int) (l : List Int) : ∀ i x, x ∈ begL k l i → x.2 ≠ [] ∧ x.2.length ≤ 5
  | 0, x, hx => by
    unfold begL at hx
    rcases putS_mem.1 hx with ⟨h, rfl⟩ | ⟨hx, _⟩
    · exact ⟨h, by show (be4 1).length ≤ 5; decide⟩
    · rcases putS_mem.1 hx with ⟨h, rfl⟩ | ⟨hx, _⟩
      · exact ⟨h, by show (be4 0).length ≤ 5; decide⟩
      · simp at hx
  | i + 1, x, hx => by
    unfold begL at hx
    split at hx
    · rcases putS_mem.1 hx with ⟨h, rfl⟩ | ⟨hx, _⟩
      · exact ⟨h, by show (recB ((i : Int), 1)).length ≤ 5; rw [rec_len]; omega⟩
      · exact begL_dat k l i x hx
    · exact begL_dat k l i x hx
theorem begL_epoch (k : Int) (l : List Int) : ∀ i, (((1, 0) : Pr), be4 0) ∈ begL k l i
  | 0 => putS_mem.2 (.inr ⟨putS_mem.2 (.inl ⟨by unfold be4; simp, rfl⟩), by simp⟩)
  | i + 1 => by
    unfold begL
    split
    · exact putS_mem.2 (.inr ⟨begL_epoch k l i, by simp⟩)
    · exact begL_epoch k l i
theorem ok_rec {i p : Int} (h0 : 0 ≤ p) (h1 : p < 1024) : recOk (3, p) (recB (i, 1)) := ⟨by dsimp only; omega, by dsimp only; omega, by dsimp only; omega, by dsimp only; omega, by rw [rec_len]; omega⟩
theorem ok_clm {n p : Int} (h0 : 0 ≤ p) (h1 : p < 1024) : recOk (2, p) (be4 n) := ⟨by dsimp only; omega, by dsimp only; omega, by dsimp only; omega, by dsimp only; omega, by show 4 ≤ 1024; omega⟩
theorem ok_epo {n : Int} : recOk (1, 0) (be4 n) := ⟨by dsimp only; omega, by dsimp only; omega, by dsimp only; omega, by dsimp only; omega, by show 4 ≤ 1024; omega⟩
set_option maxHeartbeats 2000000 in
/-- The program's. -/
theorem s4 {S : St} {s : Sl} {l : List Int} {kk cells : Int} (hs : SlOf encI 1 S s l) (hl : l.length ≤ 100) {k : Value → St → Prop}
    (hno : ¬ mayP kk cells l → ∀ S', Ext S S' → k (.tuple #[.pointer none, .int .i64 2]) S')
    (hyes : mayP kk cells l → ∀ b mr S', Ext S S' → ShAt S' b mr (begL kk l l.length) → k (.tuple #[.pointer (some ⟨b, 0, none⟩), .int .i64 0]) S') :
    WC E0 4 [.int .i64 kk, .int .i64 cells, .slice s.a s.len s.cap] S k := by
  refine w4 _ _ s ?_
  unfold c4
  refine evC_of (s9 hs (by omega) fun t S1 e1 ht => ⟨t, rfl, ?_⟩)
  have hsl := hs.len
  refine ifW_of (fun h => hno (fun hh => by rw [ht.2 hh] at h; cases h) S1 e1) fun h => ?_
  have hmay := ht.1 (by simpa using h)
  obtain ⟨m1, m2, m3, m4, m5, m6, m7, m8⟩ := hmay
  refine newW_of fun b1 S2 hb1 hat2 e2 hn2 => ?_
  have hsh2 : ShAt S2 b1 none [] := ⟨hat2, sortS_nil, by simp, .inl ⟨rfl, rfl⟩⟩
  refine evC_of (s11 fun s3 S3 e3 hd3 => ⟨((1, 0, s3) : Int × Int × Sl), rfl, ?_⟩)
  have he3 : Ext S S3 := (e1.tr e2).tr e3
  have hb1n : S.next ≤ b1 := by have := e1.next; omega
  refine evC_of (s10 (hsh2.ext e3) (by simp) hd3 (by show 4 ≤ 1000000; omega) fun mr4 S4 hsh4 m4' hf4 => ⟨_, rfl, ?_⟩)
  rw [show wrS [] ((1, 0), be4 0) = putS [] (1, 0) (be4 0) from if_pos ok_epo] at hsh4
  have hown4 : ∀ c, shF b1 mr4 c → S.next ≤ c := fun c hc => by
    rcases hf4 c hc with (h | h) | h
    · omega
    · cases h
    · have := he3.next; omega
  have he4 : Ext S S4 := he3.ext m4' fun c hc => by
    rcases hc with h | h
    · omega
    · cases h
  -- the claim
  refine newW_of fun b2 S5 hb2 hat5 e5 hn5 => ?_
  have hkl : kk.toNat < l.length := by omega
  have hcast : kk = (kk.toNat : Int) := by omega
  have hgk : l.getD kk.toNat 0 = l[kk.toNat] := by rw [List.getD_eq_getElem?_getD, List.getElem?_eq_getElem hkl]; rfl
  have hpk := m7 l[kk.toNat] (List.getElem_mem hkl)
  have hs5 := (he4.tr e5).slOf hs
  have hget : ∀ {S' : St} {K : Int → Prop}, Ext S S' → K l[kk.toNat] → idxW s.a s.len kk fun b3 b4 => evV tI (loadV E0 S' 3 (.pointer (some ⟨b3, b4 + Int.toNat kk * 1, none⟩))) K := fun {S' K} e hK => by
    have := SlOf.int (e.slOf hs) hkl (k := K) hK
    rw [← hcast] at this
    exact this
  refine hget (he4.tr e5) ?_
  have hcl5 : ClmAt S5 b2 ⟨none, 0, 0⟩ [] := ⟨hat5, OwC.nil, fun i j hi => by simp at hi⟩
  refine evC_of (s12 hcl5 (cell := l[kk.toNat]) (gen := 1) ⟨hpk.1, by omega⟩ (by simp) (by simp) fun sl6 acc6 S6 hcl6 hm6 hl6 m6' hf6 => ⟨0, rfl, ?_⟩)
  have e46 : Ext S4 S6 := e5.ext m6' fun c hc => by
    rcases hc with h | h
    · omega
    · obtain ⟨o, h⟩ := h; cases h
  refine hget (he4.tr e46) ?_
  refine evC_of (s13 hcl6 (by simp at hl6; omega) (cell := l[kk.toNat]) (gen := 1) ((hm6 _).2 (.inl rfl)) (fun g hg => by
    rcases (hm6 _).1 hg with h | h
    · exact (Prod.mk.inj h).2
    · simp at h) fun s7 S7 e7 hg7 _ => ⟨((2, l[kk.toNat], s7) : Int × Int × Sl), rfl, ?_⟩)
  have e47 : Ext S4 S7 := e46.tr e7
  refine evC_of (s10 (hsh4.ext e47) (by have := putS_len [] (1, 0) (be4 0); simp at this; omega) hg7.dat (by show 4 ≤ 1000000; omega) fun mr8 S8 hsh8 m8' hf8 => ⟨_, rfl, ?_⟩)
  rw [show wrS (putS [] (1, 0) (be4 0)) ((2, l[kk.toNat]), be4 1) = begL kk l 0 from by unfold begL; rw [hgk]; exact if_pos (ok_clm hpk.1 (by omega))] at hsh8
  have hown8 : ∀ c, shF b1 mr8 c → S.next ≤ c := fun c hc => by
    rcases hf8 c hc with h | h
    · exact hown4 c h
    · have := (he4.tr e47).next; omega
  have he8 : Ext S S8 := (he4.tr e47).ext m8' hown4
  -- the ledger
  refine evC_of (s14 (home := kk) (robots := (s.len : Int)) (cells := cells) ⟨by omega, by omega, by omega, by omega, by omega, by omega⟩ fun lb lb1 q2 q3 S9 e9 hlb hlb1 hlne hatl hfl => ⟨(some ⟨lb, 0, none⟩, 0), rfl, ?_⟩)
  have hled : LedAt S9 lb kk (s.len : Int) cells lb1 q2 q3 (fun _ => none) := ⟨hatl, hfl, hlne⟩
  have hsh9 := hsh8.ext e9
  have hlt8 : ∀ c, shF b1 mr8 c → c < S8.next := fun c hc => by
    rcases hc with rfl | hc
    · exact hsh8.box.lt
    · rcases hsh8.map with ⟨h, _⟩ | ⟨mb, E, clock, h, hat, _⟩
      · rw [h] at hc; cases hc
      · rw [h] at hc; cases hc; exact hat.lt
  refine loopW_ind (fun q (n : Int) S' => ∃ (i : Nat) (mr : Option Nat) (en : EnF), n = (i : Int) ∧ i ≤ l.length ∧ q = l.length - i ∧ Ext S S' ∧ ShAt S' b1 mr (begL kk l i) ∧ LedAt S' lb kk (s.len : Int) cells lb1 q2 q3 en ∧ (∀ c, shF b1 mr c → S.next ≤ c ∧ c ≠ lb ∧ c ≠ lb1) ∧ (∀ j (hj : j < l.length), i ≤ j → getE en l[j] = fstE) ∧ S9.next ≤ S'.next) (m := l.length)
    ⟨0, mr8, _, rfl, by omega, rfl, he8.tr e9, hsh9, hled, fun c hc => ⟨hown8 c hc, by have := hlt8 c hc; omega, by have := hlt8 c hc; omega⟩, fun j hj _ => rfl, Nat.le_refl _⟩ ?_
  rintro P q n S10 ⟨i, mr, en, rfl, hi, rfl, he, hsh, hld, hown, hfst, hnx⟩ hP
  refine ifW_dec (fun hlt => ?_) fun hlt => ?_
  rotate_left
  · have : i = l.length := by omega
    subst this
    exact hyes ⟨m1, m2, m3, m4, m5, m6, m7, m8⟩ b1 mr S10 he hsh
  have hi' : i < l.length := by omega
  have hgi : l.getD i 0 = l[i] := by rw [List.getD_eq_getElem?_getD, List.getElem?_eq_getElem hi']; rfl
  have hpi := m7 l[i] (List.getElem_mem hi')
  have hstep : begL kk l (i + 1) = if Int.tmod l[i] (l.length : Int) = kk then putS (begL kk l i) (3, l[i]) (recB ((i : Int), 1)) else begL kk l i := by
    rw [← hgi]; rfl
  refine SlOf.int (he.slOf hs) hi' ?_
  refine evC_of (s15 hld.box (by omega) ⟨_, rfl, ?_⟩)
  have hisL : isL kk (s.len : Int) cells l[i] ↔ Int.tmod l[i] (l.length : Int) = kk := by
    unfold isL
    rw [hsl]
    exact ⟨fun h => h.2.2, fun h => ⟨hpi.1, hpi.2, h⟩⟩
  by_cases htm : Int.tmod l[i] (l.length : Int) = kk
  · rw [decide_eq_true (hisL.2 htm)]
    refine ifW_of (fun _ => ?_) fun h => by cases h
    refine evC_of (s16 hld (by omega) (cell := l[i]) (robot := (i : Int)) (hisL.2 htm) (by omega) (by omega) (hfst i hi' (Nat.le_refl _)) fun s12 S12 hld12 hd12 m12 => ⟨(((3, l[i], s12) : Int × Int × Sl), 0), rfl, ?_⟩)
    have hnb : NB S10 (fun c => c = lb1) := fun c hc => by
      subst hc
      obtain ⟨es, clock, hes, _⟩ := hld.ents
      exact .inl ⟨es, clock, hes⟩
    have hsh12 : ShAt S12 b1 mr (begL kk l i) := hsh.mod hnb m12 fun c hc e => (hown c hc).2.2 e
    have hlbn : S.next ≤ lb1 := by have := he8.next; omega
    have he12 : Ext S S12 := he.ext m12 fun c hc => by omega
    refine newW_of fun b9 S13 hb9 hat13 e13 hn13 => ?_
    refine ⟨_, store_cells hat13 (n := 3) (by kernel_rfl) rfl (Nat.le_of_ble_eq_true rfl) rfl, ?_⟩
    have m14 := upd_mod (S := S13) (b := b9) (o := .cells ([Value.int .i64 0, .int .i64 0, .slice none 0 0].take 0 ++ (cellsOf (sv G41 ((3, l[i], s12) : Int × Int × Sl)) ++ [Value.int .i64 0, .int .i64 0, .slice none 0 0].drop (0 + 3))) none false none)
    have hat14 := upd_at (o' := .cells ([Value.int .i64 0, .int .i64 0, .slice none 0 0].take 0 ++ (cellsOf (sv G41 ((3, l[i], s12) : Int × Int × Sl)) ++ [Value.int .i64 0, .int .i64 0, .slice none 0 0].drop (0 + 3))) none false none) hat13
    generalize S13.upd b9 _ = S14 at m14 hat14 ⊢
    have e14 : Ext S12 S14 := e13.ext m14 fun c hc => by omega
    refine evV_of (ty := .one (.agg G41)) ((3, l[i], s12) : Int × Int × Sl) (load_agg (n := 3) hat14 (by kernel_rfl) rfl rfl) ?_
    refine evC_of (s10 (hsh12.ext e14) (by have := begL_len kk l i; omega) (hd12.ext e14) (by rw [rec_len]; omega) fun mr15 S15 hsh15 m15 hf15 => ⟨_, rfl, ?_⟩)
    rw [show wrS (begL kk l i) ((3, l[i]), recB ((i : Int), 1)) = begL kk l (i + 1) from by rw [hstep, if_pos htm]; exact if_pos (ok_rec (i := (i : Int)) (p := l[i]) hpi.1 (by omega))] at hsh15
    rw [wrap_succ (by omega)]
    have hn14 := e14.next
    have hn12 := m12.next
    have hn15 := m15.next
    refine hP _ _ _ (by omega) ⟨i + 1, mr15, setE en l[i] ((i : Int), 1), rfl, by omega, rfl, (he12.tr e14).ext m15 fun c hc => (hown c hc).1, hsh15, (hld12.ext e14).mod m15 (fun hc => (hown lb hc).2.1 rfl) (fun hc => (hown lb1 hc).2.2 rfl), fun c hc => ?_, fun j hj hij => ?_, by omega⟩
    · rcases hf15 c hc with h | h
      · exact hown c h
      · have := hld.box.lt
        have := hld.ents.lt
        have := he12.next
        exact ⟨by omega, by omega, by omega⟩
    · have hne : l[j] ≠ l[i] := fun e => by
        have := (List.pairwise_iff_getElem.1 m8) i j hi' hj (by omega)
        exact this e.symm
      unfold getE setE
      rw [if_neg hne]
      exact hfst j hj (by omega)
  · rw [decide_eq_false fun h => htm (hisL.1 h)]
    refine ifW_of (fun h => by cases h) fun _ => ?_
    rw [wrap_succ (by omega)]
    refine hP _ _ _ (by omega) ⟨i + 1, mr, en, rfl, by omega, rfl, he, ?_, hld, hown, fun j hj hij => hfst j hj (by omega), hnx⟩
    rw [hstep, if_neg htm]
    exact hsh
theorem not_may1 {k cells : Int} {l : List Int} {p : Int} (hp : p ∈ l) (h : ¬ (0 ≤ p ∧ p < cells)) : ¬ mayP k cells l := fun hh => h (hh.2.2.2.2.2.2.1 p hp)
set_option maxHeartbeats 2000000 in
/-- The document's. -/
theorem s5 {S : St} {s : Sl} {l : List Int} {kk cells : Int} (hs : SlOf encI 1 S s l) (hl : l.length ≤ 100) {k : Value → St → Prop}
    (hno : ¬ mayP kk cells l → k (.tuple #[.slice none 0 0, .int .i64 2]) S)
    (hyes : mayP kk cells l → ∀ s' l' S', Ext S S' → RecsD S' s' l' → l'.map imR = begL kk l l.length → k (.tuple #[.slice s'.a s'.len s'.cap, .int .i64 0]) S') :
    WC E0 5 [.int .i64 kk, .int .i64 cells, .slice s.a s.len s.cap] S k := by
  refine w5 _ _ s ?_
  unfold c5
  have hsl := hs.len
  refine ifW_dec (fun h => hno fun hh => by have := hh.1; omega) fun h1 => ?_
  refine ifW_dec (fun h => hno fun hh => by have := hh.2.1; omega) fun h2 => ?_
  refine ifW_dec (fun h => hno fun hh => by have := hh.2.2.1; omega) fun h3 => ?_
  refine ifW_dec (fun h => hno fun hh => by have := hh.2.2.2.1; omega) fun h4 => ?_
  refine ifW_dec (fun h => hno fun hh => by have := hh.2.2.2.2.1; omega) fun h5 => ?_
  refine ifW_dec (fun h => hno fun hh => by have := hh.2.2.2.2.2.1; omega) fun h6 => ?_
  refine loopW_ind (fun q (n : Int) S' => ∃ i : Nat, n = (i : Int) ∧ i ≤ l.length ∧ q = l.length - i ∧ S' = S ∧ (∀ p ∈ l.take i, 0 ≤ p ∧ p < cells) ∧ (l.take i).Nodup) (m := l.length) ⟨0, rfl, by omega, rfl, rfl, by simp, by simp⟩ ?_
  rintro P q n S1 ⟨i, rfl, hi, rfl, rfl, hin, hnd⟩ hP
  refine ifW_dec (fun hlt => ?_) fun hlt => ?_
  · have hi' : i < l.length := by omega
    have hmem := List.getElem_mem hi'
    refine SlOf.int hs hi' ?_
    refine ifW_dec (fun h => hno (not_may1 hmem (by omega))) fun h7 => ?_
    refine SlOf.int hs hi' ?_
    refine ifW_dec (fun h => hno (not_may1 hmem (by omega))) fun h8 => ?_
    refine loopW_ind (fun q (n : Int) S' => ∃ j : Nat, n = (j : Int) ∧ j ≤ i ∧ q = i - j ∧ S' = S1 ∧ ∀ j' (h : j' < l.length), j' < j → l[j'] ≠ l[i]) (m := i) ⟨0, rfl, by omega, rfl, rfl, fun j' h hj => by omega⟩ ?_
    rintro P2 q2 n2 S2 ⟨j, rfl, hj, rfl, rfl, hne⟩ hP2
    refine ifW_dec (fun hjl => ?_) fun hjl => ?_
    · have hj' : j < l.length := by omega
      refine SlOf.int hs hj' ?_
      refine SlOf.int hs hi' ?_
      refine ifW_dec (fun he => hno fun hh => ?_) fun he => ?_
      · exact List.pairwise_iff_getElem.1 hh.2.2.2.2.2.2.2 j i hj' hi' (by omega) he
      · rw [wrap_succ (by omega)]
        refine hP2 _ _ _ (by omega) ⟨j + 1, rfl, by omega, rfl, rfl, fun j' h hj2 => ?_⟩
        rcases Nat.lt_or_ge j' j with h9 | h9
        · exact hne j' h h9
        · have : j' = j := by omega
          subst this
          exact he
    · rw [wrap_succ (by omega)]
      refine hP _ _ _ (by omega) ⟨i + 1, rfl, by omega, rfl, rfl, fun p hp => ?_, ?_⟩
      · rw [take_snoc hi', List.mem_append, List.mem_singleton] at hp
        rcases hp with hp | rfl
        · exact hin p hp
        · exact ⟨by omega, by omega⟩
      · rw [take_snoc hi', List.nodup_append]
        refine ⟨hnd, by simp, fun a ha b hb e => ?_⟩
        rw [List.mem_singleton] at hb
        subst hb
        obtain ⟨j', hj'', e2⟩ := List.getElem_of_mem ha
        rw [List.length_take] at hj''
        rw [List.getElem_take] at e2
        exact hne j' (by omega) (by omega) (e2.trans e)
  have hil : i = l.length := by omega
  subst hil
  rw [List.take_length] at hin hnd
  have hmay : mayP kk cells l := ⟨by omega, by omega, by omega, by omega, by omega, by omega, hin, hnd⟩
  have hyes := hyes hmay
  have hkl : kk.toNat < l.length := by omega
  have hcast : kk = (kk.toNat : Int) := by omega
  have hgk : l.getD kk.toNat 0 = l[kk.toNat] := by rw [List.getD_eq_getElem?_getD, List.getElem?_eq_getElem hkl]; rfl
  have hpk := hin l[kk.toNat] (List.getElem_mem hkl)
  refine evC_of (s18 (by omega) (by omega) fun s3 S3 e3 hd3 => ⟨((1, 0, s3) : Int × Int × Sl), rfl, ?_⟩)
  have hnil : RecsD S3 ⟨none, 0, 0⟩ [] := ⟨⟨rfl, fun h => (h rfl).elim⟩, by simp⟩
  refine evC_of (s17 hnil (by simp) hd3 (fun h => (h ok_epo).elim) fun _ s4 l4 S4 e4 hr4 hm4 => ⟨(s4, 0), rfl, ?_⟩)
  have he4 : Ext S1 S4 := e3.tr e4
  have hget : idxW s.a s.len kk fun b3 b4 => evV tI (loadV E0 S4 3 (.pointer (some ⟨b3, b4 + Int.toNat kk * 1, none⟩))) fun n7 => n7 = l[kk.toNat] := by
    have := SlOf.int (he4.slOf hs) hkl (k := fun n7 => n7 = l[kk.toNat]) rfl
    rw [← hcast] at this
    exact this
  obtain ⟨b9, b10, g1, g2, g3, n7, g4, g5⟩ := hget
  refine ⟨b9, b10, g1, g2, g3, n7, g4, ?_⟩
  subst g5
  refine newW_of fun b11 S5 hb11 hat5 e5 hn5 => ?_
  have hd5 : Dat S5 ⟨some ⟨b11, 0, none⟩, 4, 4⟩ (be4 1) := by
    refine dat_box (d := be4 1) rfl ?_ (by omega)
    have e1 : wrapI .u8 1 = 1 := by rw [wrap8_eq]; rfl
    unfold be4
    simp only [List.map_cons, List.map_nil, byW_v]
    rw [show wrapI .u8 (1 / 16777216) = 0 by rw [wrap8_eq]; rfl, show wrapI .u8 (1 / 65536) = 0 by rw [wrap8_eq]; rfl, show wrapI .u8 (1 / 256) = 0 by rw [wrap8_eq]; rfl, e1]
    exact hat5
  have hl4 : l4.length ≤ 1 := by
    have h1 := congrArg List.length hm4
    have h2 := putS_len [] (1, 0) (be4 0)
    simp only [List.length_map, List.map_nil] at h1
    simp at h2
    omega
  refine evC_of (s17 (kd := 2) (n := l[kk.toNat]) (hr4.ext e5) (by omega) hd5 (fun h => (h (ok_clm hpk.1 (by omega))).elim) fun _ s6 l6 S6 e6 hr6 hm6 => ⟨(s6, 0), rfl, ?_⟩)
  have he6 : Ext S1 S6 := (he4.tr e5).tr e6
  have hm6' : l6.map imR = begL kk l 0 := by
    rw [hm6, hm4]
    unfold begL
    rw [hgk]
    rfl
  refine loopW_ind (fun q (x : Sl × Int) S' => ∃ (i : Nat) (l' : List Rc), x.2 = (i : Int) ∧ i ≤ l.length ∧ q = l.length - i ∧ Ext S1 S' ∧ RecsD S' x.1 l' ∧ l'.map imR = begL kk l i) (m := l.length) ⟨0, l6, rfl, by omega, rfl, he6, hr6, hm6'⟩ ?_
  rintro P2 q2 ⟨so, ni⟩ S7 ⟨i, l', rfl, hi2, rfl, e7, hr7, hm7⟩ hP2
  dsimp only at hr7 ⊢
  refine ifW_dec (fun hlt2 => ?_) fun hlt2 => ?_
  rotate_left
  · have : i = l.length := by omega
    subst this
    exact hyes so l' S7 e7 hr7 hm7
  have hi' : i < l.length := by omega
  have hgi : l.getD i 0 = l[i] := by rw [List.getD_eq_getElem?_getD, List.getElem?_eq_getElem hi']; rfl
  have hpi := hin l[i] (List.getElem_mem hi')
  have hstep : begL kk l (i + 1) = if Int.tmod l[i] (l.length : Int) = kk then putS (begL kk l i) (3, l[i]) (recB ((i : Int), 1)) else begL kk l i := by
    rw [← hgi]; rfl
  refine SlOf.int (e7.slOf hs) hi' ?_
  refine ⟨by rw [decide_eq_false (by omega)]; rfl, ?_⟩
  have hll : l'.length ≤ l.length + 2 := by
    have h1 := congrArg List.length hm7
    have h2 := begL_len kk l i
    rw [List.length_map] at h1
    omega
  refine ifW_dec (fun htm => ?_) fun htm => ?_
  · rw [hsl] at htm
    refine SlOf.int (e7.slOf hs) hi' ?_
    refine evC_of (show WC E0 19 [.int .i64 l[i], .agg #[.int .i64 ((i : Int), (1 : Int)).1, .int .u32 ((i : Int), (1 : Int)).2, .slice (⟨none, 0, 0⟩ : Sl).a (⟨none, 0, 0⟩ : Sl).len (⟨none, 0, 0⟩ : Sl).cap]] S7 _ from s19 (by dsimp only; omega) (by dsimp only; omega) (by dsimp only; omega) (by dsimp only; omega) fun s8 S8 e8 hd8 _ => ⟨((3, l[i], s8) : Int × Int × Sl), rfl, ?_⟩)
    refine evC_of (s17 (kd := 3) (n := l[i]) (hr7.ext e8) (by omega) hd8 (fun h => (h (ok_rec hpi.1 (by omega))).elim) fun _ s9 l9 S9 e9 hr9 hm9 => ⟨(s9, 0), rfl, ?_⟩)
    rw [wrap_succ (by omega)]
    refine hP2 _ _ _ (by omega) ⟨i + 1, l9, rfl, by omega, rfl, (e7.tr e8).tr e9, hr9, ?_⟩
    rw [hm9, hm7, hstep, if_pos htm]
  · rw [hsl] at htm
    rw [wrap_succ (by omega)]
    refine hP2 _ _ _ (by omega) ⟨i + 1, l', rfl, by omega, rfl, e7, hr7, ?_⟩
    rw [hm7, hstep, if_neg htm]
set_option maxHeartbeats 1000000 in
/-- The law. -/
theorem s3 {S : St} {s : Sl} {l : List Int} {kk cells : Int} (hs : SlOf encI 1 S s l) {k : Value → St → Prop} (hk : ∀ S', k (.bool true) S') : WC E0 3 [.int .i64 kk, .int .i64 cells, .slice s.a s.len s.cap] S k := by
  refine w3 _ _ s ?_
  unfold c3
  have hsl := hs.len
  refine ifW_dec (fun _ => hk _) fun h70 => ?_
  have hl : l.length ≤ 100 := by omega
  refine evC_of (s4 hs hl (fun hm S1 e1 => ⟨((none, 2) : Option Addr × Int), rfl, ?_⟩) fun hm b mr S1 e1 hsh => ⟨((some ⟨b, 0, none⟩, 0) : Option Addr × Int), rfl, ?_⟩)
  · refine evC_of (s5 (e1.slOf hs) hl (fun _ => ⟨((⟨none, 0, 0⟩, 2) : Sl × Int), rfl, ?_⟩) fun h => (hm h).elim)
    refine join_of (fun (t1 : Bool) S3 => S3 = S1 ∧ t1 = true) ?_ ?_
    · rintro t1 S3 ⟨rfl, rfl⟩
      refine ifW_of (fun _ => ?_) fun h => by cases h
      refine ifW_dec (fun _ => ?_) fun h => (h rfl).elim
      exact ⟨true, by kernel_rfl, hk _⟩
    · intro k1 hk1
      exact ifW_ndec (fun _ => hk1 _ _ ⟨rfl, rfl⟩) fun h => absurd h (by decide)
  · refine evC_of (s5 (e1.slOf hs) hl (fun h => (h hm).elim) fun _ s2 l2 S2 e2 hr2 hm2 => ⟨((s2, 0) : Sl × Int), rfl, ?_⟩)
    refine join_of (fun (t1 : Bool) S3 => S3 = S2 ∧ t1 = false) ?_ ?_
    · rintro t1 S3 ⟨rfl, rfl⟩
      refine ifW_of (fun h => by cases h) fun _ => ?_
      have hsh2 := hsh.ext e2
      have hdl : ∀ x ∈ begL kk l l.length, x.2.length ≤ 1000000 := fun x hx => by have := (begL_dat kk l _ x hx).2; omega
      have hLl := begL_len kk l l.length
      refine evC_of (s6 hsh2 hdl (fun hn => (hn _ (begL_epoch kk l _) rfl).elim) fun d S4 hd _ e4 => ⟨(((vl d : Int), true) : Int × Bool), rfl, ?_⟩)
      have hd0 : d = be4 0 := by
        have := sortS_keys hsh.srt hd (begL_epoch kk l _) rfl
        exact congrArg (fun x : Im => x.2) this
      refine ifW_of (fun _ => ?_) fun h => by cases h
      have hv : (vl d : Int) = 0 := by rw [hd0]; exact be4_vl (by omega) (by omega)
      dsimp only
      rw [hv]
      refine ifW_dec (fun _ => ?_) fun h => (h rfl).elim
      refine evC_of (s8 (hsh2.ext e4) (by omega) hdl fun s5 l5 S5 e5 hr5 hm5 => ⟨s5, rfl, ?_⟩)
      have hlen5 : l5.length = (begL kk l l.length).length := by have := congrArg List.length hm5; simpa using this
      refine evC_of (s7 hr5 ((hr2.ext e4).ext e5) (hm5.trans hm2.symm) (by omega) (fun r hr => ?_) (fun r hr => ?_) fun S6 e6 => ⟨true, rfl, hk _⟩)
      · have : imR r ∈ begL kk l l.length := by rw [← hm5]; exact List.mem_map.2 ⟨r, hr, rfl⟩
        have := (begL_dat kk l _ _ this).2
        have e : (imR r).2 = r.2.2.2 := rfl
        rw [e] at this
        omega
      · have : imR r ∈ begL kk l l.length := by rw [← hm5]; exact List.mem_map.2 ⟨r, hr, rfl⟩
        exact (begL_dat kk l _ _ this).1
    · intro k1 hk1
      refine ifW_ndec (fun h => absurd rfl h) fun _ => ?_
      have : (!eqI 0 0) = false := by rw [eqI_eq]; rfl
      dsimp only
      rw [this]
      exact hk1 _ _ ⟨rfl, rfl⟩
end
end Go.Proofs.Ytcdignblakejoaa
