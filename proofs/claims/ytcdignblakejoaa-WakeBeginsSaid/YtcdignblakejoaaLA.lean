/- Parts of the proof, put together. -/
import Derived.Test.YtcdignblakejoaaSB
import Derived.Test.YtcdignblakejoaaRA
/- Numbers as bytes; an epoch's record. -/
namespace Go.Proofs.Ytcdignblakejoaa
open Go Go.Proofs.Ytcdignblakejoaa.D
set_option linter.unusedVariables false
set_option linter.unusedSimpArgs false
noncomputable section

theorem wrap8_eq (n : Int) : wrapI .u8 n = n % 256 := by
  rw [wrapI_eq]
  unfold wrapD
  cases h : inRange .u8 n with
  | true =>
    simp only [inRange, Bool.and_eq_true, decide_eq_true_eq] at h
    simp only [cond_true]
    omega
  | false =>
    simp only [cond_false, IntKind.wrap, IntKind.signed, IntKind.bits, Bool.false_and]
    rw [if_neg (by simp)]
    omega
theorem byW_of {a b : Int} (h : a % 256 = b % 256) : byW a = byW b := by unfold byW; rw [wrap8_eq, wrap8_eq, h]
theorem byW_nat (n : Int) : ((byW n).toNat : Int) = n % 256 := by
  have := wrap8 n
  unfold byW
  rw [ofNat_toNat (by omega), Int.toNat_of_nonneg (by omega), wrap8_eq]
/-- A number's four bytes. -/
def be4 (n : Int) : List UInt8 := [byW (n / 16777216), byW (n / 65536), byW (n / 256), byW n]
theorem vl4 (a b c d : UInt8) : vl [a, b, c, d] = ((a.toNat * 256 + b.toNat) * 256 + c.toNat) * 256 + d.toNat := by
  simp [vl, vlA]
theorem be4_vl {n : Int} (h0 : 0 ≤ n) (h1 : n < 4294967296) : (vl (be4 n) : Int) = n := by
  unfold be4
  rw [vl4]
  have h2 := byW_nat (n / 16777216)
  have h3 := byW_nat (n / 65536)
  have h4 := byW_nat (n / 256)
  have h5 := byW_nat n
  omega
theorem p24 : ((2 : Int) ^ min (Int.toNat 24) 32) = 16777216 := by decide
theorem p16 : ((2 : Int) ^ min (Int.toNat 16) 32) = 65536 := by decide
theorem p8 : ((2 : Int) ^ min (Int.toNat 8) 32) = 256 := by decide
theorem fd {n m : Int} (hm : 0 ≤ m) : Int.fdiv n m = n / m := Int.fdiv_eq_ediv_of_nonneg _ hm
/-- A row of bytes that was just made. -/
theorem dat_box {S : St} {b : Nat} {d : List UInt8} {n : Nat} (hn : n = d.length) (h : At S b (.cells (d.map byV) none false none)) (hb : n < 1000000) : Dat S ⟨some ⟨b, 0, none⟩, n, n⟩ d := by
  subst hn
  refine ⟨⟨rfl, fun _ => ⟨b, 0, _, _, _, _, rfl, h, by rw [List.drop_zero, List.take_of_length_le (by simp), flat_by]⟩⟩, .inl ⟨Nat.le_refl _, by show d.length < inex; unfold inex; omega, fun a h => by cases h; rfl⟩⟩
/-- An epoch's record. -/
theorem s11 {S : St} {n : Int} {k : Value → St → Prop} (hk : ∀ s' S', Ext S S' → Dat S' s' (be4 n) → k (sv G41 ((1, 0, s') : Int × Int × Sl)) S') : WC E0 11 [.int .u32 n] S k := by
  refine w11 _ ?_
  unfold c11
  have hN := Hld.start noB S
  refine hN.new fun b1 S1 hN hb1 _ => ?_
  refine ⟨rfl, ⟨rfl, ⟨rfl, ?_⟩⟩⟩
  refine hN.new fun b2 S2 hN hb2 _ => ?_
  have hat : At S2 b2 (.cells ((be4 n).map byV) none false none) := by
    have := hN.at 0 rfl
    rw [p24, p16, p8, fd (by omega), fd (by omega), fd (by omega)] at this
    unfold be4
    simp only [List.map_cons, List.map_nil, byW_v]
    exact this
  refine hN.st 1 3 rfl (by kernel_rfl) rfl (Nat.le_of_ble_eq_true rfl) rfl rfl fun S3 hN _ => ?_
  refine hN.lda 1 rfl (by kernel_rfl) ((1, 0, ⟨some ⟨b2, 0, none⟩, 4, 4⟩) : Int × Int × Sl) rfl ?_
  refine hk ⟨some ⟨b2, 0, none⟩, 4, 4⟩ S3 hN.mod (dat_box rfl ?_ (by omega))
  have := hN.at 0 rfl
  rw [p24, p16, p8, fd (by omega), fd (by omega), fd (by omega)] at this
  unfold be4
  simp only [List.map_cons, List.map_nil, byW_v]
  exact this
theorem tdv {n m : Int} (h : 0 ≤ n) : Int.tdiv n m = n / m := Int.tdiv_eq_ediv_of_nonneg h
theorem tmd {n m : Int} (h : 0 ≤ n) : Int.tmod n m = n % m := Int.tmod_eq_emod_of_nonneg h
/-- .. the document's. -/
theorem s18 {S : St} {n : Int} (h0 : 0 ≤ n) (h1 : n < 4294967296) {k : Value → St → Prop} (hk : ∀ s' S', Ext S S' → Dat S' s' (be4 n) → k (sv G41 ((1, 0, s') : Int × Int × Sl)) S') : WC E0 18 [.int .u32 n] S k := by
  refine w18 _ ?_
  unfold c18
  have hN := Hld.start noB S
  refine hN.new fun b1 S1 hN hb1 _ => ?_
  refine ⟨rfl, ⟨rfl, ⟨rfl, ⟨rfl, ⟨rfl, ⟨rfl, ?_⟩⟩⟩⟩⟩⟩
  refine hN.new fun b2 S2 hN hb2 _ => ?_
  refine hN.st 1 3 rfl (by kernel_rfl) rfl (Nat.le_of_ble_eq_true rfl) rfl rfl fun S3 hN _ => ?_
  refine hN.lda 1 rfl (by kernel_rfl) ((1, 0, ⟨some ⟨b2, 0, none⟩, 4, 4⟩) : Int × Int × Sl) rfl ?_
  refine hk ⟨some ⟨b2, 0, none⟩, 4, 4⟩ S3 hN.mod (dat_box rfl ?_ (by omega))
  have := hN.at 0 rfl
  have e1 : wrapI .u32 (n / 16777216) = n / 16777216 := wrap_u32 (by omega) (by omega)
  have e2 : wrapI .u32 (n / 65536) = n / 65536 := wrap_u32 (by omega) (by omega)
  have e3 : wrapI .u32 (n / 256) = n / 256 := wrap_u32 (by omega) (by omega)
  rw [tdv h0, tdv h0, tdv h0, tmd h0, e1, e2, e3, tmd (by omega), tmd (by omega)] at this
  unfold be4
  simp only [List.map_cons, List.map_nil, byW_v]
  rw [show wrapI .u8 (n / 65536 % 256) = wrapI .u8 (n / 65536) by rw [wrap8_eq, wrap8_eq]; omega, show wrapI .u8 (n / 256 % 256) = wrapI .u8 (n / 256) by rw [wrap8_eq, wrap8_eq]; omega, show wrapI .u8 (n % 256) = wrapI .u8 n by rw [wrap8_eq, wrap8_eq]; omega] at this
  exact this
theorem or_sh {a b i : Nat} (hb : b < 2 ^ i) (hab : 2 ^ i * a + b < 4294967296) : orI .u32 ((2 ^ i * a : Nat) : Int) (b : Int) = ((2 ^ i * a + b : Nat) : Int) := by
  have h1 : (BitVec.ofInt 32 ((2 ^ i * a : Nat) : Int) ||| BitVec.ofInt 32 (b : Int)).toNat = 2 ^ i * a + b := by
    rw [BitVec.toNat_or, BitVec.ofInt_natCast, BitVec.ofInt_natCast, BitVec.toNat_ofNat, BitVec.toNat_ofNat, Nat.mod_eq_of_lt (by omega), Nat.mod_eq_of_lt (by omega)]
    exact (Nat.two_pow_add_eq_or_of_lt (i := i) hb a).symm
  show IntKind.u32.wrap ((BitVec.ofInt 32 ((2 ^ i * a : Nat) : Int) ||| BitVec.ofInt 32 (b : Int)).toNat : Int) = _
  rw [h1]
  simp only [IntKind.wrap, IntKind.signed, IntKind.bits, Bool.false_and]
  rw [if_neg (by simp)]
  omega
theorem or4 (a b c d : UInt8) : orI .u32 (orI .u32 (orI .u32 (wrapI .u32 (wrapI .u32 (a.toNat : Int) * ((2 : Int) ^ min (Int.toNat 24) 32))) (wrapI .u32 (wrapI .u32 (b.toNat : Int) * ((2 : Int) ^ min (Int.toNat 16) 32)))) (wrapI .u32 (wrapI .u32 (c.toNat : Int) * ((2 : Int) ^ min (Int.toNat 8) 32)))) (wrapI .u32 (d.toNat : Int)) = (vl [a, b, c, d] : Int) := by
  have ha := a.toNat_lt
  have hb := b.toNat_lt
  have hc := c.toNat_lt
  have hd := d.toNat_lt
  rw [p24, p16, p8, vl4]
  generalize a.toNat = a at *
  generalize b.toNat = b at *
  generalize c.toNat = c at *
  generalize d.toNat = d at *
  rw [wrap_u32 (n := (a : Int)) (by omega) (by omega), wrap_u32 (n := (b : Int)) (by omega) (by omega), wrap_u32 (n := (c : Int)) (by omega) (by omega), wrap_u32 (n := (d : Int)) (by omega) (by omega), wrap_u32 (n := (a : Int) * 16777216) (by omega) (by omega), wrap_u32 (n := (b : Int) * 65536) (by omega) (by omega), wrap_u32 (n := (c : Int) * 256) (by omega) (by omega)]
  have e1 := or_sh (a := a) (b := b * 65536) (i := 24) (by omega) (by omega)
  rw [show ((2 ^ 24 * a : Nat) : Int) = (a : Int) * 16777216 by omega, show ((b * 65536 : Nat) : Int) = (b : Int) * 65536 by omega] at e1
  rw [e1]
  have e2 := or_sh (a := a * 256 + b) (b := c * 256) (i := 16) (by omega) (by omega)
  rw [show ((2 ^ 16 * (a * 256 + b) : Nat) : Int) = ((2 ^ 24 * a + b * 65536 : Nat) : Int) by omega, show ((c * 256 : Nat) : Int) = (c : Int) * 256 by omega] at e2
  rw [e2]
  have e3 := or_sh (a := (a * 256 + b) * 256 + c) (b := d) (i := 8) (by omega) (by omega)
  rw [show ((2 ^ 8 * ((a * 256 + b) * 256 + c) : Nat) : Int) = ((2 ^ 16 * (a * 256 + b) + c * 256 : Nat) : Int) by omega] at e3
  rw [e3]
  omega
/-- What a shelf's epoch is. -/
def epoL (L : List Im) (n : Option Int) : Prop := match n with
  | some n => ∃ d, ((1, 0), d) ∈ L ∧ d.length = 4 ∧ n = (vl d : Int)
  | none => ∀ d, ((1, 0), d) ∈ L → d.length ≠ 4
theorem s6 {S : St} {sb : Nat} {mr : Option Nat} {L : List Im} (h : ShAt S sb mr L) (hlen : ∀ x ∈ L, x.2.length ≤ 1000000) {k : Value → St → Prop}
    (hno : epoL L none → ∀ S', Ext S S' → k (.tuple #[.int .u32 0, .bool false]) S')
    (hyes : ∀ d S', ((1, 0), d) ∈ L → d.length = 4 → Ext S S' → k (.tuple #[.int .u32 (vl d : Int), .bool true]) S') : WC E0 6 [.pointer (some ⟨sb, 0, none⟩)] S k := by
  refine w6 _ ?_
  unfold c6
  refine evC_of (s20 h hlen (fun hn => ⟨((⟨none, 0, 0⟩, false) : Sl × Bool), rfl, ?_⟩) fun d s' S' hd e hg => ⟨((s', true) : Sl × Bool), rfl, ?_⟩)
  · refine ifW_ndec (fun _ => hno (fun d hd => (hn _ hd rfl).elim) S (Mod.refl _ _)) fun h => absurd h (by decide)
  · have hs := hg.len
    refine ifW_ndec (fun h4 => hno (fun d' hd' e4 => ?_) S' e) fun h4 => ?_
    · have := sortS_keys h.srt hd hd' rfl
      simp only [Prod.mk.injEq, true_and] at this
      subst this
      dsimp only at h4
      omega
    · have h4' : d.length = 4 := by dsimp only at h4; omega
      obtain ⟨a, b, c, f, rfl⟩ : ∃ a b c f, d = [a, b, c, f] := by
        match d, h4' with
        | [a, b, c, f], _ => exact ⟨a, b, c, f, rfl⟩
      refine hg.of.get1n (n := 0) (g := byV) inf5 agg5 (by simp) fun _ _ hld _ => evV_of (ty := tU8) _ (hld _ rfl) ⟨rfl, ?_⟩
      refine hg.of.get1n (n := 1) (g := byV) inf5 agg5 (by simp) fun _ _ hld _ => evV_of (ty := tU8) _ (hld _ rfl) ⟨rfl, ?_⟩
      refine hg.of.get1n (n := 2) (g := byV) inf5 agg5 (by simp) fun _ _ hld _ => evV_of (ty := tU8) _ (hld _ rfl) ⟨rfl, ?_⟩
      refine hg.of.get1n (n := 3) (g := byV) inf5 agg5 (by simp) fun _ _ hld _ => evV_of (ty := tU8) _ (hld _ rfl) ?_
      have := hyes [a, b, c, f] S' hd rfl e
      rw [← or4] at this
      exact this
end
end Go.Proofs.Ytcdignblakejoaa

/- Claims and ledgers: records of theirs. -/
namespace Go.Proofs.Ytcdignblakejoaa
open Go Go.Proofs.Ytcdignblakejoaa.D
set_option linter.unusedVariables false
set_option linter.unusedSimpArgs false
noncomputable section

/-! ### Claims -/
/-- What a robot claims. -/
structure ClmAt (S : St) (b : Nat) (sl : Sl) (acc : List Clm) : Prop where
  box : At S b (.cells [.slice sl.a sl.len sl.cap] none false none)
  own : OwC S sl acc
  srt : sortC acc
theorem ClmAt.ext {S S' : St} {b : Nat} {sl : Sl} {acc : List Clm} (h : ClmAt S b sl acc) (e : Ext S S') : ClmAt S' b sl acc := ⟨e.at h.box, OwC.frm _ _ _ e.kp (fun _ _ h => h) h.own, h.srt⟩
theorem eq76 {S : St} {b o : Nat} : eqD E0 S 6 76 (.pointer (some ⟨b, o, none⟩)) (.pointer none) = some false := by kernel_rfl
set_option maxHeartbeats 1000000 in
/-- A claim is taken: of one that has room, and not that one. -/
theorem s12 {S : St} {b : Nat} {sl : Sl} {acc : List Clm} (h : ClmAt S b sl acc) {cell gen : Int} (hc : knownN cell) (hn : ∀ c ∈ acc, c.1 ≠ cell) (hl : acc.length < 16) {k : Value → St → Prop}
    (hk : ∀ sl' acc' S', ClmAt S' b sl' acc' → (∀ c, c ∈ acc' ↔ c = (cell, gen) ∨ c ∈ acc) → acc'.length = acc.length + 1 → D.Mod (fun c => c = b ∨ slO sl c) S S' → (∀ c, slO sl' c → S.next ≤ c) → k (.int .i64 0) S') : WC E0 12 [.pointer (some ⟨b, 0, none⟩), .int .i64 cell, .int .u32 gen] S k := by
  refine w12 _ _ _ ?_
  unfold c12
  refine ⟨false, eq76, ?_⟩
  refine ifW_of (fun h => by cases h) fun _ => ?_
  refine evC_of (s29 h.box h.own.of (by omega) h.srt fun i t S1 e1 hi hlo hhi ht => ⟨((i : Int), t), rfl, ?_⟩)
  have htf : t = false := by
    cases t with
    | false => rfl
    | true => obtain ⟨h1, h2⟩ := ht.1 rfl; exact (hn _ (List.getElem_mem h1) h2).elim
  subst htf
  refine evC_of (s30 ⟨_, rfl, ?_⟩)
  rw [decide_eq_true hc]
  refine ifW_of (fun h => by cases h) fun _ => ?_
  refine ifW_of (fun h => by cases h) fun _ => ?_
  have h1 := h.ext e1
  have hsl := h.own.len
  refine ptrW_of (ptrW_of (evV_of (ty := tS) sl (load_one h1.box (by kernel_rfl)) ?_))
  refine ifW_neg (by omega) ?_
  refine ptrW_of (ptrW_of (evV_of (ty := tS) sl (load_one h1.box (by kernel_rfl)) ?_))
  refine newW_of fun b9 S3 hb9 hat9 e3 hn3 => ?_
  have h3 := h1.ext e3
  refine evC_of (s31 (x := (cell, gen)) h3.own (by omega) hat9 hi fun sl' S4 how4 m4 hfr => ⟨sl', rfl, ?_⟩)
  have hne : ¬ slO sl b := fun hh => by
    rcases h3.own with ⟨_, rfl⟩ | ⟨b2, _, rfl, hat2⟩
    · obtain ⟨o, hh⟩ := hh; cases hh
    · obtain ⟨o, hh⟩ := hh; cases hh
      have := (DObj.cells.inj (Option.some.inj (h3.box.get.symm.trans hat2.get))).2.1
      cases this
  have hbox4 : At S4 b (.cells [.slice sl.a sl.len sl.cap] none false none) := m4.at h3.box hne
  refine ptrW_of (ptrW_of ?_)
  refine ⟨_, store_cells hbox4 (n := 1) (by kernel_rfl) rfl (Nat.le_of_ble_eq_true rfl) rfl, ?_⟩
  have m5 := upd_mod (S := S4) (b := b) (o := .cells ([Value.slice sl.a sl.len sl.cap].take 0 ++ (cellsOf (.slice sl'.a sl'.len sl'.cap) ++ [Value.slice sl.a sl.len sl.cap].drop (0 + 1))) none false none)
  have hat5 := upd_at (o' := .cells ([Value.slice sl.a sl.len sl.cap].take 0 ++ (cellsOf (.slice sl'.a sl'.len sl'.cap) ++ [Value.slice sl.a sl.len sl.cap].drop (0 + 1))) none false none) hbox4
  have hnx : S.next ≤ S3.next := (e1.tr e3).next
  refine hk sl' (acc.take i ++ (cell, gen) :: acc.drop i) _ ⟨hat5, ?_, sort_put h.srt hi hlo hhi hn⟩ (fun c => mem_put) (by simp; omega) ?_ fun c hc => by have := hfr c hc; omega
  · refine OwC.frm _ _ _ m5.kp (fun c hc hcb => ?_) how4
    have := hfr c hc
    have := h3.box.lt
    omega
  · refine ((ext_then (e1.tr e3) (m4.mono fun c hc _ => .inr hc))).trans m5 fun c hc _ => .inl hc
theorem ld30 : ldOk E0 30 = true := by kernel_rfl
/-- A cell's generation. -/
theorem s32 {S : St} {b : Nat} {sl : Sl} {acc : List Clm} (h : ClmAt S b sl acc) (hl : acc.length ≤ 10000) {cell : Int} {k : Value → St → Prop}
    (hno : (∀ c ∈ acc, c.1 ≠ cell) → ∀ S', Ext S S' → k (.tuple #[.int .u32 0, .bool false]) S')
    (hyes : ∀ gen S', (cell, gen) ∈ acc → Ext S S' → k (.tuple #[.int .u32 gen, .bool true]) S') : WC E0 32 [.pointer (some ⟨b, 0, none⟩), .int .i64 cell] S k := by
  refine w32 _ _ ?_
  unfold c32
  refine evC_of (s29 h.box h.own.of hl h.srt fun i t S1 e1 hi hlo hhi ht => ⟨((i : Int), t), rfl, ?_⟩)
  refine ifW_of (fun h0 => ?_) fun h0 => ?_
  · have h0 : t = false := by simpa using h0
    refine hno (fun c hc e => ?_) S1 e1
    obtain ⟨j, hj, rfl⟩ := List.getElem_of_mem hc
    rcases Nat.lt_or_ge j i with h2 | h2
    · have := hlo j hj h2; omega
    · rcases Nat.lt_or_ge i j with h3 | h3
      · have h4 := hhi i (by omega) (Nat.le_refl _)
        have h5 := h.srt i j (by omega) hj h3
        omega
      · have : i = j := by omega
        subst this
        rw [ht.2 ⟨hj, e⟩] at h0; cases h0
  · have h0 : t = true := by simpa using h0
    obtain ⟨hi', he⟩ := ht.1 h0
    have h1 := h.ext e1
    refine ptrW_of (ptrW_of (evV_of (ty := tS) sl (load_one h1.box (by kernel_rfl)) ?_))
    refine h1.own.of.idxL (f := clmC) (sz := 2) (fun _ => rfl) h1.own.of.len hi' fun b2 o cs m ro fz hat _ hv => ?_
    refine ptrW_of ?_
    refine evV_of (ty := tU32) acc[i].2 ((load_one hat (by kernel_rfl)).trans ((at_take hv (j := 1) (by omega)).trans rfl)) ?_
    refine hyes acc[i].2 S1 ?_ e1
    have : (cell, acc[i].2) = acc[i] := by rw [← he]
    rw [this]
    exact List.getElem_mem hi'
theorem shr_by (n : Int) (j : Nat) (hj : j < 4) : wrapI .u8 (Int.fdiv n ((2 : Int) ^ min (Int.toNat (wrapI .i64 (8 * wrapI .i64 (3 - (j : Int))))) 32)) = wrapI .u8 (n / 256 ^ (3 - j)) := by
  rw [wrap_i64 (n := 3 - (j : Int)) (by omega) (by omega), wrap_i64 (n := 8 * (3 - (j : Int))) (by omega) (by omega)]
  have : j = 0 ∨ j = 1 ∨ j = 2 ∨ j = 3 := by omega
  rcases this with rfl | rfl | rfl | rfl
  · rw [show ((2 : Int) ^ min (Int.toNat (8 * (3 - ((0 : Nat) : Int)))) 32) = 16777216 by decide, fd (by omega)]; rfl
  · rw [show ((2 : Int) ^ min (Int.toNat (8 * (3 - ((1 : Nat) : Int)))) 32) = 65536 by decide, fd (by omega)]; rfl
  · rw [show ((2 : Int) ^ min (Int.toNat (8 * (3 - ((2 : Nat) : Int)))) 32) = 256 by decide, fd (by omega)]; rfl
  · rw [show ((2 : Int) ^ min (Int.toNat (8 * (3 - ((3 : Nat) : Int)))) 32) = 1 by decide, fd (by omega)]; rfl
theorem be4_take (n : Int) (j : Nat) (hj : j < 4) : (be4 n).take (j + 1) = (be4 n).take j ++ [byW (n / 256 ^ (3 - j))] := by
  have : j = 0 ∨ j = 1 ∨ j = 2 ∨ j = 3 := by omega
  unfold be4
  rcases this with rfl | rfl | rfl | rfl
  · rfl
  · rfl
  · rfl
  · have : n / 256 ^ (3 - 3) = n := by simp
    rw [this]; rfl
set_option maxHeartbeats 1000000 in
/-- A claim's record. -/
theorem s13 {S : St} {b : Nat} {sl : Sl} {acc : List Clm} (h : ClmAt S b sl acc) (hl : acc.length ≤ 10000) {cell gen : Int} (hin : (cell, gen) ∈ acc) (huq : ∀ g, (cell, g) ∈ acc → g = gen) {k : Value → St → Prop}
    (hk : ∀ s' S', Ext S S' → GB S' s' (be4 gen) → (∀ c, slO s' c → S.next ≤ c) → k (sv G41 ((2, cell, s') : Int × Int × Sl)) S') : WC E0 13 [.pointer (some ⟨b, 0, none⟩), .int .i64 cell] S k := by
  refine w13 _ _ ?_
  unfold c13
  have hX := Cx.start (S := S) noB GB.nil GB.frm fun c hc => GB.lt (GB.nil (S := S)) hc
  refine hX.new fun b1 S1 hX _ _ => ?_
  refine hX.new fun b2 S2 hX _ _ => ?_
  refine hX.st 0 3 rfl (by kernel_rfl) rfl (Nat.le_of_ble_eq_true rfl) rfl rfl fun S3 hX _ => ?_
  refine evC_of (s32 (h.ext hX.mod) hl (fun hn => (hn _ hin rfl).elim) fun g S4 hg e4 => ⟨(g, true), rfl, ?_⟩)
  obtain rfl := huq g hg
  have hX := hX.ext e4
  refine ifW_of (fun _ => ?_) fun h => by cases h
  refine loopW_ind (fun q (n : Int) S' => ∃ (j : Nat) (s : Sl), n = (j : Int) ∧ j ≤ 4 ∧ q = 4 - j ∧ Cx noB S S' [(b2, .cells [.int .i64 2, .int .i64 cell, .slice s.a s.len s.cap] none false none), (b1, .cells [.int .i64 0, .int .i64 0, .slice none 0 0] none false none)] (slO s) (fun S' => GB S' s ((be4 g).take j)) ∧ ∀ c, slO s c → S.next ≤ c) (m := 4)
    ⟨0, ⟨none, 0, 0⟩, rfl, by omega, rfl, hX, fun c hc => by obtain ⟨o, hc⟩ := hc; cases hc⟩ ?_
  rintro P q n S5 ⟨j, s, rfl, hj, rfl, hX, hown⟩ hP
  refine ifW_dec (fun hlt => ?_) fun hlt => ?_
  · have hj' : j < 4 := by omega
    refine ptrW_of ?_
    refine hX.ld 0 rfl (by kernel_rfl) s rfl ?_
    have hnn : (!decide (wrapI .i64 (8 * wrapI .i64 (3 - (j : Int))) < 0)) = true := by
      rw [wrap_i64 (n := 3 - (j : Int)) (by omega) (by omega), wrap_i64 (n := 8 * (3 - (j : Int))) (by omega) (by omega), decide_eq_false (by omega)]
      rfl
    refine ⟨hnn, ?_⟩
    rw [shr_by g j hj', ← byW_v]
    refine hX.new fun b5 S6 hX _ _ => ?_
    refine hX.ld 1 rfl (by kernel_rfl) s rfl ?_
    refine sameV_of ?_
    refine hX.p.append und40 rfl rfl (first_box (hX.at 0 rfl)) (by simp) (by rw [List.length_take, show (be4 g).length = 4 from rfl, List.length_singleton]; omega) fun s3 S7 hg7 m7 hs3 => ?_
    have hX7 := hX.op m7 (fun c hc => hc) (fun c hc hlt => by have := hown c hc; omega) hg7 GB.frm hs3 fun c hc => GB.lt hg7 hc
    refine ptrW_of ?_
    refine hX7.st 1 1 rfl (by kernel_rfl) rfl (Nat.le_of_ble_eq_true rfl) rfl rfl fun S8 hX8 _ => ?_
    rw [wrap_succ (by omega)]
    rw [← be4_take g j hj'] at hX8
    refine hP _ _ _ (by omega) ⟨j + 1, s3, rfl, by omega, rfl, hX8.tl 1, fun c hc => ?_⟩
    rcases hs3 c hc with h | h
    · exact hown c h
    · have := hX.mod.next; omega
  · have : j = 4 := by omega
    subst this
    have ht : (be4 g).take 4 = be4 g := rfl
    rw [ht] at hX
    refine hX.lda 0 rfl (by kernel_rfl) ((2, cell, s) : Int × Int × Sl) rfl ?_
    refine hX.st 1 3 rfl (by kernel_rfl) rfl (Nat.le_of_ble_eq_true rfl) rfl rfl fun S9 hX _ => ?_
    refine hX.lda 1 rfl (by kernel_rfl) ((2, cell, s) : Int × Int × Sl) rfl ?_
    exact hk s S9 hX.mod hX.p hown
end
end Go.Proofs.Ytcdignblakejoaa

/- Ledgers: entries. -/
namespace Go.Proofs.Ytcdignblakejoaa
open Go Go.Proofs.Ytcdignblakejoaa.D
set_option linter.unusedVariables false
set_option linter.unusedSimpArgs false
noncomputable section

/-- What is taken out of a map of numbers. -/
theorem find_erase {n m : Int} : ∀ {es : List MapEntry} {j : Nat} {en : MapEntry}, (es.map (·.key)).Nodup → es[j]? = some en → en.key = .int .i64 n → (∀ e ∈ es, ∃ q : Int, e.key = .int .i64 q) →
    ((es.eraseIdx j).find? fun e => isK m e.key).map (·.val) = if m = n then none else (es.find? fun e => isK m e.key).map (·.val)
  | [], j, en, _, h, _, _ => by simp at h
  | e :: es, 0, en, hd, h, hk, hq => by
    simp at h; subst h
    rw [List.map_cons, List.nodup_cons] at hd
    rw [List.eraseIdx_cons_zero, List.find?_cons, hk, isK_int]
    by_cases hmn : m = n
    · subst hmn
      rw [if_pos rfl]
      have : es.find? (fun e => isK m e.key) = none := by
        rw [List.find?_eq_none]
        intro x hx hh
        obtain ⟨q, e2⟩ := hq x (by simp [hx])
        rw [e2, isK_int, decide_eq_true_eq] at hh
        exact hd.1 (List.mem_map.2 ⟨x, hx, by rw [e2, hk, hh]⟩)
      rw [this]; rfl
    · rw [if_neg hmn, decide_eq_false fun e => hmn e.symm]
  | e :: es, j + 1, en, hd, h, hk, hq => by
    rw [List.map_cons, List.nodup_cons] at hd
    have hmem : en ∈ es := List.mem_iff_getElem?.2 ⟨j, by simpa using h⟩
    have hne : e.key ≠ .int .i64 n := fun hh => hd.1 (List.mem_map.2 ⟨en, hmem, by rw [hk, hh]⟩)
    rw [List.eraseIdx_cons_succ, List.find?_cons, List.find?_cons]
    obtain ⟨q, e2⟩ := hq e (by simp)
    cases hem : isK m e.key with
    | true =>
      have hmn : ¬ m = n := fun e' => by
        subst e'
        rw [e2, isK_int, decide_eq_true_eq] at hem
        exact hne (by rw [e2, hem])
      rw [if_neg hmn]
    | false => exact find_erase hd.2 (by simpa using h) hk fun x hx => hq x (by simp [hx])
/-! ### Entries -/
/-- The entries that are not as at first. -/
abbrev EnF := Int → Option Ent
def enV (en : EnF) (c : Int) : Option Value := (en c).map fun e => sv G80 e
def fstE : Ent := (-1, 0)
def getE (en : EnF) (c : Int) : Ent := (en c).getD fstE
/-- A ledger. -/
structure LedAt (S : St) (b : Nat) (home robots cells : Int) (b1 m2 m3 : Nat) (en : EnF) : Prop where
  box : At S b (.cells (ledC home robots cells b1 m2 m3) none false none)
  ents : MapFn S b1 (enV en)
  ne : b ≠ b1
theorem LedAt.ext {S S' : St} {b b1 m2 m3 : Nat} {home robots cells : Int} {en : EnF} (h : LedAt S b home robots cells b1 m2 m3 en) (e : Ext S S') : LedAt S' b home robots cells b1 m2 m3 en := ⟨e.at h.box, h.ents.ext e, h.ne⟩
theorem LedAt.mod {S S' : St} {b b1 m2 m3 : Nat} {home robots cells : Int} {en : EnF} (h : LedAt S b home robots cells b1 m2 m3 en) {F : Nat → Prop} (m : D.Mod F S S') (hb : ¬ F b) (hb1 : ¬ F b1) : LedAt S' b home robots cells b1 m2 m3 en := ⟨m.at h.box hb, h.ents.mod m hb1, h.ne⟩
section
variable {S : St} {b b1 m2 m3 : Nat} {home robots cells : Int} {en : EnF}
theorem s33 (h : LedAt S b home robots cells b1 m2 m3 en) (h1 : 1 ≤ robots) {k : Value → St → Prop} (hk : k (.bool false) S) : WC E0 33 [.pointer (some ⟨b, 0, none⟩)] S k := by
  refine w33 _ ?_
  unfold c33
  refine ⟨false, eq94, ?_⟩
  refine ifW_of (fun h => by cases h) fun _ => ?_
  refine ptrW_of (ptrW_of (evV_of (ty := tI) robots (load_one h.box (by kernel_rfl)) ?_))
  rw [eqI_eq, decide_eq_false (by omega)]
  exact hk
theorem s34 (h : LedAt S b home robots cells b1 m2 m3 en) (h1 : 1 ≤ robots) {n : Int} {k : Value → St → Prop} (hk : k (.bool (decide (0 ≤ n ∧ n < robots))) S) : WC E0 34 [.pointer (some ⟨b, 0, none⟩), .int .i64 n] S k := by
  refine w34 _ _ ?_
  unfold c34
  refine evC_of (s33 h h1 ⟨_, rfl, ?_⟩)
  refine ifW_of (fun _ => ?_) fun h => by cases h
  refine ifW_dec (fun h0 => ?_) fun h0 => ?_
  · refine ptrW_of (ptrW_of (evV_of (ty := tI) robots (load_one h.box (by kernel_rfl)) ?_))
    rw [ltI_eq, show decide (n < robots) = decide (0 ≤ n ∧ n < robots) from decide_eq_decide.2 ⟨fun h => ⟨h0, h⟩, fun h => h.2⟩]
    exact hk
  · rw [show decide (0 ≤ n ∧ n < robots) = false from decide_eq_false fun h => h0 h.1] at hk
    exact hk
theorem key3' (n : Int) : keyType E0 3 (.int .i64 n) = true := by kernel_rfl
theorem s35 (h : LedAt S b home robots cells b1 m2 m3 en) {cell : Int} {k : Value → St → Prop} (hk : ∀ S', Ext S S' → k (sv G80 (getE en cell)) S') : WC E0 35 [.pointer (some ⟨b, 0, none⟩), .int .i64 cell] S k := by
  refine w35 _ _ ?_
  unfold c35
  have hN := Hld.start noB S
  refine hN.new fun r1 S1 hN _ _ => ?_
  have h1 := h.ext hN.mod
  refine ptrW_of (ptrW_of (evV_of (ty := tM) (some b1) (load_one h1.box (by kernel_rfl)) ?_))
  have hlk := lookup_ok h1.ents und83 key3' zero90 (n := cell)
  unfold enV at hlk
  unfold getE at hk
  cases hc : en cell with
  | some e =>
    rw [hc] at hlk hk
    refine evV_of (ty := .tup [.agg G80, .sc .bool]) (e, true) hlk ?_
    refine hN.new fun r6 S2 hN _ _ => ?_
    refine hN.st 0 2 rfl (by kernel_rfl) rfl (Nat.le_of_ble_eq_true rfl) rfl rfl fun S3 hN _ => ?_
    refine ifW_of (fun _ => ?_) fun h => by cases h
    refine hN.lda 0 rfl (by kernel_rfl) e rfl ?_
    refine hN.st 1 2 rfl (by kernel_rfl) rfl (Nat.le_of_ble_eq_true rfl) rfl rfl fun S4 hN _ => ?_
    refine hN.lda 1 rfl (by kernel_rfl) e rfl ?_
    exact hk S4 hN.mod
  | none =>
    rw [hc] at hlk hk
    refine evV_of (ty := .tup [.agg G80, .sc .bool]) (((0, 0) : Ent), false) hlk ?_
    refine hN.new fun r6 S2 hN _ _ => ?_
    refine hN.st 0 2 rfl (by kernel_rfl) rfl (Nat.le_of_ble_eq_true rfl) rfl rfl fun S3 hN _ => ?_
    refine ifW_of (fun h => by cases h) fun _ => ?_
    refine evC_of (s36 fun S5 e5 => ⟨((-1, 0) : Ent), rfl, ?_⟩)
    have hN := hN.ext e5
    refine hN.st 1 2 rfl (by kernel_rfl) rfl (Nat.le_of_ble_eq_true rfl) rfl rfl fun S6 hN _ => ?_
    refine hN.lda 1 rfl (by kernel_rfl) ((-1, 0) : Ent) rfl ?_
    exact hk S6 hN.mod
/-- An entry's bytes. -/
def recB (e : Ent) : Dt := if e = fstE then [] else byW e.1 :: be4 e.2
theorem s53 {cell : Int} {e : Ent} {k : Value → St → Prop} (hk : ∀ s' S', Ext S S' → Dat S' s' (recB e) → (∀ c, slO s' c → S.next ≤ c) → k (sv G41 ((3, cell, s') : Int × Int × Sl)) S') : WC E0 53 [.int .i64 cell, sv G80 e] S k := by
  refine w53 _ _ ?_
  unfold c53
  have hN := Hld.start noB S
  refine hN.new fun r1 S1 hN hr1 _ => ?_
  refine hN.new fun r2 S2 hN _ _ => ?_
  refine hN.new fun r3 S3 hN _ _ => ?_
  refine hN.st 0 3 rfl (by kernel_rfl) rfl (Nat.le_of_ble_eq_true rfl) rfl rfl fun S4 hN _ => ?_
  refine hN.lda 2 rfl (by kernel_rfl) e rfl ?_
  refine evC_of (s36 fun S5 e5 => ⟨((-1, 0) : Ent), rfl, ?_⟩)
  have hN := hN.ext e5
  refine hN.lda 2 rfl (by kernel_rfl) e rfl ?_
  refine sameV_of ?_
  refine ⟨_, eqEnt _ _ _, ?_⟩
  have hdec : (decide (e.1 = -1) && decide (e.2 = 0)) = decide (e = fstE) := by
    obtain ⟨e1, e2⟩ := e
    unfold fstE
    by_cases h1 : e1 = -1 <;> by_cases h2 : e2 = 0 <;> simp [h1, h2]
  dsimp only
  rw [hdec]
  by_cases hf : e = fstE
  · rw [decide_eq_true hf]
    refine ifW_of (fun h => by cases h) fun _ => ?_
    refine hN.lda 0 rfl (by kernel_rfl) ((3, cell, ⟨none, 0, 0⟩) : Int × Int × Sl) rfl ?_
    refine hN.st 1 3 rfl (by kernel_rfl) rfl (Nat.le_of_ble_eq_true rfl) rfl rfl fun S9 hN _ => ?_
    refine hN.lda 1 rfl (by kernel_rfl) ((3, cell, ⟨none, 0, 0⟩) : Int × Int × Sl) rfl ?_
    refine hk ⟨none, 0, 0⟩ S9 hN.mod ?_ fun c hc => by obtain ⟨o, hc⟩ := hc; cases hc
    rw [recB, if_pos hf]
    exact Dat.nil
  · rw [decide_eq_false hf]
    refine ifW_of (fun _ => ?_) fun h => by cases h
    refine ptrW_of ?_
    refine hN.ld 2 rfl (by kernel_rfl) e.1 rfl ?_
    refine ptrW_of ?_
    refine hN.ld 2 rfl (by kernel_rfl) (ty := tU32) e.2 rfl ?_
    refine ⟨rfl, ?_⟩
    refine ptrW_of ?_
    refine hN.ld 2 rfl (by kernel_rfl) (ty := tU32) e.2 rfl ?_
    refine ⟨rfl, ?_⟩
    refine ptrW_of ?_
    refine hN.ld 2 rfl (by kernel_rfl) (ty := tU32) e.2 rfl ?_
    refine ⟨rfl, ?_⟩
    refine ptrW_of ?_
    refine hN.ld 2 rfl (by kernel_rfl) (ty := tU32) e.2 rfl ?_
    rw [p24, p16, p8, fd (by omega), fd (by omega), fd (by omega), ← byW_v, ← byW_v, ← byW_v, ← byW_v, ← byW_v]
    have hS5 := hN.mod.next
    refine hN.new fun r14 S6 hN hr14 _ => ?_
    refine ptrW_of ?_
    refine hN.st 1 1 rfl (by kernel_rfl) rfl (Nat.le_of_ble_eq_true rfl) rfl rfl fun S7 hN _ => ?_
    refine hN.lda 1 rfl (by kernel_rfl) ((3, cell, ⟨some ⟨r14, 0, none⟩, 5, 5⟩) : Int × Int × Sl) rfl ?_
    refine hN.st 2 3 rfl (by kernel_rfl) rfl (Nat.le_of_ble_eq_true rfl) rfl rfl fun S8 hN _ => ?_
    refine hN.lda 2 rfl (by kernel_rfl) ((3, cell, ⟨some ⟨r14, 0, none⟩, 5, 5⟩) : Int × Int × Sl) rfl ?_
    refine hk ⟨some ⟨r14, 0, none⟩, 5, 5⟩ S8 hN.mod ?_ fun c hc => by obtain ⟨o, hc⟩ := hc; cases hc; omega
    rw [recB, if_neg hf]
    exact dat_box (d := byW e.1 :: be4 e.2) rfl (hN.at 0 rfl) (by omega)
/-- The document's. -/
theorem s19 {cell : Int} {e : Ent} {ws : Sl} (h0 : -1 ≤ e.1) (h1 : e.1 ≤ 64) (h2 : 0 ≤ e.2) (h3 : e.2 < 4294967296) {k : Value → St → Prop} (hk : ∀ s' S', Ext S S' → Dat S' s' (recB e) → (∀ c, slO s' c → S.next ≤ c) → k (sv G41 ((3, cell, s') : Int × Int × Sl)) S') :
    WC E0 19 [.int .i64 cell, .agg #[.int .i64 e.1, .int .u32 e.2, .slice ws.a ws.len ws.cap]] S k := by
  refine w19 cell ((e.1, e.2, ws) : Int × Int × Sl) ?_
  unfold c19
  have hN := Hld.start noB S
  refine hN.new fun r1 S1 hN _ _ => ?_
  refine hN.new fun r2 S2 hN _ _ => ?_
  have fin : ∀ (n : Int) (S4 : St), Hld noB S S4 [(r2, .cells [.int .i64 0, .int .i64 0, .slice none 0 0] none false none), (r1, .cells [.int .i64 e.1, .int .u32 e.2, .slice ws.a ws.len ws.cap] none false none)] → ¬ e = fstE → wrapI .u8 n = wrapI .u8 e.1 →
      newW S4 (.cells [.int .u8 (wrapI .u8 n), .int .u8 (wrapI .u8 (wrapI .i64 (Int.tdiv (wrapI .i64 e.2) 16777216))), .int .u8 (wrapI .u8 (Int.tmod (wrapI .i64 (Int.tdiv (wrapI .i64 e.2) 65536)) 256)), .int .u8 (wrapI .u8 (Int.tmod (wrapI .i64 (Int.tdiv (wrapI .i64 e.2) 256)) 256)), .int .u8 (wrapI .u8 (Int.tmod (wrapI .i64 e.2) 256))] none false none)
        fun (b9 : Nat) (S5 : St) => evS (storeV E0 S5 42 (.pointer (some ⟨r2, 0, none⟩)) (.agg #[.int .i64 3, .int .i64 cell, .slice (some ⟨b9, 0, none⟩) 5 5])) fun (S6 : St) => evV (TT.one (Ty.agg G41)) (loadV E0 S6 42 (.pointer (some ⟨r2, 0, none⟩))) fun (x2 : Int × Int × Sl) => k (sv G41 x2) S6 := by
    intro n S4 hN hf hn
    have e0 : wrapI .i64 e.2 = e.2 := wrap_i64 (by omega) (by omega)
    have e1 : wrapI .i64 (e.2 / 16777216) = e.2 / 16777216 := wrap_i64 (by omega) (by omega)
    have e2 : wrapI .i64 (e.2 / 65536) = e.2 / 65536 := wrap_i64 (by omega) (by omega)
    have e3 : wrapI .i64 (e.2 / 256) = e.2 / 256 := wrap_i64 (by omega) (by omega)
    rw [hn, e0, tdv h2, tdv h2, tdv h2, tmd h2, e1, e2, e3, tmd (by omega), tmd (by omega)]
    rw [show wrapI .u8 (e.2 / 65536 % 256) = wrapI .u8 (e.2 / 65536) by rw [wrap8_eq, wrap8_eq]; omega, show wrapI .u8 (e.2 / 256 % 256) = wrapI .u8 (e.2 / 256) by rw [wrap8_eq, wrap8_eq]; omega, show wrapI .u8 (e.2 % 256) = wrapI .u8 e.2 by rw [wrap8_eq, wrap8_eq]; omega, ← byW_v, ← byW_v, ← byW_v, ← byW_v, ← byW_v]
    have hS4 := hN.mod.next
    refine hN.new fun r9 S5 hN hr9 _ => ?_
    refine hN.st 1 3 rfl (by kernel_rfl) rfl (Nat.le_of_ble_eq_true rfl) rfl rfl fun S6 hN _ => ?_
    refine hN.lda 1 rfl (by kernel_rfl) ((3, cell, ⟨some ⟨r9, 0, none⟩, 5, 5⟩) : Int × Int × Sl) rfl ?_
    refine hk ⟨some ⟨r9, 0, none⟩, 5, 5⟩ S6 hN.mod ?_ fun c hc => by obtain ⟨o, hc⟩ := hc; cases hc; omega
    rw [recB, if_neg hf]
    exact dat_box (d := byW e.1 :: be4 e.2) rfl (hN.at 0 rfl) (by omega)
  have hload : ∀ {S'}, Ext S2 S' → loadV E0 S' 3 (.pointer (some ⟨r1, 0 + 0, none⟩)) = some (.int .i64 e.1) ∧ loadV E0 S' 30 (.pointer (some ⟨r1, 0 + 1, none⟩)) = some (.int .u32 e.2) := fun {S'} e' => by
    have hat : At S' r1 (.cells [.int .i64 e.1, .int .u32 e.2, .slice ws.a ws.len ws.cap] none false none) := Ext.at e' (hN.at 1 rfl)
    exact ⟨load_one hat (by kernel_rfl), load_one hat (by kernel_rfl)⟩
  refine ptrW_of ?_
  refine evV_of (ty := tI) e.1 (hload (Mod.refl _ _)).1 ?_
  refine ifW_dec (fun hm => ?_) fun hm => ?_
  · refine ptrW_of ?_
    refine evV_of (ty := tU32) e.2 (hload (Mod.refl _ _)).2 ?_
    refine ifW_dec (fun hz => ?_) fun hz => ?_
    · have hf : e = fstE := by
        obtain ⟨a, b⟩ := e
        dsimp only at hm hz
        rw [hm, hz]; rfl
      refine hN.st 0 3 rfl (by kernel_rfl) rfl (Nat.le_of_ble_eq_true rfl) rfl rfl fun S3 hN _ => ?_
      refine hN.lda 0 rfl (by kernel_rfl) ((3, cell, ⟨none, 0, 0⟩) : Int × Int × Sl) rfl ?_
      refine hk ⟨none, 0, 0⟩ S3 hN.mod ?_ fun c hc => by obtain ⟨o, hc⟩ := hc; cases hc
      rw [recB, if_pos hf]
      exact Dat.nil
    · have hf : ¬ e = fstE := fun h => hz (by rw [h]; rfl)
      refine join_of (fun (n3 : Int) S4 => S4 = S2 ∧ n3 = 255) ?_ ?_
      · rintro n3 S4 ⟨rfl, rfl⟩
        refine ptrW_of ?_
        refine evV_of (ty := tU32) e.2 (hload (Mod.refl _ _)).2 ?_
        refine ⟨rfl, ⟨rfl, ⟨rfl, ⟨rfl, ⟨rfl, ⟨rfl, ?_⟩⟩⟩⟩⟩⟩
        exact fin 255 S4 hN hf (by rw [wrap8_eq, wrap8_eq]; omega)
      · intro k1 hk1
        refine ptrW_of ?_
        refine evV_of (ty := tI) e.1 (hload (Mod.refl _ _)).1 ?_
        refine ifW_dec (fun h => ?_) fun _ => hk1 _ _ ⟨rfl, rfl⟩
        omega
  · have hf : ¬ e = fstE := fun h => hm (by rw [h]; rfl)
    refine join_of (fun (n7 : Int) S7 => S7 = S2 ∧ n7 = e.1) ?_ ?_
    · rintro n7 S7 ⟨rfl, rfl⟩
      refine ptrW_of ?_
      refine evV_of (ty := tU32) e.2 (hload (Mod.refl _ _)).2 ?_
      refine ⟨rfl, ⟨rfl, ⟨rfl, ⟨rfl, ⟨rfl, ⟨rfl, ?_⟩⟩⟩⟩⟩⟩
      exact fin e.1 S7 hN hf rfl
    · intro k2 hk2
      refine ptrW_of ?_
      refine evV_of (ty := tI) e.1 (hload (Mod.refl _ _)).1 ?_
      refine ifW_dec (fun h => ?_) fun h => ?_
      · refine ptrW_of ?_
        refine evV_of (ty := tI) e.1 (hload (Mod.refl _ _)).1 ?_
        exact hk2 _ _ ⟨rfl, rfl⟩
      · omega
/-- An entry is given. -/
def setE (en : EnF) (c : Int) (e : Ent) : EnF := fun n => if n = c then (if e = fstE then none else some e) else en n
end
set_option maxHeartbeats 2000000 in
/-- An entry that is not as at first is set. -/
theorem s37 {S : St} {b : Nat} {home robots cells : Int} {b1 m2 m3 : Nat} {en : EnF} (h : LedAt S b home robots cells b1 m2 m3 en) {cell : Int} {e : Ent} (hf : ¬ e = fstE) {ob : Nat} {w : Sl} {v1 v2 : Value} {l : List Rc} (hob : At S ob (.cells [.slice w.a w.len w.cap, v1, v2] none false none))
    {N : Nat} (hN : N ≤ S.next) (hw : GrX recC 3 N S w l) (hl : l.length ≤ 10000) (hb : b < N) (hb1 : b1 < N) (hobN : ob < N) (hne : ob ≠ b1) (hneb : ob ≠ b) {k : Value → St → Prop}
    (hk : ∀ w' s' S', LedAt S' b home robots cells b1 m2 m3 (setE en cell e) → At S' ob (.cells [.slice w'.a w'.len w'.cap, v1, v2] none false none) → GrX recC 3 N S' w' (l ++ [(3, cell, s', recB e)]) → Dat S' s' (recB e) → D.Mod (fun c => c = b1 ∨ c = ob ∨ N ≤ c) S S' → k (.tuple #[]) S') :
    WC E0 37 [.pointer (some ⟨b, 0, none⟩), .int .i64 cell, sv G80 e, .pointer (some ⟨ob, 0, none⟩)] S k := by
  refine w37 _ _ _ _ ?_
  unfold c37
  refine newW_of fun r1 S1 hr1 hat1 e1 hn1 => ?_
  have h1 := h.ext e1
  refine ptrW_of (ptrW_of (evV_of (ty := tM) (some b1) (load_one h1.box (by kernel_rfl)) ?_))
  refine evV_of (ty := .one (.agg G80)) e (load_agg (n := 2) hat1 (by kernel_rfl) rfl rfl) ?_
  refine update_fn h1.ents und83 key3' fun S2 hm2 m2' hn2 => ?_
  have hset : (fun m => if m = cell then some (sv G80 e) else enV en m) = enV (setE en cell e) := by
    funext m
    unfold enV setE
    by_cases hm : m = cell
    · rw [if_pos hm, if_pos hm, if_neg hf]; rfl
    · rw [if_neg hm, if_neg hm]
  rw [hset] at hm2
  have hb1lt := h.ents.lt
  have hat1' : At S2 r1 (.cells [.int .i64 e.1, .int .u32 e.2] none false none) := m2'.at hat1 (by omega)
  have hbox2 := m2'.at h1.box h.ne
  have hL2 : LedAt S2 b home robots cells b1 m2 m3 (setE en cell e) := ⟨hbox2, hm2, h.ne⟩
  have hob2 : At S2 ob _ := m2'.at (e1.at hob) hne
  have hw2 : GrX recC 3 N S2 w l := by
    refine GrX.frm' _ _ _ m2'.kp (fun c hc hcb => ?_) (GrX.frm' _ _ _ e1.kp (fun _ _ h => h) hw)
    have := (GrX.lt' hw hc).1
    omega
  have hM2 : D.Mod (fun c => c = b1 ∨ c = ob ∨ N ≤ c) S S2 := ext_then e1 (m2'.mono fun c hc _ => .inl hc)
  refine join_of (fun (_ : PUnit) S3 => Ext S2 S3) ?_ ?_
  · rintro _ S3 e3
    refine ptrW_of (ptrW_of (evV_of (ty := tS) w (load_one (e3.at hob2) (by kernel_rfl)) ?_))
    refine evV_of (ty := .one (.agg G80)) e (load_agg (n := 2) (e3.at hat1') (by kernel_rfl) rfl rfl) ?_
    refine evC_of (s53 fun s' S4 e4 hdt hfr => ⟨((3, cell, s') : Int × Int × Sl), rfl, ?_⟩)
    refine evV_of (ty := tS) w (load_one (e4.at (e3.at hob2)) (by kernel_rfl)) ?_
    refine sameV_of ?_
    refine newW_of fun r10 S5 hr10 hat10 e5 hn5 => ?_
    have e25 : Ext S2 S5 := (e3.tr e4).tr e5
    refine evV_of (ty := tS) w (load_one (e25.at hob2) (by kernel_rfl)) ?_
    refine sameV_of ?_
    have hN5 : N ≤ S5.next := Nat.le_trans hN (Nat.le_trans hM2.next e25.next)
    have hw5 : GrX recC 3 N S5 w l := GrX.frm' _ _ _ e25.kp (fun _ _ h => h) hw2
    have hd5 := hdt.ext e5
    refine GrX.append (E := E0) (f := recC) (sz := 3) (N := N) (fun _ => rfl) (by omega) hw5 und27 inf42 und27 (by kernel_rfl) (by kernel_rfl) zero42 rfl (vs := [(3, cell, s', recB e)]) rfl (firstD_box (f := recC) (sz := 3) (v := (3, cell, s', recB e)) (fun _ => rfl) (by omega) hat10) (one_rec _) (by rw [bytes42, List.length_singleton]; omega) (by rw [List.length_singleton]; omega) (by simp) (by rw [List.length_singleton]; unfold inex; omega) (fun w' S6 hw6 m6 ha6 => ?_) hN5
    have m6' : D.Mod (fun c => N ≤ c) S5 S6 := m6.mono fun c hc _ => hc.1
    have hob6 : At S6 ob (.cells [.slice w.a w.len w.cap, v1, v2] none false none) := m6'.at (e25.at hob2) (by omega)
    refine ptrW_of (ptrW_of ?_)
    refine ⟨_, store_cells hob6 (n := 1) (by kernel_rfl) rfl (by show 0 + 0 + 1 ≤ 3; omega) rfl, ?_⟩
    have m7 := upd_mod (S := S6) (b := ob) (o := .cells ([Value.slice w.a w.len w.cap, v1, v2].take (0 + 0) ++ (cellsOf (.slice w'.a w'.len w'.cap) ++ [Value.slice w.a w.len w.cap, v1, v2].drop (0 + 0 + 1))) none false none)
    have hat7 := upd_at (o' := .cells ([Value.slice w.a w.len w.cap, v1, v2].take (0 + 0) ++ (cellsOf (.slice w'.a w'.len w'.cap) ++ [Value.slice w.a w.len w.cap, v1, v2].drop (0 + 0 + 1))) none false none) hob6
    generalize S6.upd ob _ = S7 at m7 hat7 ⊢
    have hw7 : GrX recC 3 N S7 w' (l ++ [(3, cell, s', recB e)]) := by
      refine GrX.frm' _ _ _ m7.kp (fun c hc hcb => ?_) hw6
      have := (GrX.lt' hw6 hc).1
      omega
    have hoff : Dat S7 s' (recB e) := by
      have hs4 : ∀ c, slO s' c → S3.next ≤ c := hfr
      have key : ∀ {F : Nat → Prop} {A B : St}, D.Mod F A B → (∀ c, F c → slO s' c → False) → Dat A s' (recB e) → Dat B s' (recB e) := fun {F A B} m hF hd => by
        refine ⟨Kp.slOf m.kp hd.1 fun _ b o eb _ hb => hF b hb ⟨o, eb⟩, hd.2.imp id fun hg => GB.frm _ _ _ m.kp (fun c hc hFc => hF c hFc hc) hg⟩
      refine key m7 (fun c hc hs => ?_) (key m6 (fun c hc hs => ?_) hd5)
      · subst hc
        have := hs4 _ hs
        have := hob2.lt
        have := e3.next
        omega
      · obtain ⟨o, hs⟩ := hs
        obtain ⟨hcN, hcw⟩ := hc
        have h1 := hs4 c ⟨o, hs⟩
        have h2 := (GrX.lt' hw2 ⟨0, hcw⟩).2
        have := e3.next
        omega
    refine hk w' s' S7 ?_ hat7 hw7 hoff ?_
    · exact (hL2.ext e25).mod (F := fun c => N ≤ c ∨ c = ob) ((m6'.mono fun c hc _ => .inl hc).trans m7 fun c hc _ => .inr hc) (by omega) (by omega)
    · exact ((hM2.tr e25).trans m6' fun c hc _ => .inr (.inr hc)).trans m7 fun c hc _ => .inr (.inl hc)
  · intro k1 hk1
    refine evV_of (ty := .one (.agg G80)) e (load_agg (n := 2) hat1' (by kernel_rfl) rfl rfl) ?_
    refine evC_of (s36 fun S8 e8 => ⟨((-1, 0) : Ent), rfl, ?_⟩)
    refine evV_of (ty := .one (.agg G80)) e (load_agg (n := 2) (e8.at hat1') (by kernel_rfl) rfl rfl) ?_
    refine sameV_of ?_
    refine ⟨_, eqEnt _ _ _, ?_⟩
    have : (decide (e.1 = ((-1, 0) : Ent).1) && decide (e.2 = ((-1, 0) : Ent).2)) = false := by
      obtain ⟨a, c⟩ := e
      unfold fstE at hf
      by_cases h1 : a = -1 <;> by_cases h2 : c = 0 <;> simp [h1, h2] at hf ⊢
    rw [this]
    exact ifW_of (fun h => by cases h) fun _ => hk1 _ _ e8
set_option maxHeartbeats 2000000 in
/-- A robot is placed. -/
theorem s16 {S : St} {b : Nat} {home robots cells : Int} {b1 m2 m3 : Nat} {en : EnF} (h : LedAt S b home robots cells b1 m2 m3 en) (h1r : 1 ≤ robots) {cell robot : Int} (his : isL home robots cells cell) (hr0 : 0 ≤ robot) (hr1 : robot < robots) (hfst : getE en cell = fstE) {k : Value → St → Prop}
    (hk : ∀ s' S', LedAt S' b home robots cells b1 m2 m3 (setE en cell (robot, 1)) → Dat S' s' (recB (robot, 1)) → D.Mod (fun c => c = b1) S S' → k (.tuple #[sv G41 ((3, cell, s') : Int × Int × Sl), .int .i64 0]) S') :
    WC E0 16 [.pointer (some ⟨b, 0, none⟩), .int .i64 cell, .int .i64 robot] S k := by
  refine w16 _ _ _ ?_
  unfold c16
  have hN := Hld.start noB S
  refine hN.new fun r1 S1 hN hr1' _ => ?_
  refine evC_of (s33 (h.ext hN.mod) h1r ⟨_, rfl, ?_⟩)
  refine ifW_of (fun h => by cases h) fun _ => ?_
  refine join_of (fun (t2 : Bool) S4 => S4 = S1 ∧ t2 = false) ?_ ?_
  · rintro t2 S4 ⟨rfl, rfl⟩
    refine ifW_of (fun h => by cases h) fun _ => ?_
    refine evC_of (s35 (h.ext hN.mod) (cell := cell) fun S6 e6 => ⟨_, rfl, ?_⟩)
    have hN := hN.ext e6
    refine evC_of (s36 fun S7 e7 => ⟨((-1, 0) : Ent), rfl, ?_⟩)
    have hN := hN.ext e7
    refine ⟨_, eqEnt _ _ _, ?_⟩
    rw [hfst]
    refine ifW_of (fun h => by cases h) fun _ => ?_
    refine hN.new fun r2 S9 hN hr2 hn9 => ?_
    have e9 := hN.mod
    have hat2 : At S9 r2 (.cells [.slice none 0 0, .slice none 0 0, .slice none 0 0] none false none) := hN.at 0 rfl
    have hat1 : At S9 r1 (.cells [.int .i64 0, .int .i64 0, .slice none 0 0] none false none) := hN.at 1 rfl
    have hb := h.box.lt
    have hb1 := h.ents.lt
    have h17 := (e6.tr e7).next
    have hn1 := hN.mod.next
    refine evC_of (s37 (h.ext e9) (cell := cell) (e := (robot, 1)) (fun e => by cases e) (w := ⟨none, 0, 0⟩) (l := []) hat2 (N := S9.next) (Nat.le_refl _) (.inl ⟨rfl, rfl⟩) (by simp) (by have := e9.next; omega) (by have := e9.next; omega) hat2.lt (by omega) (by omega) fun w' s' S10 hL hob hw hdt m10 => ⟨PUnit.unit, rfl, ?_⟩)
    refine ptrW_of ?_
    refine evV_of (ty := tS) w' (load_one hob (by kernel_rfl)) ?_
    have hsl : SlOf recC 3 S10 w' [(3, cell, s', recB (robot, 1))] := hw.of fun _ => rfl
    refine recsAt_get hsl (n := 0) (by simp) fun b5 b6 g1 _ _ _ => ?_
    refine evV_of (ty := .one (.agg G41)) ((3, cell, s') : Int × Int × Sl) g1 ?_
    have hr1lt : r1 < S9.next := hat1.lt
    have hat1' : At S10 r1 (.cells [.int .i64 0, .int .i64 0, .slice none 0 0] none false none) := m10.at hat1 (by
      rintro (h | h | h)
      · omega
      · omega
      · omega)
    refine ⟨_, store_cells hat1' (n := 3) (by kernel_rfl) rfl (Nat.le_of_ble_eq_true rfl) rfl, ?_⟩
    have m11 := upd_mod (S := S10) (b := r1) (o := .cells ([Value.int .i64 0, .int .i64 0, .slice none 0 0].take 0 ++ (cellsOf (sv G41 ((3, cell, s') : Int × Int × Sl)) ++ [Value.int .i64 0, .int .i64 0, .slice none 0 0].drop (0 + 3))) none false none)
    have hat11 := upd_at (o' := .cells ([Value.int .i64 0, .int .i64 0, .slice none 0 0].take 0 ++ (cellsOf (sv G41 ((3, cell, s') : Int × Int × Sl)) ++ [Value.int .i64 0, .int .i64 0, .slice none 0 0].drop (0 + 3))) none false none) hat1'
    generalize S10.upd r1 _ = S11 at m11 hat11 ⊢
    refine evV_of (ty := .one (.agg G41)) ((3, cell, s') : Int × Int × Sl) (load_agg (n := 3) hat11 (by kernel_rfl) rfl rfl) ?_
    refine hk s' S11 (hL.mod m11 (by omega) (by omega)) ?_ ?_
    · have hoff : ∀ {F : Nat → Prop} {A B : St}, D.Mod F A B → (∀ c, F c → slO s' c → False) → Dat A s' (recB (robot, 1)) → Dat B s' (recB (robot, 1)) := fun {F A B} m hF hd =>
        ⟨Kp.slOf m.kp hd.1 fun _ b o eb _ hb => hF b hb ⟨o, eb⟩, hd.2.imp id fun hg => GB.frm _ _ _ m.kp (fun c hc hFc => hF c hFc hc) hg⟩
      refine hoff m11 (fun c hc hs => ?_) hdt
      subst hc
      obtain ⟨o, hs⟩ := hs
      have hne : recB (robot, 1) ≠ [] := by
        unfold recB
        rw [if_neg (fun e => by cases e)]
        simp
      obtain ⟨b', o', cs, more, ro, fz, ea, hat, hc⟩ := hdt.1.mem hne
      rw [hs] at ea; cases ea
      have := hat.get.symm.trans hat1'.get
      cases this
      have h0 := congrArg (fun l : List Value => l.length) hc
      rw [recB, if_neg (fun e => by cases e)] at h0
      simp [be4] at h0
      omega
    · have hn9' := e9.next
      refine ((e9.mono (F' := fun c => c = b1) fun _ h _ => h.elim).trans m10 fun c hc hlt => ?_).trans m11 fun c hc hlt => ?_
      · rcases hc with h | h | h
        · exact h
        · omega
        · omega
      · omega
  · intro k1 hk1
    refine evC_of (s15 ((h.ext hN.mod).box) h1r ⟨_, rfl, ?_⟩)
    rw [decide_eq_true his]
    refine ifW_of (fun h => by cases h) fun _ => ?_
    refine evC_of (s34 (h.ext hN.mod) h1r ⟨_, rfl, ?_⟩)
    rw [decide_eq_true ⟨hr0, hr1⟩]
    exact hk1 _ _ ⟨rfl, rfl⟩
end
end Go.Proofs.Ytcdignblakejoaa
