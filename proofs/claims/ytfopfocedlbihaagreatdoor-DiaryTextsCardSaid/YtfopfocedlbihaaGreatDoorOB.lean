/- Parts of the proof, put together. -/
import Derived.Test.YtfopfocedlbihaaGreatDoorOA
/- Orders: the document's digits, values, words; the library's functions that are met by contracts. -/
namespace Go.Proofs.YtfopfocedlbihaaGreatDoor
open Go Go.Proofs.YtfopfocedlbihaaGreatDoor.D
set_option linter.unusedVariables false
set_option linter.unusedSimpArgs false
noncomputable section

theorem und78 : E0.und 78 = some (.slice 9) := by kernel_rfl
theorem inf9 : E0.inf 9 = some DEnv.i9 := by kernel_rfl
theorem bytes9 : DEnv.i9.bytes = 16 := by kernel_rfl
theorem size9 : E0.size 9 = some 1 := by kernel_rfl
abbrev strC (l : List UInt8) : List Value := [strV l]
theorem cat_eq {a b : List UInt8} (h : a.length + b.length ≤ 9223372036854775807) : catD ⟨a.toArray⟩ ⟨b.toArray⟩ = some (strV (a ++ b)) := by
  have h1 : decide (((a.length + b.length : Nat) : Int) ≤ 9223372036854775807) = true := decide_eq_true (by omega)
  show cond (decide (((a.length + b.length : Nat) : Int) ≤ 9223372036854775807)) (some (strV (a ++ b))) none = _
  rw [h1]; rfl

/-! ### Digits -/
def dHead (m : Nat) : List UInt8 := if m < 10 then [] else dec (m / 10)
theorem dec_head (m : Nat) : dec m = dHead m ++ [UInt8.ofNat (48 + m % 10)] := by
  unfold dHead
  by_cases h : m < 10
  · rw [if_pos h, List.nil_append]
    show Lib.decDigits m = _
    rw [Lib.decDigits_one h, Nat.mod_eq_of_lt h]
  · rw [if_neg h]
    show Lib.decDigits m = _
    rw [Lib.decDigits, dif_neg h]
theorem dig_wrap (m : Nat) (hm : m < 18446744073709551616) : Value.int .u8 (wrapI .u8 (wrapI .u64 (48 + Int.tmod (m : Int) 10))) = byV (UInt8.ofNat (48 + m % 10)) := by
  have h1 : Int.tmod (m : Int) 10 = ((m % 10 : Nat) : Int) := by rw [Int.tmod_eq_emod_of_nonneg (by omega)]; omega
  have h2 : m % 10 < 10 := Nat.mod_lt _ (by omega)
  rw [h1, wrap_u64 (by omega) (by omega), wrap_u8 (by omega) (by omega), byV, ofNat_toNat (by omega)]
  congr 1
theorem one_str {S : St} {b : Nat} {c : UInt8} (h : At S b (.cells [byV c] none false none)) : convertD E0 S 52 9 (.slice (some ⟨b, 0, none⟩) 1 1) = some (strV [c], S) :=
  conv_str (l := [c]) (cap := 1) (loadN_of h rfl rfl) (by simp)
theorem s62 {S : St} {u : Nat} {k : Value → St → Prop} (hu : u < 18446744073709551616) (hk : ∀ S', Ext S S' → k (strV (dec u)) S') : WC E0 62 [.int .u64 (u : Int)] S k := by
  refine w62 _ ?_
  unfold c62
  refine ⟨rfl, ?_⟩
  rw [dig_wrap u hu]
  refine newW_of fun b1 S1 hb1 ha1 e1 hn1 => ?_
  refine ⟨[UInt8.ofNat (48 + u % 10)], S1, one_str ha1, ?_⟩
  refine loopW_ind (fun q (x : Int × List UInt8) S' => ∃ m : Nat, x.1 = m ∧ q = m ∧ m ≤ u ∧ dec u = dHead m ++ x.2 ∧ Ext S S') (m := u) ⟨u, rfl, rfl, Nat.le_refl _, dec_head u, e1⟩ ?_
  rintro P q ⟨y, s⟩ S2 ⟨m, hy, hq, hm, hd, e2⟩ hP
  dsimp only at hy hd ⊢
  subst hy
  refine ifW_dec (fun h => ?_) fun h => ?_
  · refine ⟨rfl, ⟨rfl, ?_⟩⟩
    have hw : wrapI .u64 (Int.tdiv (m : Int) 10) = ((m / 10 : Nat) : Int) := by
      rw [Int.tdiv_eq_ediv_of_nonneg (by omega), wrap_u64 (by omega) (by omega)]
      omega
    rw [hw, dig_wrap (m / 10) (by omega)]
    refine newW_of fun b2 S3 hb2 ha2 e3 hn3 => ?_
    refine ⟨[UInt8.ofNat (48 + m / 10 % 10)], S3, one_str ha2, ?_⟩
    have hl := dec_len hu
    have hsl : s.length ≤ 20 := by rw [hd, List.length_append] at hl; omega
    refine evV_of (ty := tT) _ (cat_eq (by simp; omega)) ?_
    refine hP _ _ _ (by omega) ⟨m / 10, rfl, rfl, by omega, ?_, e2.tr e3⟩
    rw [hd]
    have h1 : dHead m = dec (m / 10) := by unfold dHead; rw [if_neg (by omega)]
    rw [h1, dec_head (m / 10)]
    simp
  · have h1 : dHead m = [] := by unfold dHead; rw [if_pos (by omega)]
    rw [h1, List.nil_append] at hd
    rw [← hd]
    exact hk S2 e2

/-! ### Values -/
theorem valL_cons (n : Nat) (c : UInt8) (r : List UInt8) : valL n (c :: r) = if c.toNat < 48 ∨ 57 < c.toNat ∨ 1844674407370955161 < n then n else if n = 1844674407370955161 ∧ 5 < c.toNat - 48 then n else valL (10 * n + (c.toNat - 48)) r := rfl
theorem s73 {S : St} {s : List UInt8} {k : Value → St → Prop} (hlen : s.length ≤ 100000000) (hk : k (.int .u64 ((valL 0 s : Nat) : Int)) S) : WC E0 73 [strV s] S k := by
  refine w73 _ ?_
  unfold c73
  refine loopW_ind (fun q (x : Int × Int) S' => ∃ acc i : Nat, x.1 = acc ∧ x.2 = i ∧ i ≤ s.length ∧ q = s.length - i ∧ acc < 18446744073709551616 ∧ valL 0 s = valL acc (s.drop i) ∧ S' = S) (m := s.length) ⟨0, 0, rfl, rfl, by omega, rfl, by omega, rfl, rfl⟩ ?_
  rintro P q ⟨y, z⟩ S1 ⟨acc, i, hy, hz, hi, rfl, hacc, hv, rfl⟩ hP
  dsimp only at hy hz ⊢
  subst hy hz
  rw [hv] at hk
  refine ifW_dec (fun h => ?_) fun h => ?_
  · have hi3 : i < s.length := by omega
    rw [List.drop_eq_getElem_cons hi3] at hk hv
    generalize hc : s[i] = c at hk hv
    have hidx := indexD_str und9 hi3
    rw [hc] at hidx
    have h256 := c.toNat_lt
    refine evV_of (ty := tU8) _ hidx ?_
    have stop : (c.toNat < 48 ∨ 57 < c.toNat ∨ 1844674407370955161 < acc) → k (.int .u64 (acc : Int)) S1 := fun h => by
      rw [valL_cons, if_pos h] at hk
      exact hk
    refine ifW_dec (fun h1 => stop (by omega)) fun h1 => ?_
    refine evV_of (ty := tU8) _ hidx ?_
    refine ifW_dec (fun h2 => stop (by omega)) fun h2 => ?_
    refine ifW_dec (fun h3 => stop (by omega)) fun h3 => ?_
    refine evV_of (ty := tU8) _ hidx ?_
    have hd : wrapI .u64 (wrapI .u8 ((c.toNat : Int) - 48)) = ((c.toNat - 48 : Nat) : Int) := by
      rw [wrap_u8 (by omega) (by omega), wrap_u64 (by omega) (by omega)]; omega
    rw [hd]
    rw [valL_cons, if_neg (by omega)] at hk hv
    have go : ¬ (acc = 1844674407370955161 ∧ 5 < c.toNat - 48) → P (wrapI .u64 (wrapI .u64 (10 * (acc : Int)) + ((c.toNat - 48 : Nat) : Int)), wrapI .i64 ((i : Int) + 1)) S1 := fun hn => by
      rw [if_neg hn] at hv
      rw [wrap_u64 (n := 10 * (acc : Int)) (by omega) (by omega), wrap_u64 (by omega) (by omega), wrap_succ (by omega)]
      exact hP _ _ _ (by omega) ⟨10 * acc + (c.toNat - 48), i + 1, by dsimp only; omega, rfl, by omega, rfl, by omega, hv, rfl⟩
    refine ifW_dec (fun h4 => ?_) fun h4 => go (by omega)
    refine ifW_dec (fun h5 => ?_) fun h5 => go (by omega)
    rw [if_pos ⟨by omega, by omega⟩] at hk
    exact hk
  · rw [List.drop_eq_nil_of_le (by omega)] at hk
    exact hk
theorem s72 {S : St} {s : List UInt8} {k : Value → St → Prop} (hlen : s.length ≤ 100000000) (hk : k (.int .i64 (smallL s)) S) : WC E0 72 [strV s] S k := by
  refine w72 _ ?_
  unfold c72
  refine evC_of (s73 hlen ⟨_, rfl, ?_⟩)
  unfold smallL at hk
  refine ifW_dec (fun h => ?_) fun h => ?_
  · rw [if_pos (by omega)] at hk
    exact hk
  · rw [if_neg (by omega)] at hk
    rw [wrap_i64 (by omega) (by omega)]
    exact hk

/-! ### Words -/
theorem flat_str (l : List (List UInt8)) : l.flatMap strC = l.map strV := by induction l with | nil => rfl | cons x l ih => simp [List.flatMap_cons, ih]
theorem lastC_set {c : UInt8} : ∀ {ws : List (List UInt8)}, ws ≠ [] → lastC c ws = ws.set (ws.length - 1) (ws.getD (ws.length - 1) [] ++ [c])
  | [], h => (h rfl).elim
  | [w], _ => rfl
  | w :: v :: r, _ => by
    rw [lastC_cons (by simp), lastC_set (ws := v :: r) (by simp)]
    simp
theorem set_str {l : List (List UInt8)} {rest : List Value} {j : Nat} (hj : j < l.length) (w : List UInt8) : (l.map strV ++ rest).take (0 + j * 1) ++ ([strV w] ++ (l.map strV ++ rest).drop (0 + j * 1 + 1)) = (l.set j w).map strV ++ rest := by
  rw [Nat.zero_add, Nat.mul_one, List.map_set, List.set_eq_take_append_cons_drop, if_pos (by simpa using hj), List.take_append_of_le_length (by simp; omega), List.drop_append_of_le_length (by simp; omega)]
  simp
theorem lt_inex : (4000000000 : Nat) < inex := by decide
/-- A string is appended. -/
theorem app_str {S : St} {s : Sl} {l : List (List UInt8)} {b : Nat} {w : List UInt8} (h : Ow strC 1 S s l) (hat : At S b (.cells [strV w] none false none)) (hl : l.length ≤ 100000000)
    {k : Sl → St → Prop} (hk : ∀ s' S', Ow strC 1 S' s' (l ++ [w]) → Mod (slO s) S S' → (∀ c, slO s' c → slO s c ∨ S.next ≤ c) → k s' S') :
    evP tS (appendD E0 S 78 78 (.slice s.a s.len s.cap) (.slice (some ⟨b, 0, none⟩) 1 1)) k :=
  h.append (E := E0) (f := strC) (sz := 1) (fun _ => rfl) (by omega) und78 inf9 und78 (by kernel_rfl) (by kernel_rfl) (by kernel_rfl : DEnv.i9.zero = some (.string ⟨#[]⟩)) rfl (vs := [w]) rfl (firstD_box (f := strC) (sz := 1) (fun _ => rfl) (by omega) hat) rfl
    (show (l.length + 1) * DEnv.i9.bytes ≤ 17592186044416 by rw [bytes9]; omega) (show l.length + 1 ≤ 17592186044416 by omega) (by simp) (show (l.length + 1) * 1 < inex by have h := lt_inex; omega) hk
/-- A string of a slice is another one. -/
theorem Ow.setStr {S : St} {s : Sl} {l : List (List UInt8)} (h : Ow strC 1 S s l) {j : Nat} (hj : j < l.length) {k : St → Prop} (w : List UInt8) (hk : ∀ S', Ow strC 1 S' s (l.set j w) → Mod (slO s) S S' → S'.next = S.next → k S') :
    idxW s.a s.len (j : Int) fun b1 b2 => evS (storeV E0 S 9 (.pointer (some ⟨b1, b2 + Int.toNat (j : Int) * 1, none⟩)) (strV w)) k := by
  obtain ⟨b, rest, cap, more, rfl, hat, hc⟩ := h
  rw [flat_str] at hat
  refine ⟨b, 0, rfl, by omega, by show (j : Int) < (l.length : Int); omega, ?_⟩
  refine ⟨_, (store_cells (n := 1) hat (by kernel_rfl) rfl (by show 0 + j * 1 + 1 ≤ _; simp; omega) rfl), hk _ ?_ (upd_mod.mono fun c hc _ => by subst hc; exact ⟨0, rfl⟩) rfl⟩
  refine ⟨b, rest, cap, more, by simp, ?_, ?_⟩
  · rw [flat_str, ← set_str hj w]
    exact upd_at hat
  · rcases hc with ⟨h1, h2, h3⟩ | ⟨h1, h2, h3⟩
    · exact .inl ⟨h1, h2, by simpa using h3⟩
    · exact .inr ⟨by simpa using h1, h2, h3⟩
theorem SlOf.str {S : St} {s : Sl} {l : List (List UInt8)} (h : SlOf strC 1 S s l) {j : Nat} (hj : j < l.length) {k : List UInt8 → Prop} (hk : k l[j]) : idxW s.a s.len (j : Int) fun b1 b2 => evV tT (loadV E0 S 9 (.pointer (some ⟨b1, b2 + Int.toNat (j : Int) * 1, none⟩))) k := by
  refine h.idxL (f := strC) (sz := 1) (fun _ => rfl) h.len hj fun b5 o5 cs5 m5 ro5 f5 at5 _ hv5 => ?_
  exact evV_of (ty := tT) l[j] ((load_one at5 (by kernel_rfl)).trans (at_take hv5 (j := 0) (by omega))) hk
theorem s71 {S : St} {l : List UInt8} {k : Value → St → Prop} (hlen : l.length ≤ 10000000) (hk : ∀ s S', Ow strC 1 S' s (wd l) → (∀ c, slO s c → S.next ≤ c) → Ext S S' → k (.slice s.a s.len s.cap) S') : WC E0 71 [strV l] S k := by
  refine w71 _ ?_
  unfold c71
  refine newW_of fun b1 S1 hb1 ha1 e1 hn1 => ?_
  have h0 : Ow strC 1 S1 ⟨some ⟨b1, 0, none⟩, 1, 1⟩ (wd (l.take 0)) := ⟨b1, [], 1, none, rfl, ha1, .inr ⟨rfl, rfl, by decide⟩⟩
  have hL := Cx.start (S := S1) noB h0 Ow.frm (fun c hc => h0.lt hc)
  have wlen : ∀ (s : List UInt8), (wd s).length ≤ s.length + 1 := by
    intro s
    induction s with
    | nil => simp [wd]
    | cons c r ih =>
      unfold wd
      split
      · simp; omega
      · cases h : wd r <;> rw [h] at ih <;> simp [headC] at ih ⊢ <;> omega
  refine loopW_ind (fun q (x : Sl × Int) S' => ∃ i : Nat, x.2 = i ∧ i ≤ l.length ∧ q = l.length - i ∧ Ext S S' ∧ Ow strC 1 S' x.1 (wd (l.take i)) ∧ ∀ c, slO x.1 c → S.next ≤ c) (m := l.length) ⟨0, rfl, by omega, rfl, e1, h0, fun c hc => by
    obtain ⟨o, e⟩ := hc
    cases e
    omega⟩ ?_
  rintro P q ⟨s, z⟩ S2 ⟨i, hz, hi, rfl, e2, hO, hs⟩ hP
  dsimp only at hz hO hs ⊢
  subst hz
  have hwl := wlen (l.take i)
  rw [List.length_take] at hwl
  refine ifW_dec (fun h => ?_) fun h => ?_
  · have hi3 : i < l.length := by omega
    have htk : l.take (i + 1) = l.take i ++ [l[i]] := by rw [List.take_add_one, List.getElem?_eq_getElem hi3]; rfl
    refine evV_of (ty := tU8) _ (indexD_str und9 hi3) ?_
    have hc := l[i].toNat_lt
    have n2 := e2.next
    rw [wrap_succ (by omega)]
    refine ifW_dec (fun h32 => ?_) fun h32 => ?_
    · have h32 : l[i] = 32 := UInt8.toNat_inj.1 (by show _ = 32; omega)
      refine newW_of fun b2 S3 hb2 ha2 e3 hn3 => ?_
      refine app_str (hO.ext e3) ha2 (by omega) fun s' S4 g m hs' => ?_
      refine hP _ _ _ (by omega) ⟨i + 1, rfl, by omega, rfl, (e2.tr e3).ext m fun c hc => by have := hs c hc; omega, ?_, fun c hc => ?_⟩
      · rw [htk, h32, wd_snoc_sp]; exact g
      · rcases hs' c hc with h | h
        · exact hs c h
        · omega
    · have h32 : l[i] ≠ 32 := fun e => h32 (by rw [e]; rfl)
      have hne := wd_ne (l.take i)
      have hpos : 0 < (wd (l.take i)).length := List.length_pos_iff.2 hne
      have hlast : wrapI .i64 ((s.len : Int) - 1) = (((wd (l.take i)).length - 1 : Nat) : Int) := by
        rw [hO.len, wrap_i64 (by omega) (by omega)]; omega
      rw [hlast]
      refine SlOf.str (hO.of fun _ => rfl) (by omega) ?_
      have hsl : sliceD E0 S2 9 (.string ⟨l.toArray⟩) (some (.int .i64 (i : Int))) (some (.int .i64 ((i + 1 : Nat) : Int))) none = some (strV [l[i]]) := by
        have e1 : (l.drop i).take (i + 1 - i) = [l[i]] := by
          rw [List.drop_eq_getElem_cons hi3, show i + 1 - i = 1 by omega]; rfl
        simp only [sliceD, und9, optNat, natOf_int, Option.bind_some, List.toList_toArray]
        rw [e1, Nat.ble_eq_true_of_le (show i + 1 ≤ l.length by omega), Nat.ble_eq_true_of_le (Nat.le_succ i)]
        rfl
      refine evV_of (ty := tT) [l[i]] hsl ?_
      have hwlen : ∀ w ∈ wd (l.take i), w.length ≤ l.length := by
        have : ∀ (s : List UInt8), ∀ w ∈ wd s, w.length ≤ s.length := by
          intro s
          induction s with
          | nil => simp [wd]
          | cons c r ih =>
            unfold wd
            split
            · intro w hw
              rcases List.mem_cons.1 hw with rfl | hw
              · simp
              · have := ih w hw; simp; omega
            · cases h : wd r with
              | nil => exact (wd_ne r h).elim
              | cons x t =>
                rw [h] at ih
                intro w hw
                rcases List.mem_cons.1 hw with rfl | hw
                · have := ih x (by simp); simp; omega
                · have := ih w (by simp [hw]); simp; omega
        intro w hw
        have := this _ w hw
        rw [List.length_take] at this
        omega
      have hwl2 := hwlen _ (List.getElem_mem (show (wd (l.take i)).length - 1 < (wd (l.take i)).length by omega))
      refine evV_of (ty := tT) _ (cat_eq (by simp; omega)) ?_
      refine Ow.setStr hO (by omega) _ fun S3 g m hn3 => ?_
      refine hP _ _ _ (by omega) ⟨i + 1, rfl, by omega, rfl, e2.ext m fun c hc => by have := hs c hc; omega, ?_, hs⟩
      rw [htk, wd_snoc h32, lastC_set hne, List.getD_eq_getElem?_getD, List.getElem?_eq_getElem (by omega)]
      exact g
  · have hi' : l.take i = l := List.take_of_length_le (by omega)
    rw [hi'] at hO
    exact hk s S2 hO hs e2

/-! ### The library's -/
theorem s34 {S : St} {s : Sl} {ws : List (List UInt8)} {k : Value → St → Prop} (h : SlOf strC 1 S s ws) (hne : ws ≠ []) (hl : ws.length ≤ 100000000) (hj : (jn ws).length ≤ 100000000) (hk : k (strV (jn ws)) S) : WC E0 34 [.slice s.a s.len s.cap, strV [32]] S k := by
  obtain ⟨b, o, cs, more, ro, fz, ha, hat, hcs⟩ := h.mem hne
  have hlen := h.len
  obtain ⟨m, hm⟩ : ∃ m, ws.length = m + 1 := ⟨ws.length - 1, by have := List.length_pos_iff.2 hne; omega⟩
  rw [hlen, hm, ha]
  refine WC_prim (E := E0) (f := 34) rfl (show withS joinP [.slice (some ⟨b, o, none⟩) (m + 1) s.cap, strV [32]] S = some (strV (jn ws), S) from ?_) hk
  have hld : S.loadN b o (m + 1) = some (ws.map strV) := loadN_of hat (by rw [← flat_str, ← hcs, hm, Nat.mul_one]) (by simpa using hm)
  have hso : strsOf (ws.map strV) = some (ws.map bar) := by
    have := strsOf_map (ws.map bar)
    rwa [List.map_map] at this
  have h1 : Nat.ble (jn ws).length 140737488355328 = true := Nat.ble_eq_true_of_le (by omega)
  have h2 : Nat.ble (m + 1) 140737488355328 = true := Nat.ble_eq_true_of_le (by omega)
  simp only [withS, joinP, hld, Option.bind_some, hso, joinB_jn, h1, h2, Bool.and_self, cond_true, Option.map_some]
theorem s43 {S : St} {l : List UInt8} {k : Value → St → Prop} (g : Gl S) (hlen : l.length ≤ 100000000) (hk : ∀ b S', At S' b (.cells ((wd l).map strV) none false none) → b = S.next → Ext S S' → k (.slice (some ⟨b, 0, none⟩) (wd l).length (wd l).length) S') : WC E0 43 [strV l, strV [32]] S k := by
  obtain ⟨cs, more, ro, fz, i, hat, hi⟩ := g.maxL
  refine WC_prim (E := E0) (f := 43) rfl (show splitP 2 [strV l, strV [32]] S = some (.slice (some ⟨S.next, 0, none⟩) (wd l).length (wd l).length, (S.alloc (.cells ((wd l).map strV) none false none)).2) from ?_) (hk S.next _ alloc_at rfl alloc_ext)
  have h1 : Nat.blt (bar l).size 4294967281 = true := Nat.blt_eq.mpr (by simp [bar, ByteArray.size]; omega)
  have h2 : Nat.ble 1 (bar [32]).size = true := by rfl
  have h3 : S.load1 2 0 = some (.int .i64 i) := by rw [load1_at hat]; exact hi
  have h4 := splitB_wd l
  have h5 := count_wd l
  simp only [splitP, h3]
  rw [show (⟨l.toArray⟩ : ByteArray) = bar l from rfl, show (⟨[32].toArray⟩ : ByteArray) = bar [32] from rfl, h1, h2, h4, h5, List.map_map]
  rfl
theorem errs {S : St} (g : Gl S) : (errB (S.load1 4 0) && errB (S.load1 5 0)) = true := by
  obtain ⟨cs, more, ro, fz, hat, hi⟩ := g.errS
  obtain ⟨cs', more', ro', fz', hat', hi'⟩ := g.errR
  rw [load1_at hat, load1_at hat', hi, hi']; rfl
theorem s47e {S : St} {w : List UInt8} {k : Value → St → Prop} (g : Gl S) (hlen : w.length ≤ 100000000)
    (hk : k (match Lib.atoiAll w with | .ok v => .tuple #[.int .i64 v, .nilIface] | Lib.NumEnd.syntax => .tuple #[.int .i64 0, .iface 133 noV] | .range => .tuple #[.int .i64 (Lib.atoiSat w), .iface 133 noV]) S) : WC E0 66 [strV w] S k := by
  have h1 : Nat.ble (bar w).size 281474976710656 = true := Nat.ble_eq_true_of_le (by simp [bar, ByteArray.size]; omega)
  have h2 := errs g
  refine WC_prim (E := E0) (f := 66) (v := match Lib.atoiAll w with | .ok v => .tuple #[.int .i64 v, .nilIface] | Lib.NumEnd.syntax => .tuple #[.int .i64 0, .iface 133 noV] | .range => .tuple #[.int .i64 (Lib.atoiSat w), .iface 133 noV]) rfl (show withS (atoiP 133 4 5) [strV w] S = some (_, S) from ?_) hk
  simp only [withS, atoiP]
  rw [show (⟨w.toArray⟩ : ByteArray) = bar w from rfl, h1, h2]
  rfl
theorem s66 {S : St} {w : List UInt8} {k : Value → St → Prop} (g : Gl S) (hlen : w.length ≤ 100000000) (hk : ∀ e, k (.tuple #[.int .i64 (atoiN w), e]) S) : WC E0 66 [strV w] S k := by
  refine s47e g hlen ?_
  unfold atoiN at hk
  cases h : Lib.atoiAll w with
  | ok v => rw [h] at hk; exact hk _
  | range => rw [h] at hk; exact hk _
  | _ => rw [h] at hk; exact hk _
theorem s68 {S : St} {w : List UInt8} {k : Value → St → Prop} (g : Gl S) (hlen : w.length ≤ 100000000) (hk : ∀ e, k (.tuple #[.int .u64 (puN w), e]) S) : WC E0 68 [strV w, .int .i64 10, .int .i64 64] S k := by
  have h1 : Nat.ble (bar w).size 281474976710656 = true := Nat.ble_eq_true_of_le (by simp [bar, ByteArray.size]; omega)
  have h2 := errs g
  unfold puN at hk
  refine WC_prim (E := E0) (f := 68) (v := match Lib.parseUintB 64 w with | .ok v => .tuple #[.int .u64 ((v : Nat) : Int), .nilIface] | Lib.NumEnd.syntax => .tuple #[.int .u64 0, noV] | .range => .tuple #[.int .u64 18446744073709551615, noV]) rfl (show withS (puP 4 5) [strV w, .int .i64 10, .int .i64 64] S = some (_, S) from ?_) ?_
  · simp only [withS, puP]
    rw [show (⟨w.toArray⟩ : ByteArray) = bar w from rfl, h1, h2]
    rfl
  · cases h : Lib.parseUintB 64 w with
    | ok v => rw [h] at hk; exact hk _
    | range => rw [h] at hk; exact hk _
    | _ => rw [h] at hk; exact hk _
/-- The next word. -/
theorem s67 {S : St} {c0 b n j o : Nat} {ws : List (List UInt8)} {k : Value → St → Prop} (h0 : At S c0 (.cells [.slice (some ⟨b, o, none⟩) (n - j) (n - j)] none false none)) (hb : At S b (.cells (ws.map strV) none false none)) (hn : ws.length = n) (hn2 : n < inex) (ho : j < n → o = j)
    (hk : ∀ S' o', (j + 1 < n → o' = j + 1) → Mod (fun c => c = c0) S S' → At S' c0 (.cells [.slice (some ⟨b, o', none⟩) (n - (j + 1)) (n - (j + 1))] none false none) → S'.next = S.next → k (strV (ws.getD j [])) S') : WC E0 67 [.pointer (some ⟨c0, 0, none⟩)] S k := by
  refine w67 _ ?_
  unfold c67
  refine evV_of (ty := tS) ⟨some ⟨b, o, none⟩, n - j, n - j⟩ (load_one h0 (by kernel_rfl)) ?_
  refine ifW_dec (fun h => ?_) fun h => ?_
  · have hj : n ≤ j := by dsimp only at h; omega
    have hg : ws.getD j [] = [] := by rw [List.getD_eq_getElem?_getD, List.getElem?_eq_none (by omega)]; rfl
    rw [show n - j = 0 by omega] at h0
    have := hk S o (by omega) (Mod.refl _ _) (by rw [show n - (j + 1) = 0 by omega]; exact h0) rfl
    rw [hg] at this
    exact this
  · have hj : j < n := by dsimp only at h; omega
    have ho' := ho hj
    subst ho'
    refine evV_of (ty := tS) ⟨some ⟨b, o, none⟩, n - o, n - o⟩ (load_one h0 (by kernel_rfl)) ?_
    refine ⟨b, o, rfl, by omega, by dsimp only; omega, ?_⟩
    have hg : (ws.map strV)[o + Int.toNat 0 * 1]? = some (strV (ws.getD o [])) := by
      rw [show o + Int.toNat 0 * 1 = o by simp, List.getElem?_map, List.getD_eq_getElem?_getD, List.getElem?_eq_getElem (by omega)]
      rfl
    refine evV_of (ty := tT) (ws.getD o []) ((load_one hb (by kernel_rfl)).trans hg) ?_
    refine evV_of (ty := tS) ⟨some ⟨b, o, none⟩, n - o, n - o⟩ (load_one h0 (by kernel_rfl)) ?_
    refine evV_of (ty := tS) ⟨some ⟨b, cond (Nat.beq (n - o) 1) o (o + 1 * 1), none⟩, n - o - 1, n - o - 1⟩ (sliceD_some (lo := 1) (hi := n - o) (mx := n - o) und78 size9 rfl (show n - o < inex by omega) (natOf_int (k := .i64) (n := 1)) rfl rfl (by omega) (Nat.le_refl _) (Nat.le_refl _)) ?_
    refine ⟨_, store_cells (n := 1) h0 (by kernel_rfl) rfl (Nat.le_refl _) rfl, ?_⟩
    refine hk _ (cond (Nat.beq (n - o) 1) o (o + 1 * 1)) (fun h => ?_) upd_mod ?_ rfl
    · rw [PM.beq_f (by omega)]; rfl
    · rw [show n - (o + 1) = n - o - 1 by omega]
      exact upd_at h0
end
end Go.Proofs.YtfopfocedlbihaaGreatDoor

/- Orders: an order's line, the program's and the document's. -/
namespace Go.Proofs.YtfopfocedlbihaaGreatDoor
open Go Go.Proofs.YtfopfocedlbihaaGreatDoor.D
set_option linter.unusedVariables false
set_option linter.unusedSimpArgs false
noncomputable section

abbrev boxesL (b9 b8 cK b5 b1 : Nat) (st : DObj) (x : Ord) (s : Sl) : List (Nat × DObj) :=
  [(b9, st), (b8, .deferred), (cK, .cells [.int .i64 x.1] none false none), (b5, .cells [.slice s.a s.len s.cap] none false none), (b1, .cells (cellsO x) none false none)]
theorem words_succ (x : Ord) {i : Nat} (hi : i < (partsB x.1).length) : (wordsO x).take (i + 2) = (wordsO x).take (i + 1) ++ [wordO x ((partsB x.1)[i].toNat : Int)] := by
  unfold wordsO
  rw [List.take_succ_cons, List.take_succ_cons, List.take_add_one, List.getElem?_map, List.getElem?_eq_getElem hi]
  rfl
theorem parts_len (k : Int) : (partsB k).length ≤ 3 := by
  unfold partsB
  repeat' split
  all_goals simp
theorem s32 {S : St} {x : Ord} {k : Value → St → Prop} (g : Gl S) (hw : OrdW x) (hk : ∀ S', Ext S S' → k (.tuple #[strV (lineP x).1, .int .i64 (lineP x).2]) S') : WC E0 32 [sv G36 x] S k := by
  refine w32 x ?_
  unfold c32
  have hL := Cx.start (S := S) (P := fun _ => True) noB trivial Frm.true (fun _ h => h.elim)
  refine hL.new fun b1 S1 hL _ _ => ?_
  (first | refine hL.ld 0 rfl (by kernel_rfl) _ rfl ?_ | refine hL.ld 1 rfl (by kernel_rfl) _ rfl ?_ | refine hL.ld 2 rfl (by kernel_rfl) _ rfl ?_ | refine hL.ld 3 rfl (by kernel_rfl) _ rfl ?_ | refine hL.ld 4 rfl (by kernel_rfl) _ rfl ?_ | refine hL.ld 5 rfl (by kernel_rfl) _ rfl ?_ | refine hL.ld 6 rfl (by kernel_rfl) _ rfl ?_ | refine hL.ld 7 rfl (by kernel_rfl) _ rfl ?_ | refine hL.lda 0 rfl (by kernel_rfl) _ rfl ?_ | refine hL.lda 1 rfl (by kernel_rfl) _ rfl ?_ | refine hL.lda 2 rfl (by kernel_rfl) _ rfl ?_ | refine hL.lda 3 rfl (by kernel_rfl) _ rfl ?_ | refine hL.lda 4 rfl (by kernel_rfl) _ rfl ?_ | refine hL.lda 5 rfl (by kernel_rfl) _ rfl ?_ | refine hL.lda 6 rfl (by kernel_rfl) _ rfl ?_ | refine hL.lda 7 rfl (by kernel_rfl) _ rfl ?_)
  refine evC_of (s30 (g.ext hL.mod) fun S2 e2 => ⟨_, rfl, ?_⟩)
  have hL := hL.ext e2
  unfold lineP at hk
  refine ifW_ndec (fun h => ?_) fun h => ?_
  · have hm : ¬ mayP x := fun hm => h (by unfold chkE; rw [if_pos hm])
    rw [if_neg hm] at hk
    have hc : chkE x = 230 := by unfold chkE; rw [if_neg hm]
    rw [hc]
    exact hk S2 hL.mod
  have hm : mayP x := Decidable.byContradiction fun hm => by unfold chkE at h; rw [if_neg hm] at h; cases h
  rw [if_pos hm] at hk
  repeat (first | refine ptrW_of ?_ | refine sameV_of ?_ | (first | refine hL.ld 0 rfl (by kernel_rfl) _ rfl ?_ | refine hL.ld 1 rfl (by kernel_rfl) _ rfl ?_ | refine hL.ld 2 rfl (by kernel_rfl) _ rfl ?_ | refine hL.ld 3 rfl (by kernel_rfl) _ rfl ?_ | refine hL.ld 4 rfl (by kernel_rfl) _ rfl ?_ | refine hL.ld 5 rfl (by kernel_rfl) _ rfl ?_ | refine hL.ld 6 rfl (by kernel_rfl) _ rfl ?_ | refine hL.ld 7 rfl (by kernel_rfl) _ rfl ?_ | refine hL.lda 0 rfl (by kernel_rfl) _ rfl ?_ | refine hL.lda 1 rfl (by kernel_rfl) _ rfl ?_ | refine hL.lda 2 rfl (by kernel_rfl) _ rfl ?_ | refine hL.lda 3 rfl (by kernel_rfl) _ rfl ?_ | refine hL.lda 4 rfl (by kernel_rfl) _ rfl ?_ | refine hL.lda 5 rfl (by kernel_rfl) _ rfl ?_ | refine hL.lda 6 rfl (by kernel_rfl) _ rfl ?_ | refine hL.lda 7 rfl (by kernel_rfl) _ rfl ?_) | (first | refine hLo.ld 0 rfl (by kernel_rfl) _ rfl ?_ | refine hLo.ld 1 rfl (by kernel_rfl) _ rfl ?_ | refine hLo.ld 2 rfl (by kernel_rfl) _ rfl ?_ | refine hLo.ld 3 rfl (by kernel_rfl) _ rfl ?_ | refine hLo.ld 4 rfl (by kernel_rfl) _ rfl ?_ | refine hLo.ld 5 rfl (by kernel_rfl) _ rfl ?_ | refine hLo.ld 6 rfl (by kernel_rfl) _ rfl ?_ | refine hLo.ld 7 rfl (by kernel_rfl) _ rfl ?_ | refine hLo.lda 0 rfl (by kernel_rfl) _ rfl ?_ | refine hLo.lda 1 rfl (by kernel_rfl) _ rfl ?_ | refine hLo.lda 2 rfl (by kernel_rfl) _ rfl ?_ | refine hLo.lda 3 rfl (by kernel_rfl) _ rfl ?_ | refine hLo.lda 4 rfl (by kernel_rfl) _ rfl ?_ | refine hLo.lda 5 rfl (by kernel_rfl) _ rfl ?_ | refine hLo.lda 6 rfl (by kernel_rfl) _ rfl ?_ | refine hLo.lda 7 rfl (by kernel_rfl) _ rfl ?_))
  refine evC_of (s52 (g.ext hL.mod) ⟨_, rfl, ?_⟩)
  refine newW_of fun b4 S4 hb4 ha4 e4 hn4 => ?_
  have hb4S : S.next ≤ b4 := by have := hL.mod.next; omega
  have h0 : Ow strC 1 S4 ⟨some ⟨b4, 0, none⟩, 1, 1⟩ ((wordsO x).take 1) := ⟨b4, [], 1, none, rfl, ha4, .inr ⟨rfl, rfl, by decide⟩⟩
  have hL : Cx noB S S4 [(b1, .cells (cellsO x) none false none)] (slO ⟨some ⟨b4, 0, none⟩, 1, 1⟩) (fun S => Ow strC 1 S ⟨some ⟨b4, 0, none⟩, 1, 1⟩ ((wordsO x).take 1)) :=
    hL.op e4 (fun _ h => h.elim) (fun _ h => h.elim) h0 Ow.frm (fun c hc => by
      obtain ⟨o, e⟩ := hc
      cases e
      exact .inr (by omega)) (fun c hc => h0.lt hc)
  refine hL.new fun b5 S5 hL _ _ => ?_
  (first | refine hL.st 0 _ rfl (by kernel_rfl) rfl (Nat.le_of_ble_eq_true rfl) rfl rfl fun S6 hL hn6 => ?_ | refine hL.st 1 _ rfl (by kernel_rfl) rfl (Nat.le_of_ble_eq_true rfl) rfl rfl fun S6 hL hn6 => ?_ | refine hL.st 2 _ rfl (by kernel_rfl) rfl (Nat.le_of_ble_eq_true rfl) rfl rfl fun S6 hL hn6 => ?_ | refine hL.st 3 _ rfl (by kernel_rfl) rfl (Nat.le_of_ble_eq_true rfl) rfl rfl fun S6 hL hn6 => ?_ | refine hL.st 4 _ rfl (by kernel_rfl) rfl (Nat.le_of_ble_eq_true rfl) rfl rfl fun S6 hL hn6 => ?_ | refine hL.st 5 _ rfl (by kernel_rfl) rfl (Nat.le_of_ble_eq_true rfl) rfl rfl fun S6 hL hn6 => ?_ | refine hL.st 6 _ rfl (by kernel_rfl) rfl (Nat.le_of_ble_eq_true rfl) rfl rfl fun S6 hL hn6 => ?_ | refine hL.st 7 _ rfl (by kernel_rfl) rfl (Nat.le_of_ble_eq_true rfl) rfl rfl fun S6 hL hn6 => ?_)
  repeat (first | refine ptrW_of ?_ | refine sameV_of ?_ | (first | refine hL.ld 0 rfl (by kernel_rfl) _ rfl ?_ | refine hL.ld 1 rfl (by kernel_rfl) _ rfl ?_ | refine hL.ld 2 rfl (by kernel_rfl) _ rfl ?_ | refine hL.ld 3 rfl (by kernel_rfl) _ rfl ?_ | refine hL.ld 4 rfl (by kernel_rfl) _ rfl ?_ | refine hL.ld 5 rfl (by kernel_rfl) _ rfl ?_ | refine hL.ld 6 rfl (by kernel_rfl) _ rfl ?_ | refine hL.ld 7 rfl (by kernel_rfl) _ rfl ?_ | refine hL.lda 0 rfl (by kernel_rfl) _ rfl ?_ | refine hL.lda 1 rfl (by kernel_rfl) _ rfl ?_ | refine hL.lda 2 rfl (by kernel_rfl) _ rfl ?_ | refine hL.lda 3 rfl (by kernel_rfl) _ rfl ?_ | refine hL.lda 4 rfl (by kernel_rfl) _ rfl ?_ | refine hL.lda 5 rfl (by kernel_rfl) _ rfl ?_ | refine hL.lda 6 rfl (by kernel_rfl) _ rfl ?_ | refine hL.lda 7 rfl (by kernel_rfl) _ rfl ?_) | (first | refine hLo.ld 0 rfl (by kernel_rfl) _ rfl ?_ | refine hLo.ld 1 rfl (by kernel_rfl) _ rfl ?_ | refine hLo.ld 2 rfl (by kernel_rfl) _ rfl ?_ | refine hLo.ld 3 rfl (by kernel_rfl) _ rfl ?_ | refine hLo.ld 4 rfl (by kernel_rfl) _ rfl ?_ | refine hLo.ld 5 rfl (by kernel_rfl) _ rfl ?_ | refine hLo.ld 6 rfl (by kernel_rfl) _ rfl ?_ | refine hLo.ld 7 rfl (by kernel_rfl) _ rfl ?_ | refine hLo.lda 0 rfl (by kernel_rfl) _ rfl ?_ | refine hLo.lda 1 rfl (by kernel_rfl) _ rfl ?_ | refine hLo.lda 2 rfl (by kernel_rfl) _ rfl ?_ | refine hLo.lda 3 rfl (by kernel_rfl) _ rfl ?_ | refine hLo.lda 4 rfl (by kernel_rfl) _ rfl ?_ | refine hLo.lda 5 rfl (by kernel_rfl) _ rfl ?_ | refine hLo.lda 6 rfl (by kernel_rfl) _ rfl ?_ | refine hLo.lda 7 rfl (by kernel_rfl) _ rfl ?_))
  refine evC_of (w53 _ ?_)
  unfold c53
  refine hL.new fun cK S7 hL _ _ => ?_
  refine ⟨_, rfl, ?_⟩
  refine hL.new fun b8 S8 hL _ _ => ?_
  rintro b9 S9 L rfl rfl hLL hR
  have hL := hL.record (o := L .ready none)
  generalize (S8.alloc (L .ready none)).2 = S9 at hL ⊢
  generalize hb9 : S8.next = b9 at hL hR ⊢
  have hpl := parts_len x.1
  refine WG_of rfl (s74 (kind := x.1) (fun i S' => ∃ s, Cx noB S S' (boxesL b9 b8 cK b5 b1 (L .ready none) x s) (slO s) (fun S => Ow strC 1 S s ((wordsO x).take (i + 1))) ∧ ∀ c, slO s c → S.next ≤ c) (hL.at 2 rfl) ⟨⟨some ⟨b4, 0, none⟩, 1, 1⟩, hL, fun c hc => by
      obtain ⟨o, e⟩ := hc
      cases e
      exact hb4S⟩ ?_ ?_)
  · rintro i hi S' ⟨s, hL, hs⟩
    refine hR _ S' _ ?_
    have hsucc := words_succ x hi
    generalize hc : (((partsB x.1)[i].toNat : Nat) : Int) = c at hsucc ⊢
    (first | refine hL.has 0 rfl ?_ | refine hL.has 1 rfl ?_ | refine hL.has 2 rfl ?_ | refine hL.has 3 rfl ?_ | refine hL.has 4 rfl ?_ | refine hL.has 5 rfl ?_ | refine hL.has 6 rfl ?_ | refine hL.has 7 rfl ?_)
    (first | refine hL.has 0 rfl ?_ | refine hL.has 1 rfl ?_ | refine hL.has 2 rfl ?_ | refine hL.has 3 rfl ?_ | refine hL.has 4 rfl ?_ | refine hL.has 5 rfl ?_ | refine hL.has 6 rfl ?_ | refine hL.has 7 rfl ?_)
    (first | refine hL.upd 0 rfl fun S' hL hn' => ?_ | refine hL.upd 1 rfl fun S' hL hn' => ?_ | refine hL.upd 2 rfl fun S' hL hn' => ?_ | refine hL.upd 3 rfl fun S' hL hn' => ?_ | refine hL.upd 4 rfl fun S' hL hn' => ?_ | refine hL.upd 5 rfl fun S' hL hn' => ?_ | refine hL.upd 6 rfl fun S' hL hn' => ?_ | refine hL.upd 7 rfl fun S' hL hn' => ?_)
    repeat (first | refine ptrW_of ?_ | refine sameV_of ?_ | (first | refine hL.ld 0 rfl (by kernel_rfl) _ rfl ?_ | refine hL.ld 1 rfl (by kernel_rfl) _ rfl ?_ | refine hL.ld 2 rfl (by kernel_rfl) _ rfl ?_ | refine hL.ld 3 rfl (by kernel_rfl) _ rfl ?_ | refine hL.ld 4 rfl (by kernel_rfl) _ rfl ?_ | refine hL.ld 5 rfl (by kernel_rfl) _ rfl ?_ | refine hL.ld 6 rfl (by kernel_rfl) _ rfl ?_ | refine hL.ld 7 rfl (by kernel_rfl) _ rfl ?_ | refine hL.lda 0 rfl (by kernel_rfl) _ rfl ?_ | refine hL.lda 1 rfl (by kernel_rfl) _ rfl ?_ | refine hL.lda 2 rfl (by kernel_rfl) _ rfl ?_ | refine hL.lda 3 rfl (by kernel_rfl) _ rfl ?_ | refine hL.lda 4 rfl (by kernel_rfl) _ rfl ?_ | refine hL.lda 5 rfl (by kernel_rfl) _ rfl ?_ | refine hL.lda 6 rfl (by kernel_rfl) _ rfl ?_ | refine hL.lda 7 rfl (by kernel_rfl) _ rfl ?_) | (first | refine hLo.ld 0 rfl (by kernel_rfl) _ rfl ?_ | refine hLo.ld 1 rfl (by kernel_rfl) _ rfl ?_ | refine hLo.ld 2 rfl (by kernel_rfl) _ rfl ?_ | refine hLo.ld 3 rfl (by kernel_rfl) _ rfl ?_ | refine hLo.ld 4 rfl (by kernel_rfl) _ rfl ?_ | refine hLo.ld 5 rfl (by kernel_rfl) _ rfl ?_ | refine hLo.ld 6 rfl (by kernel_rfl) _ rfl ?_ | refine hLo.ld 7 rfl (by kernel_rfl) _ rfl ?_ | refine hLo.lda 0 rfl (by kernel_rfl) _ rfl ?_ | refine hLo.lda 1 rfl (by kernel_rfl) _ rfl ?_ | refine hLo.lda 2 rfl (by kernel_rfl) _ rfl ?_ | refine hLo.lda 3 rfl (by kernel_rfl) _ rfl ?_ | refine hLo.lda 4 rfl (by kernel_rfl) _ rfl ?_ | refine hLo.lda 5 rfl (by kernel_rfl) _ rfl ?_ | refine hLo.lda 6 rfl (by kernel_rfl) _ rfl ?_ | refine hLo.lda 7 rfl (by kernel_rfl) _ rfl ?_))
    refine evC_of (s33 (g.ext hL.mod) hw.n fun S12 e12 => ⟨_, rfl, ?_⟩)
    have hL := hL.ext e12
    have n12 := hL.mod.next
    intro k3 hk3
    have key : ∀ S13, Ext S12 S13 → k3 (wordO x c) S13 := by
      intro S13 e13
      have hL := hL.ext e13
      refine hk3 _ _ ?_
      (first | refine hL.ld 0 rfl (by kernel_rfl) _ rfl ?_ | refine hL.ld 1 rfl (by kernel_rfl) _ rfl ?_ | refine hL.ld 2 rfl (by kernel_rfl) _ rfl ?_ | refine hL.ld 3 rfl (by kernel_rfl) _ rfl ?_ | refine hL.ld 4 rfl (by kernel_rfl) _ rfl ?_ | refine hL.ld 5 rfl (by kernel_rfl) _ rfl ?_ | refine hL.ld 6 rfl (by kernel_rfl) _ rfl ?_ | refine hL.ld 7 rfl (by kernel_rfl) _ rfl ?_ | refine hL.lda 0 rfl (by kernel_rfl) _ rfl ?_ | refine hL.lda 1 rfl (by kernel_rfl) _ rfl ?_ | refine hL.lda 2 rfl (by kernel_rfl) _ rfl ?_ | refine hL.lda 3 rfl (by kernel_rfl) _ rfl ?_ | refine hL.lda 4 rfl (by kernel_rfl) _ rfl ?_ | refine hL.lda 5 rfl (by kernel_rfl) _ rfl ?_ | refine hL.lda 6 rfl (by kernel_rfl) _ rfl ?_ | refine hL.lda 7 rfl (by kernel_rfl) _ rfl ?_)
      refine newW_of fun b12 S14 hb12 ha12 e14 hn14 => ?_
      have hL := hL.ext e14
      refine app_str hL.p ha12 (by simp; omega) fun s' S15 g' m hs' => ?_
      have hL : Cx noB S S15 (boxesL b9 b8 cK b5 b1 (L .busy none) x s) (slO s') (fun S => Ow strC 1 S s' ((wordsO x).take (i + 1) ++ [wordO x c])) :=
        hL.op m (fun _ h => h) (fun c hc hlt => by have := hs c hc; omega) g' Ow.frm hs' (fun c hc => g'.lt hc)
      (first | refine hL.st 0 _ rfl (by kernel_rfl) rfl (Nat.le_of_ble_eq_true rfl) rfl rfl fun S16 hL hn16 => ?_ | refine hL.st 1 _ rfl (by kernel_rfl) rfl (Nat.le_of_ble_eq_true rfl) rfl rfl fun S16 hL hn16 => ?_ | refine hL.st 2 _ rfl (by kernel_rfl) rfl (Nat.le_of_ble_eq_true rfl) rfl rfl fun S16 hL hn16 => ?_ | refine hL.st 3 _ rfl (by kernel_rfl) rfl (Nat.le_of_ble_eq_true rfl) rfl rfl fun S16 hL hn16 => ?_ | refine hL.st 4 _ rfl (by kernel_rfl) rfl (Nat.le_of_ble_eq_true rfl) rfl rfl fun S16 hL hn16 => ?_ | refine hL.st 5 _ rfl (by kernel_rfl) rfl (Nat.le_of_ble_eq_true rfl) rfl rfl fun S16 hL hn16 => ?_ | refine hL.st 6 _ rfl (by kernel_rfl) rfl (Nat.le_of_ble_eq_true rfl) rfl rfl fun S16 hL hn16 => ?_ | refine hL.st 7 _ rfl (by kernel_rfl) rfl (Nat.le_of_ble_eq_true rfl) rfl rfl fun S16 hL hn16 => ?_)
      (first | refine hL.has 0 rfl ?_ | refine hL.has 1 rfl ?_ | refine hL.has 2 rfl ?_ | refine hL.has 3 rfl ?_ | refine hL.has 4 rfl ?_ | refine hL.has 5 rfl ?_ | refine hL.has 6 rfl ?_ | refine hL.has 7 rfl ?_)
      refine hL.upd 0 rfl fun S17 hL hn' => ?_
      exact ⟨fun _ => ⟨s', by rw [hsucc]; exact hL, fun c hc => (hs' c hc).elim (hs c) fun h => by have := e12.next; have := e13.next; have := e14.next; omega⟩, fun h => by cases h⟩
    have hgo : ∀ {w : List UInt8} {S13 : St}, wordO x c = w → Ext S12 S13 → k3 w S13 := fun h e => h ▸ key _ e
    refine ifW_dec (fun h1 => ?_) fun h1 => ?_
    · repeat (first | refine ptrW_of ?_ | refine sameV_of ?_ | (first | refine hL.ld 0 rfl (by kernel_rfl) _ rfl ?_ | refine hL.ld 1 rfl (by kernel_rfl) _ rfl ?_ | refine hL.ld 2 rfl (by kernel_rfl) _ rfl ?_ | refine hL.ld 3 rfl (by kernel_rfl) _ rfl ?_ | refine hL.ld 4 rfl (by kernel_rfl) _ rfl ?_ | refine hL.ld 5 rfl (by kernel_rfl) _ rfl ?_ | refine hL.ld 6 rfl (by kernel_rfl) _ rfl ?_ | refine hL.ld 7 rfl (by kernel_rfl) _ rfl ?_ | refine hL.lda 0 rfl (by kernel_rfl) _ rfl ?_ | refine hL.lda 1 rfl (by kernel_rfl) _ rfl ?_ | refine hL.lda 2 rfl (by kernel_rfl) _ rfl ?_ | refine hL.lda 3 rfl (by kernel_rfl) _ rfl ?_ | refine hL.lda 4 rfl (by kernel_rfl) _ rfl ?_ | refine hL.lda 5 rfl (by kernel_rfl) _ rfl ?_ | refine hL.lda 6 rfl (by kernel_rfl) _ rfl ?_ | refine hL.lda 7 rfl (by kernel_rfl) _ rfl ?_) | (first | refine hLo.ld 0 rfl (by kernel_rfl) _ rfl ?_ | refine hLo.ld 1 rfl (by kernel_rfl) _ rfl ?_ | refine hLo.ld 2 rfl (by kernel_rfl) _ rfl ?_ | refine hLo.ld 3 rfl (by kernel_rfl) _ rfl ?_ | refine hLo.ld 4 rfl (by kernel_rfl) _ rfl ?_ | refine hLo.ld 5 rfl (by kernel_rfl) _ rfl ?_ | refine hLo.ld 6 rfl (by kernel_rfl) _ rfl ?_ | refine hLo.ld 7 rfl (by kernel_rfl) _ rfl ?_ | refine hLo.lda 0 rfl (by kernel_rfl) _ rfl ?_ | refine hLo.lda 1 rfl (by kernel_rfl) _ rfl ?_ | refine hLo.lda 2 rfl (by kernel_rfl) _ rfl ?_ | refine hLo.lda 3 rfl (by kernel_rfl) _ rfl ?_ | refine hLo.lda 4 rfl (by kernel_rfl) _ rfl ?_ | refine hLo.lda 5 rfl (by kernel_rfl) _ rfl ?_ | refine hLo.lda 6 rfl (by kernel_rfl) _ rfl ?_ | refine hLo.lda 7 rfl (by kernel_rfl) _ rfl ?_))
      exact evC_of (s33 (g.ext hL.mod) hw.r fun S13 e13 => ⟨_, rfl, hgo (by unfold wordO; rw [if_pos h1]) e13⟩)
    refine ifW_dec (fun h2 => ?_) fun h2 => ?_
    · repeat (first | refine ptrW_of ?_ | refine sameV_of ?_ | (first | refine hL.ld 0 rfl (by kernel_rfl) _ rfl ?_ | refine hL.ld 1 rfl (by kernel_rfl) _ rfl ?_ | refine hL.ld 2 rfl (by kernel_rfl) _ rfl ?_ | refine hL.ld 3 rfl (by kernel_rfl) _ rfl ?_ | refine hL.ld 4 rfl (by kernel_rfl) _ rfl ?_ | refine hL.ld 5 rfl (by kernel_rfl) _ rfl ?_ | refine hL.ld 6 rfl (by kernel_rfl) _ rfl ?_ | refine hL.ld 7 rfl (by kernel_rfl) _ rfl ?_ | refine hL.lda 0 rfl (by kernel_rfl) _ rfl ?_ | refine hL.lda 1 rfl (by kernel_rfl) _ rfl ?_ | refine hL.lda 2 rfl (by kernel_rfl) _ rfl ?_ | refine hL.lda 3 rfl (by kernel_rfl) _ rfl ?_ | refine hL.lda 4 rfl (by kernel_rfl) _ rfl ?_ | refine hL.lda 5 rfl (by kernel_rfl) _ rfl ?_ | refine hL.lda 6 rfl (by kernel_rfl) _ rfl ?_ | refine hL.lda 7 rfl (by kernel_rfl) _ rfl ?_) | (first | refine hLo.ld 0 rfl (by kernel_rfl) _ rfl ?_ | refine hLo.ld 1 rfl (by kernel_rfl) _ rfl ?_ | refine hLo.ld 2 rfl (by kernel_rfl) _ rfl ?_ | refine hLo.ld 3 rfl (by kernel_rfl) _ rfl ?_ | refine hLo.ld 4 rfl (by kernel_rfl) _ rfl ?_ | refine hLo.ld 5 rfl (by kernel_rfl) _ rfl ?_ | refine hLo.ld 6 rfl (by kernel_rfl) _ rfl ?_ | refine hLo.ld 7 rfl (by kernel_rfl) _ rfl ?_ | refine hLo.lda 0 rfl (by kernel_rfl) _ rfl ?_ | refine hLo.lda 1 rfl (by kernel_rfl) _ rfl ?_ | refine hLo.lda 2 rfl (by kernel_rfl) _ rfl ?_ | refine hLo.lda 3 rfl (by kernel_rfl) _ rfl ?_ | refine hLo.lda 4 rfl (by kernel_rfl) _ rfl ?_ | refine hLo.lda 5 rfl (by kernel_rfl) _ rfl ?_ | refine hLo.lda 6 rfl (by kernel_rfl) _ rfl ?_ | refine hLo.lda 7 rfl (by kernel_rfl) _ rfl ?_))
      exact evC_of (s56 (g.ext hL.mod) hw.d.1 hw.d.2 fun S13 e13 => ⟨_, rfl, hgo (by unfold wordO; rw [if_neg h1, if_pos h2]) e13⟩)
    refine ifW_dec (fun h3 => ?_) fun h3 => ?_
    · repeat (first | refine ptrW_of ?_ | refine sameV_of ?_ | (first | refine hL.ld 0 rfl (by kernel_rfl) _ rfl ?_ | refine hL.ld 1 rfl (by kernel_rfl) _ rfl ?_ | refine hL.ld 2 rfl (by kernel_rfl) _ rfl ?_ | refine hL.ld 3 rfl (by kernel_rfl) _ rfl ?_ | refine hL.ld 4 rfl (by kernel_rfl) _ rfl ?_ | refine hL.ld 5 rfl (by kernel_rfl) _ rfl ?_ | refine hL.ld 6 rfl (by kernel_rfl) _ rfl ?_ | refine hL.ld 7 rfl (by kernel_rfl) _ rfl ?_ | refine hL.lda 0 rfl (by kernel_rfl) _ rfl ?_ | refine hL.lda 1 rfl (by kernel_rfl) _ rfl ?_ | refine hL.lda 2 rfl (by kernel_rfl) _ rfl ?_ | refine hL.lda 3 rfl (by kernel_rfl) _ rfl ?_ | refine hL.lda 4 rfl (by kernel_rfl) _ rfl ?_ | refine hL.lda 5 rfl (by kernel_rfl) _ rfl ?_ | refine hL.lda 6 rfl (by kernel_rfl) _ rfl ?_ | refine hL.lda 7 rfl (by kernel_rfl) _ rfl ?_) | (first | refine hLo.ld 0 rfl (by kernel_rfl) _ rfl ?_ | refine hLo.ld 1 rfl (by kernel_rfl) _ rfl ?_ | refine hLo.ld 2 rfl (by kernel_rfl) _ rfl ?_ | refine hLo.ld 3 rfl (by kernel_rfl) _ rfl ?_ | refine hLo.ld 4 rfl (by kernel_rfl) _ rfl ?_ | refine hLo.ld 5 rfl (by kernel_rfl) _ rfl ?_ | refine hLo.ld 6 rfl (by kernel_rfl) _ rfl ?_ | refine hLo.ld 7 rfl (by kernel_rfl) _ rfl ?_ | refine hLo.lda 0 rfl (by kernel_rfl) _ rfl ?_ | refine hLo.lda 1 rfl (by kernel_rfl) _ rfl ?_ | refine hLo.lda 2 rfl (by kernel_rfl) _ rfl ?_ | refine hLo.lda 3 rfl (by kernel_rfl) _ rfl ?_ | refine hLo.lda 4 rfl (by kernel_rfl) _ rfl ?_ | refine hLo.lda 5 rfl (by kernel_rfl) _ rfl ?_ | refine hLo.lda 6 rfl (by kernel_rfl) _ rfl ?_ | refine hLo.lda 7 rfl (by kernel_rfl) _ rfl ?_))
      exact evC_of (s33 (g.ext hL.mod) hw.a fun S13 e13 => ⟨_, rfl, hgo (by unfold wordO; rw [if_neg h1, if_neg h2, if_pos h3]) e13⟩)
    refine ifW_dec (fun h4 => ?_) fun h4 => ?_
    · repeat (first | refine ptrW_of ?_ | refine sameV_of ?_ | (first | refine hL.ld 0 rfl (by kernel_rfl) _ rfl ?_ | refine hL.ld 1 rfl (by kernel_rfl) _ rfl ?_ | refine hL.ld 2 rfl (by kernel_rfl) _ rfl ?_ | refine hL.ld 3 rfl (by kernel_rfl) _ rfl ?_ | refine hL.ld 4 rfl (by kernel_rfl) _ rfl ?_ | refine hL.ld 5 rfl (by kernel_rfl) _ rfl ?_ | refine hL.ld 6 rfl (by kernel_rfl) _ rfl ?_ | refine hL.ld 7 rfl (by kernel_rfl) _ rfl ?_ | refine hL.lda 0 rfl (by kernel_rfl) _ rfl ?_ | refine hL.lda 1 rfl (by kernel_rfl) _ rfl ?_ | refine hL.lda 2 rfl (by kernel_rfl) _ rfl ?_ | refine hL.lda 3 rfl (by kernel_rfl) _ rfl ?_ | refine hL.lda 4 rfl (by kernel_rfl) _ rfl ?_ | refine hL.lda 5 rfl (by kernel_rfl) _ rfl ?_ | refine hL.lda 6 rfl (by kernel_rfl) _ rfl ?_ | refine hL.lda 7 rfl (by kernel_rfl) _ rfl ?_) | (first | refine hLo.ld 0 rfl (by kernel_rfl) _ rfl ?_ | refine hLo.ld 1 rfl (by kernel_rfl) _ rfl ?_ | refine hLo.ld 2 rfl (by kernel_rfl) _ rfl ?_ | refine hLo.ld 3 rfl (by kernel_rfl) _ rfl ?_ | refine hLo.ld 4 rfl (by kernel_rfl) _ rfl ?_ | refine hLo.ld 5 rfl (by kernel_rfl) _ rfl ?_ | refine hLo.ld 6 rfl (by kernel_rfl) _ rfl ?_ | refine hLo.ld 7 rfl (by kernel_rfl) _ rfl ?_ | refine hLo.lda 0 rfl (by kernel_rfl) _ rfl ?_ | refine hLo.lda 1 rfl (by kernel_rfl) _ rfl ?_ | refine hLo.lda 2 rfl (by kernel_rfl) _ rfl ?_ | refine hLo.lda 3 rfl (by kernel_rfl) _ rfl ?_ | refine hLo.lda 4 rfl (by kernel_rfl) _ rfl ?_ | refine hLo.lda 5 rfl (by kernel_rfl) _ rfl ?_ | refine hLo.lda 6 rfl (by kernel_rfl) _ rfl ?_ | refine hLo.lda 7 rfl (by kernel_rfl) _ rfl ?_))
      exact evC_of (s33 (g.ext hL.mod) hw.w fun S13 e13 => ⟨_, rfl, hgo (by unfold wordO; rw [if_neg h1, if_neg h2, if_neg h3, if_pos h4]) e13⟩)
    refine ifW_dec (fun h5 => ?_) fun h5 => ?_
    · repeat (first | refine ptrW_of ?_ | refine sameV_of ?_ | (first | refine hL.ld 0 rfl (by kernel_rfl) _ rfl ?_ | refine hL.ld 1 rfl (by kernel_rfl) _ rfl ?_ | refine hL.ld 2 rfl (by kernel_rfl) _ rfl ?_ | refine hL.ld 3 rfl (by kernel_rfl) _ rfl ?_ | refine hL.ld 4 rfl (by kernel_rfl) _ rfl ?_ | refine hL.ld 5 rfl (by kernel_rfl) _ rfl ?_ | refine hL.ld 6 rfl (by kernel_rfl) _ rfl ?_ | refine hL.ld 7 rfl (by kernel_rfl) _ rfl ?_ | refine hL.lda 0 rfl (by kernel_rfl) _ rfl ?_ | refine hL.lda 1 rfl (by kernel_rfl) _ rfl ?_ | refine hL.lda 2 rfl (by kernel_rfl) _ rfl ?_ | refine hL.lda 3 rfl (by kernel_rfl) _ rfl ?_ | refine hL.lda 4 rfl (by kernel_rfl) _ rfl ?_ | refine hL.lda 5 rfl (by kernel_rfl) _ rfl ?_ | refine hL.lda 6 rfl (by kernel_rfl) _ rfl ?_ | refine hL.lda 7 rfl (by kernel_rfl) _ rfl ?_) | (first | refine hLo.ld 0 rfl (by kernel_rfl) _ rfl ?_ | refine hLo.ld 1 rfl (by kernel_rfl) _ rfl ?_ | refine hLo.ld 2 rfl (by kernel_rfl) _ rfl ?_ | refine hLo.ld 3 rfl (by kernel_rfl) _ rfl ?_ | refine hLo.ld 4 rfl (by kernel_rfl) _ rfl ?_ | refine hLo.ld 5 rfl (by kernel_rfl) _ rfl ?_ | refine hLo.ld 6 rfl (by kernel_rfl) _ rfl ?_ | refine hLo.ld 7 rfl (by kernel_rfl) _ rfl ?_ | refine hLo.lda 0 rfl (by kernel_rfl) _ rfl ?_ | refine hLo.lda 1 rfl (by kernel_rfl) _ rfl ?_ | refine hLo.lda 2 rfl (by kernel_rfl) _ rfl ?_ | refine hLo.lda 3 rfl (by kernel_rfl) _ rfl ?_ | refine hLo.lda 4 rfl (by kernel_rfl) _ rfl ?_ | refine hLo.lda 5 rfl (by kernel_rfl) _ rfl ?_ | refine hLo.lda 6 rfl (by kernel_rfl) _ rfl ?_ | refine hLo.lda 7 rfl (by kernel_rfl) _ rfl ?_))
      refine ifW_dec (fun h6 => ?_) fun h6 => ?_
      · exact hgo (by unfold wordO; rw [if_neg h1, if_neg h2, if_neg h3, if_neg h4, if_pos ⟨h5, h6⟩]; rfl) (Mod.refl _ _)
      · exact hgo (by unfold wordO; rw [if_neg h1, if_neg h2, if_neg h3, if_neg h4, if_neg (fun h => h6 h.2)]) (Mod.refl _ _)
    · exact hgo (by unfold wordO; rw [if_neg h1, if_neg h2, if_neg h3, if_neg h4, if_neg (fun h => h5 h.1)]) (Mod.refl _ _)
  · rintro S' ⟨s, hL, hs⟩
    refine .inl ?_
    have hall : (wordsO x).take ((partsB x.1).length + 1) = wordsO x := List.take_of_length_le (by simp [wordsO])
    rw [hall] at hL
    (first | refine hL.has 0 rfl ?_ | refine hL.has 1 rfl ?_ | refine hL.has 2 rfl ?_ | refine hL.has 3 rfl ?_ | refine hL.has 4 rfl ?_ | refine hL.has 5 rfl ?_ | refine hL.has 6 rfl ?_ | refine hL.has 7 rfl ?_)
    (first | refine hL.upd 0 rfl fun S' hL hn' => ?_ | refine hL.upd 1 rfl fun S' hL hn' => ?_ | refine hL.upd 2 rfl fun S' hL hn' => ?_ | refine hL.upd 3 rfl fun S' hL hn' => ?_ | refine hL.upd 4 rfl fun S' hL hn' => ?_ | refine hL.upd 5 rfl fun S' hL hn' => ?_ | refine hL.upd 6 rfl fun S' hL hn' => ?_ | refine hL.upd 7 rfl fun S' hL hn' => ?_)
    (first | refine hL.ld 0 rfl (by kernel_rfl) _ rfl ?_ | refine hL.ld 1 rfl (by kernel_rfl) _ rfl ?_ | refine hL.ld 2 rfl (by kernel_rfl) _ rfl ?_ | refine hL.ld 3 rfl (by kernel_rfl) _ rfl ?_ | refine hL.ld 4 rfl (by kernel_rfl) _ rfl ?_ | refine hL.ld 5 rfl (by kernel_rfl) _ rfl ?_ | refine hL.ld 6 rfl (by kernel_rfl) _ rfl ?_ | refine hL.ld 7 rfl (by kernel_rfl) _ rfl ?_ | refine hL.lda 0 rfl (by kernel_rfl) _ rfl ?_ | refine hL.lda 1 rfl (by kernel_rfl) _ rfl ?_ | refine hL.lda 2 rfl (by kernel_rfl) _ rfl ?_ | refine hL.lda 3 rfl (by kernel_rfl) _ rfl ?_ | refine hL.lda 4 rfl (by kernel_rfl) _ rfl ?_ | refine hL.lda 5 rfl (by kernel_rfl) _ rfl ?_ | refine hL.lda 6 rfl (by kernel_rfl) _ rfl ?_ | refine hL.lda 7 rfl (by kernel_rfl) _ rfl ?_)
    have hll := line_len hw
    refine evC_of (s34 (hL.p.of fun _ => rfl) (by simp [wordsO]) (by simp [wordsO]; omega) (by unfold lineL at hll; omega) ⟨_, rfl, ?_⟩)
    (first | refine hL.has 0 rfl ?_ | refine hL.has 1 rfl ?_ | refine hL.has 2 rfl ?_ | refine hL.has 3 rfl ?_ | refine hL.has 4 rfl ?_ | refine hL.has 5 rfl ?_ | refine hL.has 6 rfl ?_ | refine hL.has 7 rfl ?_)
    refine hL.upd 1 rfl fun S17 hL hn' => ?_
    exact hk S17 hL.mod
/-! ### The document's -/
def refS1 (x : Ord) : List UInt8 := if x.1 = 1 ∨ 6 ≤ x.1 then (nmL x.1 ++ [32]) ++ dec x.2.1.toNat else nmL x.1
def refS2 (x : Ord) : List UInt8 := if x.1 = 1 then (refS1 x ++ [32]) ++ dec x.2.2.2.2.2.toNat else if x.1 = 9 ∧ x.2.2.1 < 0 then refS1 x ++ [32, 97, 108, 108] else if ¬ x.1 = 6 then (refS1 x ++ [32]) ++ dec x.2.2.1.toNat else refS1 x
def refL (x : Ord) : List UInt8 := if x.1 = 5 then (((refS2 x ++ [32]) ++ dec x.2.2.2.1.toNat) ++ [32]) ++ dec x.2.2.2.2.1.toNat else refS2 x
theorem refL_line {x : Ord} (h : mayP x) : refL x = lineL x := by
  obtain ⟨k, r, n, a, w, d⟩ := x
  unfold mayP at h
  dsimp only at h
  rcases h with ⟨rfl, h⟩ | ⟨rfl | rfl | rfl, h⟩ | ⟨rfl, h⟩ | ⟨rfl, h⟩ | ⟨rfl, h⟩ | ⟨rfl, h⟩ | ⟨rfl, h⟩
  · simp [refL, refS2, refS1, lineL, wordsO, partsB, wordO, jn_cons, jn_one, itoa_nn h.1]
  · simp [refL, refS2, refS1, lineL, wordsO, partsB, wordO, jn_cons, jn_one, itoa_nn (show 0 ≤ n by omega)]
  · simp [refL, refS2, refS1, lineL, wordsO, partsB, wordO, jn_cons, jn_one, itoa_nn (show 0 ≤ n by omega)]
  · simp [refL, refS2, refS1, lineL, wordsO, partsB, wordO, jn_cons, jn_one, itoa_nn (show 0 ≤ n by omega)]
  · simp [refL, refS2, refS1, lineL, wordsO, partsB, wordO, jn_cons, jn_one, itoa_nn (show 0 ≤ n by omega), itoa_nn (show 0 ≤ a by omega), itoa_nn (show 0 ≤ w by omega)]
  · simp [refL, refS2, refS1, lineL, wordsO, partsB, wordO, jn_cons, jn_one, itoa_nn h.1]
  · simp [refL, refS2, refS1, lineL, wordsO, partsB, wordO, jn_cons, jn_one, itoa_nn h.1, itoa_nn (show 0 ≤ n by omega)]
  · simp [refL, refS2, refS1, lineL, wordsO, partsB, wordO, jn_cons, jn_one, itoa_nn h.1, itoa_nn (show 0 ≤ n by omega)]
  · by_cases hn : n < 0
    · simp [refL, refS2, refS1, lineL, wordsO, partsB, wordO, jn_cons, jn_one, itoa_nn h.1, hn]
    · simp [refL, refS2, refS1, lineL, wordsO, partsB, wordO, jn_cons, jn_one, itoa_nn h.1, itoa_nn (show 0 ≤ n by omega), hn]
theorem s44i {S : St} {n : Int} {k : Value → St → Prop} (h0 : 0 ≤ n) (hn : n < 18446744073709551616) (hk : ∀ S', Ext S S' → k (strV (dec n.toNat)) S') : WC E0 62 [.int .u64 n] S k := by
  have := s62 (S := S) (u := n.toNat) (k := k) (by omega) hk
  rwa [show ((n.toNat : Nat) : Int) = n by omega] at this
theorem nmL_len (k : Int) : (nmL k).length ≤ 24 := by
  unfold nmL
  split
  · have : ∀ w ∈ tabW, w.length ≤ 24 := by decide
    have hk : k.toNat < tabW.length := by show k.toNat < 10; omega
    rw [List.getD_eq_getElem?_getD, List.getElem?_eq_getElem hk]
    exact this _ (List.getElem_mem hk)
  · simp
theorem s37 {S : St} {x : Ord} {k : Value → St → Prop} (hw : OrdW x) (hk : ∀ S', Ext S S' → k (.tuple #[strV (lineP x).1, .int .i64 (lineP x).2]) S') : WC E0 37 [sv G36 x] S k := by
  refine w37 x ?_
  unfold c37
  have hL := Hld.start noB S
  refine hL.new fun b1 S1 hL _ _ => ?_
  (first | refine hL.ld 0 rfl (by kernel_rfl) _ rfl ?_ | refine hL.ld 1 rfl (by kernel_rfl) _ rfl ?_ | refine hL.ld 2 rfl (by kernel_rfl) _ rfl ?_ | refine hL.ld 3 rfl (by kernel_rfl) _ rfl ?_ | refine hL.ld 4 rfl (by kernel_rfl) _ rfl ?_ | refine hL.ld 5 rfl (by kernel_rfl) _ rfl ?_ | refine hL.ld 6 rfl (by kernel_rfl) _ rfl ?_ | refine hL.ld 7 rfl (by kernel_rfl) _ rfl ?_ | refine hL.lda 0 rfl (by kernel_rfl) _ rfl ?_ | refine hL.lda 1 rfl (by kernel_rfl) _ rfl ?_ | refine hL.lda 2 rfl (by kernel_rfl) _ rfl ?_ | refine hL.lda 3 rfl (by kernel_rfl) _ rfl ?_ | refine hL.lda 4 rfl (by kernel_rfl) _ rfl ?_ | refine hL.lda 5 rfl (by kernel_rfl) _ rfl ?_ | refine hL.lda 6 rfl (by kernel_rfl) _ rfl ?_ | refine hL.lda 7 rfl (by kernel_rfl) _ rfl ?_)
  refine evC_of (s60 fun S2 e2 t ht => ⟨t, rfl, ?_⟩)
  have hL := hL.ext e2
  unfold lineP at hk
  refine ifW_of (fun h => ?_) fun h => ?_
  · have hm : ¬ mayP x := not_of ht (by simpa using h)
    rw [if_neg hm] at hk
    exact hk S2 hL.mod
  have hm : mayP x := ht.1 (by simpa using h)
  rw [if_pos hm, ← refL_line hm] at hk
  obtain ⟨wk, wr, wn, wa, ww, wd⟩ := hw
  unfold i64 at wk wr wn wa ww
  have hnm := nmL_len x.1
  have dl : ∀ {n : Int}, n < 18446744073709551616 → (dec n.toNat).length ≤ 20 := fun h => dec_len (by omega)
  have lr := dl (n := x.2.1) (by omega)
  have ln := dl (n := x.2.2.1) (by omega)
  have la := dl (n := x.2.2.2.1) (by omega)
  have lw := dl (n := x.2.2.2.2.1) (by omega)
  have ld := dl (n := x.2.2.2.2.2) (by omega)
  unfold mayP at hm
  repeat (first | refine ptrW_of ?_ | refine sameV_of ?_ | (first | refine hL.ld 0 rfl (by kernel_rfl) _ rfl ?_ | refine hL.ld 1 rfl (by kernel_rfl) _ rfl ?_ | refine hL.ld 2 rfl (by kernel_rfl) _ rfl ?_ | refine hL.ld 3 rfl (by kernel_rfl) _ rfl ?_ | refine hL.ld 4 rfl (by kernel_rfl) _ rfl ?_ | refine hL.ld 5 rfl (by kernel_rfl) _ rfl ?_ | refine hL.ld 6 rfl (by kernel_rfl) _ rfl ?_ | refine hL.ld 7 rfl (by kernel_rfl) _ rfl ?_ | refine hL.lda 0 rfl (by kernel_rfl) _ rfl ?_ | refine hL.lda 1 rfl (by kernel_rfl) _ rfl ?_ | refine hL.lda 2 rfl (by kernel_rfl) _ rfl ?_ | refine hL.lda 3 rfl (by kernel_rfl) _ rfl ?_ | refine hL.lda 4 rfl (by kernel_rfl) _ rfl ?_ | refine hL.lda 5 rfl (by kernel_rfl) _ rfl ?_ | refine hL.lda 6 rfl (by kernel_rfl) _ rfl ?_ | refine hL.lda 7 rfl (by kernel_rfl) _ rfl ?_) | (first | refine hLo.ld 0 rfl (by kernel_rfl) _ rfl ?_ | refine hLo.ld 1 rfl (by kernel_rfl) _ rfl ?_ | refine hLo.ld 2 rfl (by kernel_rfl) _ rfl ?_ | refine hLo.ld 3 rfl (by kernel_rfl) _ rfl ?_ | refine hLo.ld 4 rfl (by kernel_rfl) _ rfl ?_ | refine hLo.ld 5 rfl (by kernel_rfl) _ rfl ?_ | refine hLo.ld 6 rfl (by kernel_rfl) _ rfl ?_ | refine hLo.ld 7 rfl (by kernel_rfl) _ rfl ?_ | refine hLo.lda 0 rfl (by kernel_rfl) _ rfl ?_ | refine hLo.lda 1 rfl (by kernel_rfl) _ rfl ?_ | refine hLo.lda 2 rfl (by kernel_rfl) _ rfl ?_ | refine hLo.lda 3 rfl (by kernel_rfl) _ rfl ?_ | refine hLo.lda 4 rfl (by kernel_rfl) _ rfl ?_ | refine hLo.lda 5 rfl (by kernel_rfl) _ rfl ?_ | refine hLo.lda 6 rfl (by kernel_rfl) _ rfl ?_ | refine hLo.lda 7 rfl (by kernel_rfl) _ rfl ?_))
  refine evC_of (s61 fun S3 e3 => ⟨_, rfl, ?_⟩)
  have hL := hL.ext e3
  intro k3 hk3
  unfold refL at hk
  have l1 : (refS1 x).length ≤ 45 := by
    unfold refS1
    split
    · simp only [List.length_append, List.length_cons, List.length_nil]; omega
    · omega
  have l2 : (refS2 x).length ≤ 66 := by
    unfold refS2
    repeat' split
    all_goals (try simp only [List.length_append, List.length_cons, List.length_nil]); omega
  have key3 : ∀ S4, Hld noB S S4 [(b1, .cells (cellsO x) none false none)] → k3 (refS1 x) S4 := by
    intro S4 hL
    refine hk3 _ _ ?_
    intro k1 hk1
    have key1 : ∀ S5, Hld noB S S5 [(b1, .cells (cellsO x) none false none)] → k1 (refS2 x) S5 := by
      intro S5 hL
      refine hk1 _ _ ?_
      repeat (first | refine ptrW_of ?_ | refine sameV_of ?_ | (first | refine hL.ld 0 rfl (by kernel_rfl) _ rfl ?_ | refine hL.ld 1 rfl (by kernel_rfl) _ rfl ?_ | refine hL.ld 2 rfl (by kernel_rfl) _ rfl ?_ | refine hL.ld 3 rfl (by kernel_rfl) _ rfl ?_ | refine hL.ld 4 rfl (by kernel_rfl) _ rfl ?_ | refine hL.ld 5 rfl (by kernel_rfl) _ rfl ?_ | refine hL.ld 6 rfl (by kernel_rfl) _ rfl ?_ | refine hL.ld 7 rfl (by kernel_rfl) _ rfl ?_ | refine hL.lda 0 rfl (by kernel_rfl) _ rfl ?_ | refine hL.lda 1 rfl (by kernel_rfl) _ rfl ?_ | refine hL.lda 2 rfl (by kernel_rfl) _ rfl ?_ | refine hL.lda 3 rfl (by kernel_rfl) _ rfl ?_ | refine hL.lda 4 rfl (by kernel_rfl) _ rfl ?_ | refine hL.lda 5 rfl (by kernel_rfl) _ rfl ?_ | refine hL.lda 6 rfl (by kernel_rfl) _ rfl ?_ | refine hL.lda 7 rfl (by kernel_rfl) _ rfl ?_) | (first | refine hLo.ld 0 rfl (by kernel_rfl) _ rfl ?_ | refine hLo.ld 1 rfl (by kernel_rfl) _ rfl ?_ | refine hLo.ld 2 rfl (by kernel_rfl) _ rfl ?_ | refine hLo.ld 3 rfl (by kernel_rfl) _ rfl ?_ | refine hLo.ld 4 rfl (by kernel_rfl) _ rfl ?_ | refine hLo.ld 5 rfl (by kernel_rfl) _ rfl ?_ | refine hLo.ld 6 rfl (by kernel_rfl) _ rfl ?_ | refine hLo.ld 7 rfl (by kernel_rfl) _ rfl ?_ | refine hLo.lda 0 rfl (by kernel_rfl) _ rfl ?_ | refine hLo.lda 1 rfl (by kernel_rfl) _ rfl ?_ | refine hLo.lda 2 rfl (by kernel_rfl) _ rfl ?_ | refine hLo.lda 3 rfl (by kernel_rfl) _ rfl ?_ | refine hLo.lda 4 rfl (by kernel_rfl) _ rfl ?_ | refine hLo.lda 5 rfl (by kernel_rfl) _ rfl ?_ | refine hLo.lda 6 rfl (by kernel_rfl) _ rfl ?_ | refine hLo.lda 7 rfl (by kernel_rfl) _ rfl ?_))
      refine ifW_dec (fun h5 => ?_) fun h5 => ?_
      · rw [if_pos h5] at hk
        refine evV_of (ty := tT) _ (cat_eq (by simp; omega)) ?_
        repeat (first | refine ptrW_of ?_ | refine sameV_of ?_ | (first | refine hL.ld 0 rfl (by kernel_rfl) _ rfl ?_ | refine hL.ld 1 rfl (by kernel_rfl) _ rfl ?_ | refine hL.ld 2 rfl (by kernel_rfl) _ rfl ?_ | refine hL.ld 3 rfl (by kernel_rfl) _ rfl ?_ | refine hL.ld 4 rfl (by kernel_rfl) _ rfl ?_ | refine hL.ld 5 rfl (by kernel_rfl) _ rfl ?_ | refine hL.ld 6 rfl (by kernel_rfl) _ rfl ?_ | refine hL.ld 7 rfl (by kernel_rfl) _ rfl ?_ | refine hL.lda 0 rfl (by kernel_rfl) _ rfl ?_ | refine hL.lda 1 rfl (by kernel_rfl) _ rfl ?_ | refine hL.lda 2 rfl (by kernel_rfl) _ rfl ?_ | refine hL.lda 3 rfl (by kernel_rfl) _ rfl ?_ | refine hL.lda 4 rfl (by kernel_rfl) _ rfl ?_ | refine hL.lda 5 rfl (by kernel_rfl) _ rfl ?_ | refine hL.lda 6 rfl (by kernel_rfl) _ rfl ?_ | refine hL.lda 7 rfl (by kernel_rfl) _ rfl ?_) | (first | refine hLo.ld 0 rfl (by kernel_rfl) _ rfl ?_ | refine hLo.ld 1 rfl (by kernel_rfl) _ rfl ?_ | refine hLo.ld 2 rfl (by kernel_rfl) _ rfl ?_ | refine hLo.ld 3 rfl (by kernel_rfl) _ rfl ?_ | refine hLo.ld 4 rfl (by kernel_rfl) _ rfl ?_ | refine hLo.ld 5 rfl (by kernel_rfl) _ rfl ?_ | refine hLo.ld 6 rfl (by kernel_rfl) _ rfl ?_ | refine hLo.ld 7 rfl (by kernel_rfl) _ rfl ?_ | refine hLo.lda 0 rfl (by kernel_rfl) _ rfl ?_ | refine hLo.lda 1 rfl (by kernel_rfl) _ rfl ?_ | refine hLo.lda 2 rfl (by kernel_rfl) _ rfl ?_ | refine hLo.lda 3 rfl (by kernel_rfl) _ rfl ?_ | refine hLo.lda 4 rfl (by kernel_rfl) _ rfl ?_ | refine hLo.lda 5 rfl (by kernel_rfl) _ rfl ?_ | refine hLo.lda 6 rfl (by kernel_rfl) _ rfl ?_ | refine hLo.lda 7 rfl (by kernel_rfl) _ rfl ?_))
        rw [wrap_u64 (by omega) (by omega)]
        refine evC_of (s44i (by omega) (by omega) fun S6 e6 => ⟨_, rfl, ?_⟩)
        have hLo := hL
        have hL := hL.ext e6
        refine evV_of (ty := tT) _ (cat_eq (by simp; omega)) ?_
        refine evV_of (ty := tT) _ (cat_eq (by simp; omega)) ?_
        repeat (first | refine ptrW_of ?_ | refine sameV_of ?_ | (first | refine hL.ld 0 rfl (by kernel_rfl) _ rfl ?_ | refine hL.ld 1 rfl (by kernel_rfl) _ rfl ?_ | refine hL.ld 2 rfl (by kernel_rfl) _ rfl ?_ | refine hL.ld 3 rfl (by kernel_rfl) _ rfl ?_ | refine hL.ld 4 rfl (by kernel_rfl) _ rfl ?_ | refine hL.ld 5 rfl (by kernel_rfl) _ rfl ?_ | refine hL.ld 6 rfl (by kernel_rfl) _ rfl ?_ | refine hL.ld 7 rfl (by kernel_rfl) _ rfl ?_ | refine hL.lda 0 rfl (by kernel_rfl) _ rfl ?_ | refine hL.lda 1 rfl (by kernel_rfl) _ rfl ?_ | refine hL.lda 2 rfl (by kernel_rfl) _ rfl ?_ | refine hL.lda 3 rfl (by kernel_rfl) _ rfl ?_ | refine hL.lda 4 rfl (by kernel_rfl) _ rfl ?_ | refine hL.lda 5 rfl (by kernel_rfl) _ rfl ?_ | refine hL.lda 6 rfl (by kernel_rfl) _ rfl ?_ | refine hL.lda 7 rfl (by kernel_rfl) _ rfl ?_) | (first | refine hLo.ld 0 rfl (by kernel_rfl) _ rfl ?_ | refine hLo.ld 1 rfl (by kernel_rfl) _ rfl ?_ | refine hLo.ld 2 rfl (by kernel_rfl) _ rfl ?_ | refine hLo.ld 3 rfl (by kernel_rfl) _ rfl ?_ | refine hLo.ld 4 rfl (by kernel_rfl) _ rfl ?_ | refine hLo.ld 5 rfl (by kernel_rfl) _ rfl ?_ | refine hLo.ld 6 rfl (by kernel_rfl) _ rfl ?_ | refine hLo.ld 7 rfl (by kernel_rfl) _ rfl ?_ | refine hLo.lda 0 rfl (by kernel_rfl) _ rfl ?_ | refine hLo.lda 1 rfl (by kernel_rfl) _ rfl ?_ | refine hLo.lda 2 rfl (by kernel_rfl) _ rfl ?_ | refine hLo.lda 3 rfl (by kernel_rfl) _ rfl ?_ | refine hLo.lda 4 rfl (by kernel_rfl) _ rfl ?_ | refine hLo.lda 5 rfl (by kernel_rfl) _ rfl ?_ | refine hLo.lda 6 rfl (by kernel_rfl) _ rfl ?_ | refine hLo.lda 7 rfl (by kernel_rfl) _ rfl ?_))
        rw [wrap_u64 (by omega) (by omega)]
        refine evC_of (s44i (by omega) (by omega) fun S7 e7 => ⟨_, rfl, ?_⟩)
        have hL := hL.ext e7
        refine evV_of (ty := tT) _ (cat_eq (by simp; omega)) ?_
        exact hk S7 hL.mod
      · rw [if_neg h5] at hk
        exact hk S5 hL.mod
    unfold refS2 at key1
    repeat (first | refine ptrW_of ?_ | refine sameV_of ?_ | (first | refine hL.ld 0 rfl (by kernel_rfl) _ rfl ?_ | refine hL.ld 1 rfl (by kernel_rfl) _ rfl ?_ | refine hL.ld 2 rfl (by kernel_rfl) _ rfl ?_ | refine hL.ld 3 rfl (by kernel_rfl) _ rfl ?_ | refine hL.ld 4 rfl (by kernel_rfl) _ rfl ?_ | refine hL.ld 5 rfl (by kernel_rfl) _ rfl ?_ | refine hL.ld 6 rfl (by kernel_rfl) _ rfl ?_ | refine hL.ld 7 rfl (by kernel_rfl) _ rfl ?_ | refine hL.lda 0 rfl (by kernel_rfl) _ rfl ?_ | refine hL.lda 1 rfl (by kernel_rfl) _ rfl ?_ | refine hL.lda 2 rfl (by kernel_rfl) _ rfl ?_ | refine hL.lda 3 rfl (by kernel_rfl) _ rfl ?_ | refine hL.lda 4 rfl (by kernel_rfl) _ rfl ?_ | refine hL.lda 5 rfl (by kernel_rfl) _ rfl ?_ | refine hL.lda 6 rfl (by kernel_rfl) _ rfl ?_ | refine hL.lda 7 rfl (by kernel_rfl) _ rfl ?_) | (first | refine hLo.ld 0 rfl (by kernel_rfl) _ rfl ?_ | refine hLo.ld 1 rfl (by kernel_rfl) _ rfl ?_ | refine hLo.ld 2 rfl (by kernel_rfl) _ rfl ?_ | refine hLo.ld 3 rfl (by kernel_rfl) _ rfl ?_ | refine hLo.ld 4 rfl (by kernel_rfl) _ rfl ?_ | refine hLo.ld 5 rfl (by kernel_rfl) _ rfl ?_ | refine hLo.ld 6 rfl (by kernel_rfl) _ rfl ?_ | refine hLo.ld 7 rfl (by kernel_rfl) _ rfl ?_ | refine hLo.lda 0 rfl (by kernel_rfl) _ rfl ?_ | refine hLo.lda 1 rfl (by kernel_rfl) _ rfl ?_ | refine hLo.lda 2 rfl (by kernel_rfl) _ rfl ?_ | refine hLo.lda 3 rfl (by kernel_rfl) _ rfl ?_ | refine hLo.lda 4 rfl (by kernel_rfl) _ rfl ?_ | refine hLo.lda 5 rfl (by kernel_rfl) _ rfl ?_ | refine hLo.lda 6 rfl (by kernel_rfl) _ rfl ?_ | refine hLo.lda 7 rfl (by kernel_rfl) _ rfl ?_))
    refine ifW_dec (fun h1 => ?_) fun h1 => ?_
    · rw [if_pos h1] at key1
      refine evV_of (ty := tT) _ (cat_eq (by simp; omega)) ?_
      repeat (first | refine ptrW_of ?_ | refine sameV_of ?_ | (first | refine hL.ld 0 rfl (by kernel_rfl) _ rfl ?_ | refine hL.ld 1 rfl (by kernel_rfl) _ rfl ?_ | refine hL.ld 2 rfl (by kernel_rfl) _ rfl ?_ | refine hL.ld 3 rfl (by kernel_rfl) _ rfl ?_ | refine hL.ld 4 rfl (by kernel_rfl) _ rfl ?_ | refine hL.ld 5 rfl (by kernel_rfl) _ rfl ?_ | refine hL.ld 6 rfl (by kernel_rfl) _ rfl ?_ | refine hL.ld 7 rfl (by kernel_rfl) _ rfl ?_ | refine hL.lda 0 rfl (by kernel_rfl) _ rfl ?_ | refine hL.lda 1 rfl (by kernel_rfl) _ rfl ?_ | refine hL.lda 2 rfl (by kernel_rfl) _ rfl ?_ | refine hL.lda 3 rfl (by kernel_rfl) _ rfl ?_ | refine hL.lda 4 rfl (by kernel_rfl) _ rfl ?_ | refine hL.lda 5 rfl (by kernel_rfl) _ rfl ?_ | refine hL.lda 6 rfl (by kernel_rfl) _ rfl ?_ | refine hL.lda 7 rfl (by kernel_rfl) _ rfl ?_) | (first | refine hLo.ld 0 rfl (by kernel_rfl) _ rfl ?_ | refine hLo.ld 1 rfl (by kernel_rfl) _ rfl ?_ | refine hLo.ld 2 rfl (by kernel_rfl) _ rfl ?_ | refine hLo.ld 3 rfl (by kernel_rfl) _ rfl ?_ | refine hLo.ld 4 rfl (by kernel_rfl) _ rfl ?_ | refine hLo.ld 5 rfl (by kernel_rfl) _ rfl ?_ | refine hLo.ld 6 rfl (by kernel_rfl) _ rfl ?_ | refine hLo.ld 7 rfl (by kernel_rfl) _ rfl ?_ | refine hLo.lda 0 rfl (by kernel_rfl) _ rfl ?_ | refine hLo.lda 1 rfl (by kernel_rfl) _ rfl ?_ | refine hLo.lda 2 rfl (by kernel_rfl) _ rfl ?_ | refine hLo.lda 3 rfl (by kernel_rfl) _ rfl ?_ | refine hLo.lda 4 rfl (by kernel_rfl) _ rfl ?_ | refine hLo.lda 5 rfl (by kernel_rfl) _ rfl ?_ | refine hLo.lda 6 rfl (by kernel_rfl) _ rfl ?_ | refine hLo.lda 7 rfl (by kernel_rfl) _ rfl ?_))
      refine evC_of (s44i wd.1 wd.2 fun S6 e6 => ⟨_, rfl, ?_⟩)
      refine evV_of (ty := tT) _ (cat_eq (by simp; omega)) ?_
      exact key1 S6 (hL.ext e6)
    rw [if_neg h1] at key1
    intro k2 hk2
    have key2 : ∀ t : Bool, (t = true ↔ x.1 = 9 ∧ x.2.2.1 < 0) → k2 t S4 := by
      intro t ht
      refine hk2 _ _ ?_
      refine ifW_of (fun h => ?_) fun h => ?_
      · rw [if_pos (ht.1 h)] at key1
        refine evV_of (ty := tT) _ (cat_eq (by simp; omega)) ?_
        exact key1 S4 hL
      · have h9 := not_of ht h
        rw [if_neg h9] at key1
        repeat (first | refine ptrW_of ?_ | refine sameV_of ?_ | (first | refine hL.ld 0 rfl (by kernel_rfl) _ rfl ?_ | refine hL.ld 1 rfl (by kernel_rfl) _ rfl ?_ | refine hL.ld 2 rfl (by kernel_rfl) _ rfl ?_ | refine hL.ld 3 rfl (by kernel_rfl) _ rfl ?_ | refine hL.ld 4 rfl (by kernel_rfl) _ rfl ?_ | refine hL.ld 5 rfl (by kernel_rfl) _ rfl ?_ | refine hL.ld 6 rfl (by kernel_rfl) _ rfl ?_ | refine hL.ld 7 rfl (by kernel_rfl) _ rfl ?_ | refine hL.lda 0 rfl (by kernel_rfl) _ rfl ?_ | refine hL.lda 1 rfl (by kernel_rfl) _ rfl ?_ | refine hL.lda 2 rfl (by kernel_rfl) _ rfl ?_ | refine hL.lda 3 rfl (by kernel_rfl) _ rfl ?_ | refine hL.lda 4 rfl (by kernel_rfl) _ rfl ?_ | refine hL.lda 5 rfl (by kernel_rfl) _ rfl ?_ | refine hL.lda 6 rfl (by kernel_rfl) _ rfl ?_ | refine hL.lda 7 rfl (by kernel_rfl) _ rfl ?_) | (first | refine hLo.ld 0 rfl (by kernel_rfl) _ rfl ?_ | refine hLo.ld 1 rfl (by kernel_rfl) _ rfl ?_ | refine hLo.ld 2 rfl (by kernel_rfl) _ rfl ?_ | refine hLo.ld 3 rfl (by kernel_rfl) _ rfl ?_ | refine hLo.ld 4 rfl (by kernel_rfl) _ rfl ?_ | refine hLo.ld 5 rfl (by kernel_rfl) _ rfl ?_ | refine hLo.ld 6 rfl (by kernel_rfl) _ rfl ?_ | refine hLo.ld 7 rfl (by kernel_rfl) _ rfl ?_ | refine hLo.lda 0 rfl (by kernel_rfl) _ rfl ?_ | refine hLo.lda 1 rfl (by kernel_rfl) _ rfl ?_ | refine hLo.lda 2 rfl (by kernel_rfl) _ rfl ?_ | refine hLo.lda 3 rfl (by kernel_rfl) _ rfl ?_ | refine hLo.lda 4 rfl (by kernel_rfl) _ rfl ?_ | refine hLo.lda 5 rfl (by kernel_rfl) _ rfl ?_ | refine hLo.lda 6 rfl (by kernel_rfl) _ rfl ?_ | refine hLo.lda 7 rfl (by kernel_rfl) _ rfl ?_))
        refine ifW_ndec (fun h6 => ?_) fun h6 => ?_
        · rw [if_pos h6] at key1
          refine evV_of (ty := tT) _ (cat_eq (by simp; omega)) ?_
          repeat (first | refine ptrW_of ?_ | refine sameV_of ?_ | (first | refine hL.ld 0 rfl (by kernel_rfl) _ rfl ?_ | refine hL.ld 1 rfl (by kernel_rfl) _ rfl ?_ | refine hL.ld 2 rfl (by kernel_rfl) _ rfl ?_ | refine hL.ld 3 rfl (by kernel_rfl) _ rfl ?_ | refine hL.ld 4 rfl (by kernel_rfl) _ rfl ?_ | refine hL.ld 5 rfl (by kernel_rfl) _ rfl ?_ | refine hL.ld 6 rfl (by kernel_rfl) _ rfl ?_ | refine hL.ld 7 rfl (by kernel_rfl) _ rfl ?_ | refine hL.lda 0 rfl (by kernel_rfl) _ rfl ?_ | refine hL.lda 1 rfl (by kernel_rfl) _ rfl ?_ | refine hL.lda 2 rfl (by kernel_rfl) _ rfl ?_ | refine hL.lda 3 rfl (by kernel_rfl) _ rfl ?_ | refine hL.lda 4 rfl (by kernel_rfl) _ rfl ?_ | refine hL.lda 5 rfl (by kernel_rfl) _ rfl ?_ | refine hL.lda 6 rfl (by kernel_rfl) _ rfl ?_ | refine hL.lda 7 rfl (by kernel_rfl) _ rfl ?_) | (first | refine hLo.ld 0 rfl (by kernel_rfl) _ rfl ?_ | refine hLo.ld 1 rfl (by kernel_rfl) _ rfl ?_ | refine hLo.ld 2 rfl (by kernel_rfl) _ rfl ?_ | refine hLo.ld 3 rfl (by kernel_rfl) _ rfl ?_ | refine hLo.ld 4 rfl (by kernel_rfl) _ rfl ?_ | refine hLo.ld 5 rfl (by kernel_rfl) _ rfl ?_ | refine hLo.ld 6 rfl (by kernel_rfl) _ rfl ?_ | refine hLo.ld 7 rfl (by kernel_rfl) _ rfl ?_ | refine hLo.lda 0 rfl (by kernel_rfl) _ rfl ?_ | refine hLo.lda 1 rfl (by kernel_rfl) _ rfl ?_ | refine hLo.lda 2 rfl (by kernel_rfl) _ rfl ?_ | refine hLo.lda 3 rfl (by kernel_rfl) _ rfl ?_ | refine hLo.lda 4 rfl (by kernel_rfl) _ rfl ?_ | refine hLo.lda 5 rfl (by kernel_rfl) _ rfl ?_ | refine hLo.lda 6 rfl (by kernel_rfl) _ rfl ?_ | refine hLo.lda 7 rfl (by kernel_rfl) _ rfl ?_))
          rw [wrap_u64 (by omega) (by omega)]
          refine evC_of (s44i (by omega) (by omega) fun S6 e6 => ⟨_, rfl, ?_⟩)
          refine evV_of (ty := tT) _ (cat_eq (by simp; omega)) ?_
          exact key1 S6 (hL.ext e6)
        · rw [if_neg (fun h => h h6)] at key1
          exact key1 S4 hL
    repeat (first | refine ptrW_of ?_ | refine sameV_of ?_ | (first | refine hL.ld 0 rfl (by kernel_rfl) _ rfl ?_ | refine hL.ld 1 rfl (by kernel_rfl) _ rfl ?_ | refine hL.ld 2 rfl (by kernel_rfl) _ rfl ?_ | refine hL.ld 3 rfl (by kernel_rfl) _ rfl ?_ | refine hL.ld 4 rfl (by kernel_rfl) _ rfl ?_ | refine hL.ld 5 rfl (by kernel_rfl) _ rfl ?_ | refine hL.ld 6 rfl (by kernel_rfl) _ rfl ?_ | refine hL.ld 7 rfl (by kernel_rfl) _ rfl ?_ | refine hL.lda 0 rfl (by kernel_rfl) _ rfl ?_ | refine hL.lda 1 rfl (by kernel_rfl) _ rfl ?_ | refine hL.lda 2 rfl (by kernel_rfl) _ rfl ?_ | refine hL.lda 3 rfl (by kernel_rfl) _ rfl ?_ | refine hL.lda 4 rfl (by kernel_rfl) _ rfl ?_ | refine hL.lda 5 rfl (by kernel_rfl) _ rfl ?_ | refine hL.lda 6 rfl (by kernel_rfl) _ rfl ?_ | refine hL.lda 7 rfl (by kernel_rfl) _ rfl ?_) | (first | refine hLo.ld 0 rfl (by kernel_rfl) _ rfl ?_ | refine hLo.ld 1 rfl (by kernel_rfl) _ rfl ?_ | refine hLo.ld 2 rfl (by kernel_rfl) _ rfl ?_ | refine hLo.ld 3 rfl (by kernel_rfl) _ rfl ?_ | refine hLo.ld 4 rfl (by kernel_rfl) _ rfl ?_ | refine hLo.ld 5 rfl (by kernel_rfl) _ rfl ?_ | refine hLo.ld 6 rfl (by kernel_rfl) _ rfl ?_ | refine hLo.ld 7 rfl (by kernel_rfl) _ rfl ?_ | refine hLo.lda 0 rfl (by kernel_rfl) _ rfl ?_ | refine hLo.lda 1 rfl (by kernel_rfl) _ rfl ?_ | refine hLo.lda 2 rfl (by kernel_rfl) _ rfl ?_ | refine hLo.lda 3 rfl (by kernel_rfl) _ rfl ?_ | refine hLo.lda 4 rfl (by kernel_rfl) _ rfl ?_ | refine hLo.lda 5 rfl (by kernel_rfl) _ rfl ?_ | refine hLo.lda 6 rfl (by kernel_rfl) _ rfl ?_ | refine hLo.lda 7 rfl (by kernel_rfl) _ rfl ?_))
    refine ifW_dec (fun h9 => ?_) fun h9 => key2 _ ⟨fun h => (by cases h), fun h => (h9 h.1).elim⟩
    repeat (first | refine ptrW_of ?_ | refine sameV_of ?_ | (first | refine hL.ld 0 rfl (by kernel_rfl) _ rfl ?_ | refine hL.ld 1 rfl (by kernel_rfl) _ rfl ?_ | refine hL.ld 2 rfl (by kernel_rfl) _ rfl ?_ | refine hL.ld 3 rfl (by kernel_rfl) _ rfl ?_ | refine hL.ld 4 rfl (by kernel_rfl) _ rfl ?_ | refine hL.ld 5 rfl (by kernel_rfl) _ rfl ?_ | refine hL.ld 6 rfl (by kernel_rfl) _ rfl ?_ | refine hL.ld 7 rfl (by kernel_rfl) _ rfl ?_ | refine hL.lda 0 rfl (by kernel_rfl) _ rfl ?_ | refine hL.lda 1 rfl (by kernel_rfl) _ rfl ?_ | refine hL.lda 2 rfl (by kernel_rfl) _ rfl ?_ | refine hL.lda 3 rfl (by kernel_rfl) _ rfl ?_ | refine hL.lda 4 rfl (by kernel_rfl) _ rfl ?_ | refine hL.lda 5 rfl (by kernel_rfl) _ rfl ?_ | refine hL.lda 6 rfl (by kernel_rfl) _ rfl ?_ | refine hL.lda 7 rfl (by kernel_rfl) _ rfl ?_) | (first | refine hLo.ld 0 rfl (by kernel_rfl) _ rfl ?_ | refine hLo.ld 1 rfl (by kernel_rfl) _ rfl ?_ | refine hLo.ld 2 rfl (by kernel_rfl) _ rfl ?_ | refine hLo.ld 3 rfl (by kernel_rfl) _ rfl ?_ | refine hLo.ld 4 rfl (by kernel_rfl) _ rfl ?_ | refine hLo.ld 5 rfl (by kernel_rfl) _ rfl ?_ | refine hLo.ld 6 rfl (by kernel_rfl) _ rfl ?_ | refine hLo.ld 7 rfl (by kernel_rfl) _ rfl ?_ | refine hLo.lda 0 rfl (by kernel_rfl) _ rfl ?_ | refine hLo.lda 1 rfl (by kernel_rfl) _ rfl ?_ | refine hLo.lda 2 rfl (by kernel_rfl) _ rfl ?_ | refine hLo.lda 3 rfl (by kernel_rfl) _ rfl ?_ | refine hLo.lda 4 rfl (by kernel_rfl) _ rfl ?_ | refine hLo.lda 5 rfl (by kernel_rfl) _ rfl ?_ | refine hLo.lda 6 rfl (by kernel_rfl) _ rfl ?_ | refine hLo.lda 7 rfl (by kernel_rfl) _ rfl ?_))
    exact key2 _ (by rw [ltI_eq, decide_eq_true_iff]; exact ⟨fun h => ⟨h9, h⟩, fun h => h.2⟩)
  unfold refS1 at key3
  intro k4 hk4
  have key4 : ∀ t : Bool, (t = true ↔ x.1 = 1 ∨ 6 ≤ x.1) → k4 t S3 := by
    intro t ht
    refine hk4 _ _ ?_
    refine ifW_of (fun h => ?_) fun h => ?_
    · rw [if_pos (ht.1 h)] at key3
      have := ht.1 h
      refine evV_of (ty := tT) _ (cat_eq (by simp; omega)) ?_
      repeat (first | refine ptrW_of ?_ | refine sameV_of ?_ | (first | refine hL.ld 0 rfl (by kernel_rfl) _ rfl ?_ | refine hL.ld 1 rfl (by kernel_rfl) _ rfl ?_ | refine hL.ld 2 rfl (by kernel_rfl) _ rfl ?_ | refine hL.ld 3 rfl (by kernel_rfl) _ rfl ?_ | refine hL.ld 4 rfl (by kernel_rfl) _ rfl ?_ | refine hL.ld 5 rfl (by kernel_rfl) _ rfl ?_ | refine hL.ld 6 rfl (by kernel_rfl) _ rfl ?_ | refine hL.ld 7 rfl (by kernel_rfl) _ rfl ?_ | refine hL.lda 0 rfl (by kernel_rfl) _ rfl ?_ | refine hL.lda 1 rfl (by kernel_rfl) _ rfl ?_ | refine hL.lda 2 rfl (by kernel_rfl) _ rfl ?_ | refine hL.lda 3 rfl (by kernel_rfl) _ rfl ?_ | refine hL.lda 4 rfl (by kernel_rfl) _ rfl ?_ | refine hL.lda 5 rfl (by kernel_rfl) _ rfl ?_ | refine hL.lda 6 rfl (by kernel_rfl) _ rfl ?_ | refine hL.lda 7 rfl (by kernel_rfl) _ rfl ?_) | (first | refine hLo.ld 0 rfl (by kernel_rfl) _ rfl ?_ | refine hLo.ld 1 rfl (by kernel_rfl) _ rfl ?_ | refine hLo.ld 2 rfl (by kernel_rfl) _ rfl ?_ | refine hLo.ld 3 rfl (by kernel_rfl) _ rfl ?_ | refine hLo.ld 4 rfl (by kernel_rfl) _ rfl ?_ | refine hLo.ld 5 rfl (by kernel_rfl) _ rfl ?_ | refine hLo.ld 6 rfl (by kernel_rfl) _ rfl ?_ | refine hLo.ld 7 rfl (by kernel_rfl) _ rfl ?_ | refine hLo.lda 0 rfl (by kernel_rfl) _ rfl ?_ | refine hLo.lda 1 rfl (by kernel_rfl) _ rfl ?_ | refine hLo.lda 2 rfl (by kernel_rfl) _ rfl ?_ | refine hLo.lda 3 rfl (by kernel_rfl) _ rfl ?_ | refine hLo.lda 4 rfl (by kernel_rfl) _ rfl ?_ | refine hLo.lda 5 rfl (by kernel_rfl) _ rfl ?_ | refine hLo.lda 6 rfl (by kernel_rfl) _ rfl ?_ | refine hLo.lda 7 rfl (by kernel_rfl) _ rfl ?_))
      rw [wrap_u64 (by omega) (by omega)]
      refine evC_of (s44i (by omega) (by omega) fun S6 e6 => ⟨_, rfl, ?_⟩)
      refine evV_of (ty := tT) _ (cat_eq (by simp; omega)) ?_
      exact key3 S6 (hL.ext e6)
    · rw [if_neg (not_of ht h)] at key3
      exact key3 S3 hL
  repeat (first | refine ptrW_of ?_ | refine sameV_of ?_ | (first | refine hL.ld 0 rfl (by kernel_rfl) _ rfl ?_ | refine hL.ld 1 rfl (by kernel_rfl) _ rfl ?_ | refine hL.ld 2 rfl (by kernel_rfl) _ rfl ?_ | refine hL.ld 3 rfl (by kernel_rfl) _ rfl ?_ | refine hL.ld 4 rfl (by kernel_rfl) _ rfl ?_ | refine hL.ld 5 rfl (by kernel_rfl) _ rfl ?_ | refine hL.ld 6 rfl (by kernel_rfl) _ rfl ?_ | refine hL.ld 7 rfl (by kernel_rfl) _ rfl ?_ | refine hL.lda 0 rfl (by kernel_rfl) _ rfl ?_ | refine hL.lda 1 rfl (by kernel_rfl) _ rfl ?_ | refine hL.lda 2 rfl (by kernel_rfl) _ rfl ?_ | refine hL.lda 3 rfl (by kernel_rfl) _ rfl ?_ | refine hL.lda 4 rfl (by kernel_rfl) _ rfl ?_ | refine hL.lda 5 rfl (by kernel_rfl) _ rfl ?_ | refine hL.lda 6 rfl (by kernel_rfl) _ rfl ?_ | refine hL.lda 7 rfl (by kernel_rfl) _ rfl ?_) | (first | refine hLo.ld 0 rfl (by kernel_rfl) _ rfl ?_ | refine hLo.ld 1 rfl (by kernel_rfl) _ rfl ?_ | refine hLo.ld 2 rfl (by kernel_rfl) _ rfl ?_ | refine hLo.ld 3 rfl (by kernel_rfl) _ rfl ?_ | refine hLo.ld 4 rfl (by kernel_rfl) _ rfl ?_ | refine hLo.ld 5 rfl (by kernel_rfl) _ rfl ?_ | refine hLo.ld 6 rfl (by kernel_rfl) _ rfl ?_ | refine hLo.ld 7 rfl (by kernel_rfl) _ rfl ?_ | refine hLo.lda 0 rfl (by kernel_rfl) _ rfl ?_ | refine hLo.lda 1 rfl (by kernel_rfl) _ rfl ?_ | refine hLo.lda 2 rfl (by kernel_rfl) _ rfl ?_ | refine hLo.lda 3 rfl (by kernel_rfl) _ rfl ?_ | refine hLo.lda 4 rfl (by kernel_rfl) _ rfl ?_ | refine hLo.lda 5 rfl (by kernel_rfl) _ rfl ?_ | refine hLo.lda 6 rfl (by kernel_rfl) _ rfl ?_ | refine hLo.lda 7 rfl (by kernel_rfl) _ rfl ?_))
  refine ifW_dec (fun h1 => key4 _ (by simp [h1])) fun h1 => ?_
  repeat (first | refine ptrW_of ?_ | refine sameV_of ?_ | (first | refine hL.ld 0 rfl (by kernel_rfl) _ rfl ?_ | refine hL.ld 1 rfl (by kernel_rfl) _ rfl ?_ | refine hL.ld 2 rfl (by kernel_rfl) _ rfl ?_ | refine hL.ld 3 rfl (by kernel_rfl) _ rfl ?_ | refine hL.ld 4 rfl (by kernel_rfl) _ rfl ?_ | refine hL.ld 5 rfl (by kernel_rfl) _ rfl ?_ | refine hL.ld 6 rfl (by kernel_rfl) _ rfl ?_ | refine hL.ld 7 rfl (by kernel_rfl) _ rfl ?_ | refine hL.lda 0 rfl (by kernel_rfl) _ rfl ?_ | refine hL.lda 1 rfl (by kernel_rfl) _ rfl ?_ | refine hL.lda 2 rfl (by kernel_rfl) _ rfl ?_ | refine hL.lda 3 rfl (by kernel_rfl) _ rfl ?_ | refine hL.lda 4 rfl (by kernel_rfl) _ rfl ?_ | refine hL.lda 5 rfl (by kernel_rfl) _ rfl ?_ | refine hL.lda 6 rfl (by kernel_rfl) _ rfl ?_ | refine hL.lda 7 rfl (by kernel_rfl) _ rfl ?_) | (first | refine hLo.ld 0 rfl (by kernel_rfl) _ rfl ?_ | refine hLo.ld 1 rfl (by kernel_rfl) _ rfl ?_ | refine hLo.ld 2 rfl (by kernel_rfl) _ rfl ?_ | refine hLo.ld 3 rfl (by kernel_rfl) _ rfl ?_ | refine hLo.ld 4 rfl (by kernel_rfl) _ rfl ?_ | refine hLo.ld 5 rfl (by kernel_rfl) _ rfl ?_ | refine hLo.ld 6 rfl (by kernel_rfl) _ rfl ?_ | refine hLo.ld 7 rfl (by kernel_rfl) _ rfl ?_ | refine hLo.lda 0 rfl (by kernel_rfl) _ rfl ?_ | refine hLo.lda 1 rfl (by kernel_rfl) _ rfl ?_ | refine hLo.lda 2 rfl (by kernel_rfl) _ rfl ?_ | refine hLo.lda 3 rfl (by kernel_rfl) _ rfl ?_ | refine hLo.lda 4 rfl (by kernel_rfl) _ rfl ?_ | refine hLo.lda 5 rfl (by kernel_rfl) _ rfl ?_ | refine hLo.lda 6 rfl (by kernel_rfl) _ rfl ?_ | refine hLo.lda 7 rfl (by kernel_rfl) _ rfl ?_))
  exact key4 _ (by rw [leI_eq, decide_eq_true_iff]; omega)
end
end Go.Proofs.YtfopfocedlbihaaGreatDoor

/- Orders: a line's order, the program's. -/
namespace Go.Proofs.YtfopfocedlbihaaGreatDoor
open Go Go.Proofs.YtfopfocedlbihaaGreatDoor.D
set_option linter.unusedVariables false
set_option linter.unusedSimpArgs false
noncomputable section

theorem Frm.at {O : Nat → Prop} {b : Nat} {o : DObj} (h : O b) : Frm O (fun S => At S b o) := fun F S S' m hF ha => m.at ha (hF b h)
theorem wd_word : ∀ (s : List UInt8), ∀ w ∈ wd s, w.length ≤ s.length := by
  intro s
  induction s with
  | nil => simp [wd]
  | cons c r ih =>
    unfold wd
    split
    · intro w hw
      rcases List.mem_cons.1 hw with rfl | hw
      · simp
      · have := ih w hw; simp; omega
    · cases h : wd r with
      | nil => exact (wd_ne r h).elim
      | cons x t =>
        rw [h] at ih
        intro w hw
        rcases List.mem_cons.1 hw with rfl | hw
        · have := ih x (by simp); simp; omega
        · have := ih w (by simp [hw]); simp; omega
theorem wd_count (s : List UInt8) : (wd s).length ≤ s.length + 1 := by
  induction s with
  | nil => simp [wd]
  | cons c r ih =>
    unfold wd
    split
    · simp; omega
    · cases h : wd r <;> rw [h] at ih <;> simp [headC] at ih ⊢ <;> omega
theorem wd_getD (s : List UInt8) (i : Nat) : ((wd s).getD i []).length ≤ s.length := by
  rw [List.getD_eq_getElem?_getD]
  by_cases h : i < (wd s).length
  · rw [List.getElem?_eq_getElem h]
    exact wd_word s _ (List.getElem_mem h)
  · rw [List.getElem?_eq_none (by omega)]
    simp
theorem setsO_snoc : ∀ (p : List UInt8) (x : Ord) (c : UInt8) (l : List (List UInt8)), setsO x (p ++ [c]) l = setO (setsO x p l) (c.toNat : Int) (l.getD p.length [])
  | [], x, c, l => by cases l <;> rfl
  | d :: p, x, c, l => by
    show setsO (setO x _ _) (p ++ [c]) l.tail = _
    rw [setsO_snoc p]
    cases l <;> simp [setsO]
theorem setsO_succ {x : Ord} {p : List UInt8} {l : List (List UInt8)} {i : Nat} (hi : i < p.length) : setsO x (p.take (i + 1)) l = setO (setsO x (p.take i) l) (p[i].toNat : Int) (l.getD i []) := by
  rw [List.take_succ_eq_append_getElem hi, setsO_snoc, List.length_take, Nat.min_eq_left (by omega)]
theorem tail_getD {α : Type} (l : List α) (i : Nat) (d : α) : l.tail.getD i d = l.getD (i + 1) d := by cases l <;> simp
abbrev zO : DObj := .cells [.int .i64 0, .int .i64 0, .int .i64 0, .int .i64 0, .int .i64 0, .int .u64 0] none false none
abbrev boxesR (b14 b13 cK b10 b3 b2 b1 : Nat) (st : DObj) (kd : Int) (y : Ord) (s : Sl) : List (Nat × DObj) :=
  [(b14, st), (b13, .deferred), (cK, .cells [.int .i64 kd] none false none), (b10, .cells [.func (.func 67) #[] #[.pointer (some ⟨b2, 0, none⟩)]] none false none), (b3, .cells (cellsO y) none false none), (b2, .cells [.slice s.a s.len s.cap] none false none), (b1, zO)]
theorem s45 {S : St} {l : List UInt8} {k : Value → St → Prop} (g : Gl S) (hlen : l.length ≤ 10000000) (hk : ∀ S', Ext S S' → k (.tuple #[sv G36 (readP (candA l) l).1, .int .i64 (readP (candA l) l).2]) S') : WC E0 45 [strV l] S k := by
  refine w45 _ ?_
  unfold c45
  have hL := Cx.start (S := S) (P := fun _ => True) noB trivial Frm.true (fun _ h => h.elim)
  refine hL.new fun b1 S1 hL _ _ => ?_
  refine evC_of (s43 (g.ext hL.mod) (by omega) fun b S2 hat hbS e2 => ⟨⟨some ⟨b, 0, none⟩, (wd l).length, (wd l).length⟩, rfl, ?_⟩)
  have hnn := e2.next
  have hL : Cx noB S S2 [(b1, zO)] (fun c => c = b) (fun S => At S b (.cells ((wd l).map strV) none false none)) :=
    hL.op e2 (fun _ h => h.elim) (fun _ h => h.elim) hat (Frm.at rfl) (fun c hc => .inr (by omega)) (fun c hc => by rw [hc]; exact hat.lt)
  have hwc := wd_count l
  have hne := wd_ne l
  have hpos : 0 < (wd l).length := List.length_pos_iff.2 hne
  have hinex := lt_inex
  have hg0 : ((wd l).map strV)[0 + Int.toNat 0 * 1]? = some (strV ((wd l).headD [])) := by
    show ((wd l).map strV)[0]? = _
    cases h : wd l with
    | nil => exact (hne h).elim
    | cons w t => rfl
  generalize hws : wd l = ws at hL hwc hne hpos hg0 ⊢
  refine hL.new fun b2 S3 hL _ _ => ?_
  (first | refine hL.st 0 _ rfl (by kernel_rfl) rfl (Nat.le_of_ble_eq_true rfl) rfl rfl fun S4 hL hn4 => ?_ | refine hL.st 1 _ rfl (by kernel_rfl) rfl (Nat.le_of_ble_eq_true rfl) rfl rfl fun S4 hL hn4 => ?_ | refine hL.st 2 _ rfl (by kernel_rfl) rfl (Nat.le_of_ble_eq_true rfl) rfl rfl fun S4 hL hn4 => ?_ | refine hL.st 3 _ rfl (by kernel_rfl) rfl (Nat.le_of_ble_eq_true rfl) rfl rfl fun S4 hL hn4 => ?_ | refine hL.st 4 _ rfl (by kernel_rfl) rfl (Nat.le_of_ble_eq_true rfl) rfl rfl fun S4 hL hn4 => ?_ | refine hL.st 5 _ rfl (by kernel_rfl) rfl (Nat.le_of_ble_eq_true rfl) rfl rfl fun S4 hL hn4 => ?_ | refine hL.st 6 _ rfl (by kernel_rfl) rfl (Nat.le_of_ble_eq_true rfl) rfl rfl fun S4 hL hn4 => ?_ | refine hL.st 7 _ rfl (by kernel_rfl) rfl (Nat.le_of_ble_eq_true rfl) rfl rfl fun S4 hL hn4 => ?_)
  refine hL.new fun b3 S5 hL _ _ => ?_
  (first | refine hL.st 0 _ rfl (by kernel_rfl) rfl (Nat.le_of_ble_eq_true rfl) rfl rfl fun S6 hL hn6 => ?_ | refine hL.st 1 _ rfl (by kernel_rfl) rfl (Nat.le_of_ble_eq_true rfl) rfl rfl fun S6 hL hn6 => ?_ | refine hL.st 2 _ rfl (by kernel_rfl) rfl (Nat.le_of_ble_eq_true rfl) rfl rfl fun S6 hL hn6 => ?_ | refine hL.st 3 _ rfl (by kernel_rfl) rfl (Nat.le_of_ble_eq_true rfl) rfl rfl fun S6 hL hn6 => ?_ | refine hL.st 4 _ rfl (by kernel_rfl) rfl (Nat.le_of_ble_eq_true rfl) rfl rfl fun S6 hL hn6 => ?_ | refine hL.st 5 _ rfl (by kernel_rfl) rfl (Nat.le_of_ble_eq_true rfl) rfl rfl fun S6 hL hn6 => ?_ | refine hL.st 6 _ rfl (by kernel_rfl) rfl (Nat.le_of_ble_eq_true rfl) rfl rfl fun S6 hL hn6 => ?_ | refine hL.st 7 _ rfl (by kernel_rfl) rfl (Nat.le_of_ble_eq_true rfl) rfl rfl fun S6 hL hn6 => ?_)
  refine loopW_ind (fun q (j : Int) S' => ∃ n : Nat, j = n ∧ n ≤ 10 ∧ q = 10 - n ∧ Cx noB S S' [(b3, .cells (cellsO (kindF (ws.headD []) n, 0, 0, 0, 0, 0)) none false none), (b2, .cells [.slice (some ⟨b, 0, none⟩) ws.length ws.length] none false none), (b1, zO)] (fun c => c = b) (fun S => At S b (.cells (ws.map strV) none false none))) (m := 10)
    ⟨0, rfl, by omega, rfl, hL⟩ ?_
  rintro P q j S7 ⟨n, rfl, hn, rfl, hL⟩ hP
  have go : ∀ {S' : St} {kd : Int}, kindF (ws.headD []) (n + 1) = kd → n < 10 → Cx noB S S' [(b3, .cells (cellsO (kd, 0, 0, 0, 0, 0)) none false none), (b2, .cells [.slice (some ⟨b, 0, none⟩) ws.length ws.length] none false none), (b1, zO)] (fun c => c = b) (fun S => At S b (.cells (ws.map strV) none false none)) → P (wrapI .i64 ((n : Int) + 1)) S' := by
    intro S' kd hkd hlt hL
    subst hkd
    rw [wrap_succ (by omega)]
    exact hP _ _ _ (by omega) ⟨n + 1, rfl, by omega, rfl, hL⟩
  refine ifW_dec (fun hlt => ?_) fun hlt => ?_
  · refine ifW_dec (fun h0 => ?_) fun h0 => ?_
    · have hkf : kindF (ws.headD []) (n + 1) = if 0 < n ∧ tabW.getD n [] = (ws.headD []) then (n : Int) else kindF (ws.headD []) n := rfl
      obtain ⟨more, ro, fz, hatw⟩ := (g.ext hL.mod).words
      refine ⟨1, 0, rfl, by omega, by omega, ?_⟩
      refine evV_of (ty := tT) (nmL n) ((load_one hatw (by kernel_rfl)).trans (tab_get (by omega) (by omega))) ?_
      refine evV_of (ty := tS) ⟨some ⟨b, 0, none⟩, ws.length, ws.length⟩ (load_one (hL.at 1 rfl) (by kernel_rfl)) ?_
      refine ⟨b, 0, rfl, by omega, by show (0 : Int) < (ws.length : Int); omega, ?_⟩
      refine evV_of (ty := tT) (ws.headD []) ((load_one hL.p (by kernel_rfl)).trans hg0) ?_
      have hnm : nmL (n : Int) = tabW.getD n [] := by unfold nmL; rw [if_pos (by omega)]; rfl
      rw [hnm]
      refine ifW_of (fun h => ?_) fun h => ?_
      · have h : tabW.getD n [] = (ws.headD []) := by simpa using h
        repeat (first | refine ptrW_of ?_ | refine sameV_of ?_ | (first | refine hL.ld 0 rfl (by kernel_rfl) _ rfl ?_ | refine hL.ld 1 rfl (by kernel_rfl) _ rfl ?_ | refine hL.ld 2 rfl (by kernel_rfl) _ rfl ?_ | refine hL.ld 3 rfl (by kernel_rfl) _ rfl ?_ | refine hL.ld 4 rfl (by kernel_rfl) _ rfl ?_ | refine hL.ld 5 rfl (by kernel_rfl) _ rfl ?_ | refine hL.ld 6 rfl (by kernel_rfl) _ rfl ?_ | refine hL.ld 7 rfl (by kernel_rfl) _ rfl ?_ | refine hL.lda 0 rfl (by kernel_rfl) _ rfl ?_ | refine hL.lda 1 rfl (by kernel_rfl) _ rfl ?_ | refine hL.lda 2 rfl (by kernel_rfl) _ rfl ?_ | refine hL.lda 3 rfl (by kernel_rfl) _ rfl ?_ | refine hL.lda 4 rfl (by kernel_rfl) _ rfl ?_ | refine hL.lda 5 rfl (by kernel_rfl) _ rfl ?_ | refine hL.lda 6 rfl (by kernel_rfl) _ rfl ?_ | refine hL.lda 7 rfl (by kernel_rfl) _ rfl ?_) | (first | refine hLo.ld 0 rfl (by kernel_rfl) _ rfl ?_ | refine hLo.ld 1 rfl (by kernel_rfl) _ rfl ?_ | refine hLo.ld 2 rfl (by kernel_rfl) _ rfl ?_ | refine hLo.ld 3 rfl (by kernel_rfl) _ rfl ?_ | refine hLo.ld 4 rfl (by kernel_rfl) _ rfl ?_ | refine hLo.ld 5 rfl (by kernel_rfl) _ rfl ?_ | refine hLo.ld 6 rfl (by kernel_rfl) _ rfl ?_ | refine hLo.ld 7 rfl (by kernel_rfl) _ rfl ?_ | refine hLo.lda 0 rfl (by kernel_rfl) _ rfl ?_ | refine hLo.lda 1 rfl (by kernel_rfl) _ rfl ?_ | refine hLo.lda 2 rfl (by kernel_rfl) _ rfl ?_ | refine hLo.lda 3 rfl (by kernel_rfl) _ rfl ?_ | refine hLo.lda 4 rfl (by kernel_rfl) _ rfl ?_ | refine hLo.lda 5 rfl (by kernel_rfl) _ rfl ?_ | refine hLo.lda 6 rfl (by kernel_rfl) _ rfl ?_ | refine hLo.lda 7 rfl (by kernel_rfl) _ rfl ?_))
        (first | refine hL.st 0 _ rfl (by kernel_rfl) rfl (Nat.le_of_ble_eq_true rfl) rfl rfl fun S8 hL hn8 => ?_ | refine hL.st 1 _ rfl (by kernel_rfl) rfl (Nat.le_of_ble_eq_true rfl) rfl rfl fun S8 hL hn8 => ?_ | refine hL.st 2 _ rfl (by kernel_rfl) rfl (Nat.le_of_ble_eq_true rfl) rfl rfl fun S8 hL hn8 => ?_ | refine hL.st 3 _ rfl (by kernel_rfl) rfl (Nat.le_of_ble_eq_true rfl) rfl rfl fun S8 hL hn8 => ?_ | refine hL.st 4 _ rfl (by kernel_rfl) rfl (Nat.le_of_ble_eq_true rfl) rfl rfl fun S8 hL hn8 => ?_ | refine hL.st 5 _ rfl (by kernel_rfl) rfl (Nat.le_of_ble_eq_true rfl) rfl rfl fun S8 hL hn8 => ?_ | refine hL.st 6 _ rfl (by kernel_rfl) rfl (Nat.le_of_ble_eq_true rfl) rfl rfl fun S8 hL hn8 => ?_ | refine hL.st 7 _ rfl (by kernel_rfl) rfl (Nat.le_of_ble_eq_true rfl) rfl rfl fun S8 hL hn8 => ?_)
        exact go (by rw [hkf, if_pos ⟨by omega, h⟩]) (by omega) hL
      · have h : ¬ tabW.getD n [] = (ws.headD []) := by simpa using h
        exact go (by rw [hkf, if_neg (fun h' => h h'.2)]) (by omega) hL
    · have hkf : kindF (ws.headD []) (n + 1) = kindF (ws.headD []) n := by
        show (if 0 < n ∧ _ then _ else _) = _
        rw [if_neg (by omega)]
      exact go hkf (by omega) hL
  have hn10 : n = 10 := by omega
  subst hn10
  generalize hkd : kindF (ws.headD []) 10 = kd at hL
  have hcand : candA l = setsO (kd, 0, 0, 0, 0, 0) (partsB kd) ws.tail := by
    unfold candA
    rw [hws]
    dsimp only
    rw [hkd]
  refine evV_of (ty := tS) ⟨some ⟨b, 0, none⟩, ws.length, ws.length⟩ (load_one (hL.at 1 rfl) (by kernel_rfl)) ?_
  refine evV_of (ty := tS) ⟨some ⟨b, cond (Nat.beq ws.length 1) 0 (0 + 1 * 1), none⟩, ws.length - 1, ws.length - 1⟩ (sliceD_some (lo := 1) (hi := ws.length) (mx := ws.length) und78 size9 rfl (show ws.length < inex by omega) (natOf_int (k := .i64) (n := 1)) rfl rfl (by omega) (Nat.le_refl _) (Nat.le_refl _)) ?_
  have ho1 : 0 + 1 < ws.length → cond (Nat.beq ws.length 1) 0 (0 + 1 * 1) = 0 + 1 := fun h => by rw [PM.beq_f (by omega)]; rfl
  generalize cond (Nat.beq ws.length 1) 0 (0 + 1 * 1) = o1 at ho1 ⊢
  (first | refine hL.st 0 _ rfl (by kernel_rfl) rfl (Nat.le_of_ble_eq_true rfl) rfl rfl fun S8 hL hn8 => ?_ | refine hL.st 1 _ rfl (by kernel_rfl) rfl (Nat.le_of_ble_eq_true rfl) rfl rfl fun S8 hL hn8 => ?_ | refine hL.st 2 _ rfl (by kernel_rfl) rfl (Nat.le_of_ble_eq_true rfl) rfl rfl fun S8 hL hn8 => ?_ | refine hL.st 3 _ rfl (by kernel_rfl) rfl (Nat.le_of_ble_eq_true rfl) rfl rfl fun S8 hL hn8 => ?_ | refine hL.st 4 _ rfl (by kernel_rfl) rfl (Nat.le_of_ble_eq_true rfl) rfl rfl fun S8 hL hn8 => ?_ | refine hL.st 5 _ rfl (by kernel_rfl) rfl (Nat.le_of_ble_eq_true rfl) rfl rfl fun S8 hL hn8 => ?_ | refine hL.st 6 _ rfl (by kernel_rfl) rfl (Nat.le_of_ble_eq_true rfl) rfl rfl fun S8 hL hn8 => ?_ | refine hL.st 7 _ rfl (by kernel_rfl) rfl (Nat.le_of_ble_eq_true rfl) rfl rfl fun S8 hL hn8 => ?_)
  refine hL.new fun b10 S9 hL _ _ => ?_
  (first | refine hL.st 0 _ rfl (by kernel_rfl) rfl (Nat.le_of_ble_eq_true rfl) rfl rfl fun S10 hL hn10 => ?_ | refine hL.st 1 _ rfl (by kernel_rfl) rfl (Nat.le_of_ble_eq_true rfl) rfl rfl fun S10 hL hn10 => ?_ | refine hL.st 2 _ rfl (by kernel_rfl) rfl (Nat.le_of_ble_eq_true rfl) rfl rfl fun S10 hL hn10 => ?_ | refine hL.st 3 _ rfl (by kernel_rfl) rfl (Nat.le_of_ble_eq_true rfl) rfl rfl fun S10 hL hn10 => ?_ | refine hL.st 4 _ rfl (by kernel_rfl) rfl (Nat.le_of_ble_eq_true rfl) rfl rfl fun S10 hL hn10 => ?_ | refine hL.st 5 _ rfl (by kernel_rfl) rfl (Nat.le_of_ble_eq_true rfl) rfl rfl fun S10 hL hn10 => ?_ | refine hL.st 6 _ rfl (by kernel_rfl) rfl (Nat.le_of_ble_eq_true rfl) rfl rfl fun S10 hL hn10 => ?_ | refine hL.st 7 _ rfl (by kernel_rfl) rfl (Nat.le_of_ble_eq_true rfl) rfl rfl fun S10 hL hn10 => ?_)
  repeat (first | refine ptrW_of ?_ | refine sameV_of ?_ | (first | refine hL.ld 0 rfl (by kernel_rfl) _ rfl ?_ | refine hL.ld 1 rfl (by kernel_rfl) _ rfl ?_ | refine hL.ld 2 rfl (by kernel_rfl) _ rfl ?_ | refine hL.ld 3 rfl (by kernel_rfl) _ rfl ?_ | refine hL.ld 4 rfl (by kernel_rfl) _ rfl ?_ | refine hL.ld 5 rfl (by kernel_rfl) _ rfl ?_ | refine hL.ld 6 rfl (by kernel_rfl) _ rfl ?_ | refine hL.ld 7 rfl (by kernel_rfl) _ rfl ?_ | refine hL.lda 0 rfl (by kernel_rfl) _ rfl ?_ | refine hL.lda 1 rfl (by kernel_rfl) _ rfl ?_ | refine hL.lda 2 rfl (by kernel_rfl) _ rfl ?_ | refine hL.lda 3 rfl (by kernel_rfl) _ rfl ?_ | refine hL.lda 4 rfl (by kernel_rfl) _ rfl ?_ | refine hL.lda 5 rfl (by kernel_rfl) _ rfl ?_ | refine hL.lda 6 rfl (by kernel_rfl) _ rfl ?_ | refine hL.lda 7 rfl (by kernel_rfl) _ rfl ?_) | (first | refine hLo.ld 0 rfl (by kernel_rfl) _ rfl ?_ | refine hLo.ld 1 rfl (by kernel_rfl) _ rfl ?_ | refine hLo.ld 2 rfl (by kernel_rfl) _ rfl ?_ | refine hLo.ld 3 rfl (by kernel_rfl) _ rfl ?_ | refine hLo.ld 4 rfl (by kernel_rfl) _ rfl ?_ | refine hLo.ld 5 rfl (by kernel_rfl) _ rfl ?_ | refine hLo.ld 6 rfl (by kernel_rfl) _ rfl ?_ | refine hLo.ld 7 rfl (by kernel_rfl) _ rfl ?_ | refine hLo.lda 0 rfl (by kernel_rfl) _ rfl ?_ | refine hLo.lda 1 rfl (by kernel_rfl) _ rfl ?_ | refine hLo.lda 2 rfl (by kernel_rfl) _ rfl ?_ | refine hLo.lda 3 rfl (by kernel_rfl) _ rfl ?_ | refine hLo.lda 4 rfl (by kernel_rfl) _ rfl ?_ | refine hLo.lda 5 rfl (by kernel_rfl) _ rfl ?_ | refine hLo.lda 6 rfl (by kernel_rfl) _ rfl ?_ | refine hLo.lda 7 rfl (by kernel_rfl) _ rfl ?_))
  refine evC_of (w53 _ ?_)
  unfold c53
  refine hL.new fun cK S11 hL _ _ => ?_
  refine ⟨_, rfl, ?_⟩
  refine hL.new fun b13 S12 hL _ _ => ?_
  rintro b14 S13 L rfl rfl hLL hR
  have hL := hL.record (o := L .ready none)
  generalize (S12.alloc (L .ready none)).2 = S13 at hL ⊢
  generalize hb14 : S12.next = b14 at hL hR ⊢
  have hpl := parts_len kd
  refine WG_of rfl (s74 (kind := kd) (fun i S' => ∃ o, Cx noB S S' (boxesR b14 b13 cK b10 b3 b2 b1 (L .ready none) kd (setsO (kd, 0, 0, 0, 0, 0) ((partsB kd).take i) ws.tail) ⟨some ⟨b, o, none⟩, ws.length - (i + 1), ws.length - (i + 1)⟩) (fun c => c = b) (fun S => At S b (.cells (ws.map strV) none false none)) ∧ (i + 1 < ws.length → o = i + 1)) (hL.at 2 rfl) ⟨o1, hL, ho1⟩ ?_ ?_)
  · rintro i hi S' ⟨o, hL, ho⟩
    refine hR _ S' _ ?_
    have hsucc := setsO_succ (x := (kd, 0, 0, 0, 0, 0)) (l := ws.tail) hi
    rw [tail_getD] at hsucc
    generalize setsO (kd, 0, 0, 0, 0, 0) ((partsB kd).take i) ws.tail = y at hL hsucc
    generalize hc : (((partsB kd)[i].toNat : Nat) : Int) = c at hsucc ⊢
    have hwl : (ws.getD (i + 1) []).length ≤ l.length := by rw [← hws]; exact wd_getD l (i + 1)
    (first | refine hL.has 0 rfl ?_ | refine hL.has 1 rfl ?_ | refine hL.has 2 rfl ?_ | refine hL.has 3 rfl ?_ | refine hL.has 4 rfl ?_ | refine hL.has 5 rfl ?_ | refine hL.has 6 rfl ?_ | refine hL.has 7 rfl ?_)
    (first | refine hL.has 0 rfl ?_ | refine hL.has 1 rfl ?_ | refine hL.has 2 rfl ?_ | refine hL.has 3 rfl ?_ | refine hL.has 4 rfl ?_ | refine hL.has 5 rfl ?_ | refine hL.has 6 rfl ?_ | refine hL.has 7 rfl ?_)
    (first | refine hL.upd 0 rfl fun S' hL hn' => ?_ | refine hL.upd 1 rfl fun S' hL hn' => ?_ | refine hL.upd 2 rfl fun S' hL hn' => ?_ | refine hL.upd 3 rfl fun S' hL hn' => ?_ | refine hL.upd 4 rfl fun S' hL hn' => ?_ | refine hL.upd 5 rfl fun S' hL hn' => ?_ | refine hL.upd 6 rfl fun S' hL hn' => ?_ | refine hL.upd 7 rfl fun S' hL hn' => ?_)
    (first | refine hL.ld 0 rfl (by kernel_rfl) _ rfl ?_ | refine hL.ld 1 rfl (by kernel_rfl) _ rfl ?_ | refine hL.ld 2 rfl (by kernel_rfl) _ rfl ?_ | refine hL.ld 3 rfl (by kernel_rfl) _ rfl ?_ | refine hL.ld 4 rfl (by kernel_rfl) _ rfl ?_ | refine hL.ld 5 rfl (by kernel_rfl) _ rfl ?_ | refine hL.ld 6 rfl (by kernel_rfl) _ rfl ?_ | refine hL.ld 7 rfl (by kernel_rfl) _ rfl ?_ | refine hL.lda 0 rfl (by kernel_rfl) _ rfl ?_ | refine hL.lda 1 rfl (by kernel_rfl) _ rfl ?_ | refine hL.lda 2 rfl (by kernel_rfl) _ rfl ?_ | refine hL.lda 3 rfl (by kernel_rfl) _ rfl ?_ | refine hL.lda 4 rfl (by kernel_rfl) _ rfl ?_ | refine hL.lda 5 rfl (by kernel_rfl) _ rfl ?_ | refine hL.lda 6 rfl (by kernel_rfl) _ rfl ?_ | refine hL.lda 7 rfl (by kernel_rfl) _ rfl ?_)
    refine evY_func ?_
    refine evC_of (s67 (j := i + 1) (hL.at 5 rfl) hL.p rfl (by omega) ho fun S16 o' ho' m h' hn16 => ⟨_, rfl, ?_⟩)
    have hL := hL.set 5 rfl m h'
    generalize ws.getD (i + 1) [] = w at hsucc hwl ⊢
    refine evC_of (s66 (g.ext hL.mod) (by omega) fun e => ⟨(atoiN w, e), rfl, ?_⟩)
    have fin : ∀ {S' : St} {y' : Ord} {Q : St → Prop}, setO y c w = y' → Cx noB S S' (boxesR b14 b13 cK b10 b3 b2 b1 (L .busy none) kd y' ⟨some ⟨b, o', none⟩, ws.length - (i + 1 + 1), ws.length - (i + 1 + 1)⟩) (fun c => c = b) (fun S => At S b (.cells (ws.map strV) none false none)) →
        hasW S' b14 (L .busy none) (updW S' b14 (L .ready none) fun S'' => (true = true → ∃ o, Cx noB S S'' (boxesR b14 b13 cK b10 b3 b2 b1 (L .ready none) kd (setsO (kd, 0, 0, 0, 0, 0) ((partsB kd).take (i + 1)) ws.tail) ⟨some ⟨b, o, none⟩, ws.length - (i + 1 + 1), ws.length - (i + 1 + 1)⟩) (fun c => c = b) (fun S => At S b (.cells (ws.map strV) none false none)) ∧ (i + 1 + 1 < ws.length → o = i + 1 + 1)) ∧
          (true = false → Q S'')) := by
      intro S' y' Q hy hL
      subst hy
      (first | refine hL.has 0 rfl ?_ | refine hL.has 1 rfl ?_ | refine hL.has 2 rfl ?_ | refine hL.has 3 rfl ?_ | refine hL.has 4 rfl ?_ | refine hL.has 5 rfl ?_ | refine hL.has 6 rfl ?_ | refine hL.has 7 rfl ?_)
      refine hL.upd 0 rfl fun S17 hL hn' => ?_
      exact ⟨fun _ => ⟨o', by rw [hsucc]; exact hL, ho'⟩, fun h => by cases h⟩
    refine ifW_dec (fun h1 => ?_) fun h1 => ?_
    · refine ptrW_of ?_
      (first | refine hL.st 0 _ rfl (by kernel_rfl) rfl (Nat.le_of_ble_eq_true rfl) rfl rfl fun S18 hL hn18 => ?_ | refine hL.st 1 _ rfl (by kernel_rfl) rfl (Nat.le_of_ble_eq_true rfl) rfl rfl fun S18 hL hn18 => ?_ | refine hL.st 2 _ rfl (by kernel_rfl) rfl (Nat.le_of_ble_eq_true rfl) rfl rfl fun S18 hL hn18 => ?_ | refine hL.st 3 _ rfl (by kernel_rfl) rfl (Nat.le_of_ble_eq_true rfl) rfl rfl fun S18 hL hn18 => ?_ | refine hL.st 4 _ rfl (by kernel_rfl) rfl (Nat.le_of_ble_eq_true rfl) rfl rfl fun S18 hL hn18 => ?_ | refine hL.st 5 _ rfl (by kernel_rfl) rfl (Nat.le_of_ble_eq_true rfl) rfl rfl fun S18 hL hn18 => ?_ | refine hL.st 6 _ rfl (by kernel_rfl) rfl (Nat.le_of_ble_eq_true rfl) rfl rfl fun S18 hL hn18 => ?_ | refine hL.st 7 _ rfl (by kernel_rfl) rfl (Nat.le_of_ble_eq_true rfl) rfl rfl fun S18 hL hn18 => ?_)
      exact fin (y' := (y.1, atoiN w, y.2.2)) (by unfold setO; rw [if_pos h1]) hL
    refine ifW_dec (fun h2 => ?_) fun h2 => ?_
    · refine evC_of (s68 (g.ext hL.mod) (by omega) fun e => ⟨(puN w, e), rfl, ?_⟩)
      refine ptrW_of ?_
      (first | refine hL.st 0 _ rfl (by kernel_rfl) rfl (Nat.le_of_ble_eq_true rfl) rfl rfl fun S18 hL hn18 => ?_ | refine hL.st 1 _ rfl (by kernel_rfl) rfl (Nat.le_of_ble_eq_true rfl) rfl rfl fun S18 hL hn18 => ?_ | refine hL.st 2 _ rfl (by kernel_rfl) rfl (Nat.le_of_ble_eq_true rfl) rfl rfl fun S18 hL hn18 => ?_ | refine hL.st 3 _ rfl (by kernel_rfl) rfl (Nat.le_of_ble_eq_true rfl) rfl rfl fun S18 hL hn18 => ?_ | refine hL.st 4 _ rfl (by kernel_rfl) rfl (Nat.le_of_ble_eq_true rfl) rfl rfl fun S18 hL hn18 => ?_ | refine hL.st 5 _ rfl (by kernel_rfl) rfl (Nat.le_of_ble_eq_true rfl) rfl rfl fun S18 hL hn18 => ?_ | refine hL.st 6 _ rfl (by kernel_rfl) rfl (Nat.le_of_ble_eq_true rfl) rfl rfl fun S18 hL hn18 => ?_ | refine hL.st 7 _ rfl (by kernel_rfl) rfl (Nat.le_of_ble_eq_true rfl) rfl rfl fun S18 hL hn18 => ?_)
      exact fin (y' := (y.1, y.2.1, y.2.2.1, y.2.2.2.1, y.2.2.2.2.1, puN w)) (by unfold setO; rw [if_neg h1, if_pos h2]) hL
    refine ifW_dec (fun h3 => ?_) fun h3 => ?_
    · refine ptrW_of ?_
      (first | refine hL.st 0 _ rfl (by kernel_rfl) rfl (Nat.le_of_ble_eq_true rfl) rfl rfl fun S18 hL hn18 => ?_ | refine hL.st 1 _ rfl (by kernel_rfl) rfl (Nat.le_of_ble_eq_true rfl) rfl rfl fun S18 hL hn18 => ?_ | refine hL.st 2 _ rfl (by kernel_rfl) rfl (Nat.le_of_ble_eq_true rfl) rfl rfl fun S18 hL hn18 => ?_ | refine hL.st 3 _ rfl (by kernel_rfl) rfl (Nat.le_of_ble_eq_true rfl) rfl rfl fun S18 hL hn18 => ?_ | refine hL.st 4 _ rfl (by kernel_rfl) rfl (Nat.le_of_ble_eq_true rfl) rfl rfl fun S18 hL hn18 => ?_ | refine hL.st 5 _ rfl (by kernel_rfl) rfl (Nat.le_of_ble_eq_true rfl) rfl rfl fun S18 hL hn18 => ?_ | refine hL.st 6 _ rfl (by kernel_rfl) rfl (Nat.le_of_ble_eq_true rfl) rfl rfl fun S18 hL hn18 => ?_ | refine hL.st 7 _ rfl (by kernel_rfl) rfl (Nat.le_of_ble_eq_true rfl) rfl rfl fun S18 hL hn18 => ?_)
      exact fin (y' := (y.1, y.2.1, y.2.2.1, atoiN w, y.2.2.2.2)) (by unfold setO; rw [if_neg h1, if_neg h2, if_pos h3]) hL
    refine ifW_dec (fun h4 => ?_) fun h4 => ?_
    · refine ptrW_of ?_
      (first | refine hL.st 0 _ rfl (by kernel_rfl) rfl (Nat.le_of_ble_eq_true rfl) rfl rfl fun S18 hL hn18 => ?_ | refine hL.st 1 _ rfl (by kernel_rfl) rfl (Nat.le_of_ble_eq_true rfl) rfl rfl fun S18 hL hn18 => ?_ | refine hL.st 2 _ rfl (by kernel_rfl) rfl (Nat.le_of_ble_eq_true rfl) rfl rfl fun S18 hL hn18 => ?_ | refine hL.st 3 _ rfl (by kernel_rfl) rfl (Nat.le_of_ble_eq_true rfl) rfl rfl fun S18 hL hn18 => ?_ | refine hL.st 4 _ rfl (by kernel_rfl) rfl (Nat.le_of_ble_eq_true rfl) rfl rfl fun S18 hL hn18 => ?_ | refine hL.st 5 _ rfl (by kernel_rfl) rfl (Nat.le_of_ble_eq_true rfl) rfl rfl fun S18 hL hn18 => ?_ | refine hL.st 6 _ rfl (by kernel_rfl) rfl (Nat.le_of_ble_eq_true rfl) rfl rfl fun S18 hL hn18 => ?_ | refine hL.st 7 _ rfl (by kernel_rfl) rfl (Nat.le_of_ble_eq_true rfl) rfl rfl fun S18 hL hn18 => ?_)
      exact fin (y' := (y.1, y.2.1, y.2.2.1, y.2.2.2.1, atoiN w, y.2.2.2.2.2)) (by unfold setO; rw [if_neg h1, if_neg h2, if_neg h3, if_pos h4]) hL
    refine ptrW_of ?_
    (first | refine hL.st 0 _ rfl (by kernel_rfl) rfl (Nat.le_of_ble_eq_true rfl) rfl rfl fun S18 hL hn18 => ?_ | refine hL.st 1 _ rfl (by kernel_rfl) rfl (Nat.le_of_ble_eq_true rfl) rfl rfl fun S18 hL hn18 => ?_ | refine hL.st 2 _ rfl (by kernel_rfl) rfl (Nat.le_of_ble_eq_true rfl) rfl rfl fun S18 hL hn18 => ?_ | refine hL.st 3 _ rfl (by kernel_rfl) rfl (Nat.le_of_ble_eq_true rfl) rfl rfl fun S18 hL hn18 => ?_ | refine hL.st 4 _ rfl (by kernel_rfl) rfl (Nat.le_of_ble_eq_true rfl) rfl rfl fun S18 hL hn18 => ?_ | refine hL.st 5 _ rfl (by kernel_rfl) rfl (Nat.le_of_ble_eq_true rfl) rfl rfl fun S18 hL hn18 => ?_ | refine hL.st 6 _ rfl (by kernel_rfl) rfl (Nat.le_of_ble_eq_true rfl) rfl rfl fun S18 hL hn18 => ?_ | refine hL.st 7 _ rfl (by kernel_rfl) rfl (Nat.le_of_ble_eq_true rfl) rfl rfl fun S18 hL hn18 => ?_)
    refine ifW_dec (fun h5 => ?_) fun h5 => ?_
    · refine ifW_of (fun h6 => ?_) fun h6 => ?_
      · have h6 : w = allT := by simpa using h6
        refine ptrW_of ?_
        (first | refine hL.st 0 _ rfl (by kernel_rfl) rfl (Nat.le_of_ble_eq_true rfl) rfl rfl fun S19 hL hn19 => ?_ | refine hL.st 1 _ rfl (by kernel_rfl) rfl (Nat.le_of_ble_eq_true rfl) rfl rfl fun S19 hL hn19 => ?_ | refine hL.st 2 _ rfl (by kernel_rfl) rfl (Nat.le_of_ble_eq_true rfl) rfl rfl fun S19 hL hn19 => ?_ | refine hL.st 3 _ rfl (by kernel_rfl) rfl (Nat.le_of_ble_eq_true rfl) rfl rfl fun S19 hL hn19 => ?_ | refine hL.st 4 _ rfl (by kernel_rfl) rfl (Nat.le_of_ble_eq_true rfl) rfl rfl fun S19 hL hn19 => ?_ | refine hL.st 5 _ rfl (by kernel_rfl) rfl (Nat.le_of_ble_eq_true rfl) rfl rfl fun S19 hL hn19 => ?_ | refine hL.st 6 _ rfl (by kernel_rfl) rfl (Nat.le_of_ble_eq_true rfl) rfl rfl fun S19 hL hn19 => ?_ | refine hL.st 7 _ rfl (by kernel_rfl) rfl (Nat.le_of_ble_eq_true rfl) rfl rfl fun S19 hL hn19 => ?_)
        exact fin (y' := (y.1, y.2.1, -1, y.2.2.2)) (by unfold setO; rw [if_neg h1, if_neg h2, if_neg h3, if_neg h4, if_pos ⟨h5, h6⟩]) hL
      · have h6 : ¬ w = allT := by simpa using h6
        exact fin (y' := (y.1, y.2.1, atoiN w, y.2.2.2)) (by unfold setO; rw [if_neg h1, if_neg h2, if_neg h3, if_neg h4, if_neg (fun h => h6 h.2)]) hL
    · exact fin (y' := (y.1, y.2.1, atoiN w, y.2.2.2)) (by unfold setO; rw [if_neg h1, if_neg h2, if_neg h3, if_neg h4, if_neg (fun h => h5 h.1)]) hL
  · rintro S' ⟨o, hL, _⟩
    refine .inl ?_
    rw [List.take_length, ← hcand] at hL
    have hcw := candA_w l
    generalize candA l = cA at hL hk hcw
    (first | refine hL.has 0 rfl ?_ | refine hL.has 1 rfl ?_ | refine hL.has 2 rfl ?_ | refine hL.has 3 rfl ?_ | refine hL.has 4 rfl ?_ | refine hL.has 5 rfl ?_ | refine hL.has 6 rfl ?_ | refine hL.has 7 rfl ?_)
    (first | refine hL.upd 0 rfl fun S' hL hn' => ?_ | refine hL.upd 1 rfl fun S' hL hn' => ?_ | refine hL.upd 2 rfl fun S' hL hn' => ?_ | refine hL.upd 3 rfl fun S' hL hn' => ?_ | refine hL.upd 4 rfl fun S' hL hn' => ?_ | refine hL.upd 5 rfl fun S' hL hn' => ?_ | refine hL.upd 6 rfl fun S' hL hn' => ?_ | refine hL.upd 7 rfl fun S' hL hn' => ?_)
    (first | refine hL.ld 0 rfl (by kernel_rfl) _ rfl ?_ | refine hL.ld 1 rfl (by kernel_rfl) _ rfl ?_ | refine hL.ld 2 rfl (by kernel_rfl) _ rfl ?_ | refine hL.ld 3 rfl (by kernel_rfl) _ rfl ?_ | refine hL.ld 4 rfl (by kernel_rfl) _ rfl ?_ | refine hL.ld 5 rfl (by kernel_rfl) _ rfl ?_ | refine hL.ld 6 rfl (by kernel_rfl) _ rfl ?_ | refine hL.ld 7 rfl (by kernel_rfl) _ rfl ?_ | refine hL.lda 0 rfl (by kernel_rfl) _ rfl ?_ | refine hL.lda 1 rfl (by kernel_rfl) _ rfl ?_ | refine hL.lda 2 rfl (by kernel_rfl) _ rfl ?_ | refine hL.lda 3 rfl (by kernel_rfl) _ rfl ?_ | refine hL.lda 4 rfl (by kernel_rfl) _ rfl ?_ | refine hL.lda 5 rfl (by kernel_rfl) _ rfl ?_ | refine hL.lda 6 rfl (by kernel_rfl) _ rfl ?_ | refine hL.lda 7 rfl (by kernel_rfl) _ rfl ?_)
    refine evC_of (s32 (g.ext hL.mod) hcw fun S35 e35 => ⟨((lineP cA).1, (lineP cA).2), rfl, ?_⟩)
    have hL := hL.ext e35
    unfold readP at hk
    by_cases hm : mayP cA
    · have hlp : lineP cA = (lineL cA, 0) := if_pos hm
      rw [hlp]
      refine ifW_ndec (fun h => (h rfl).elim) fun _ => ?_
      refine ifW_of (fun h => ?_) fun h => ?_
      · have h : ¬ lineL cA = l := by simpa using h
        rw [if_neg (fun h' => h h'.2)] at hk
        (first | refine hL.st 0 _ rfl (by kernel_rfl) rfl (Nat.le_of_ble_eq_true rfl) rfl rfl fun S36 hL hn36 => ?_ | refine hL.st 1 _ rfl (by kernel_rfl) rfl (Nat.le_of_ble_eq_true rfl) rfl rfl fun S36 hL hn36 => ?_ | refine hL.st 2 _ rfl (by kernel_rfl) rfl (Nat.le_of_ble_eq_true rfl) rfl rfl fun S36 hL hn36 => ?_ | refine hL.st 3 _ rfl (by kernel_rfl) rfl (Nat.le_of_ble_eq_true rfl) rfl rfl fun S36 hL hn36 => ?_ | refine hL.st 4 _ rfl (by kernel_rfl) rfl (Nat.le_of_ble_eq_true rfl) rfl rfl fun S36 hL hn36 => ?_ | refine hL.st 5 _ rfl (by kernel_rfl) rfl (Nat.le_of_ble_eq_true rfl) rfl rfl fun S36 hL hn36 => ?_ | refine hL.st 6 _ rfl (by kernel_rfl) rfl (Nat.le_of_ble_eq_true rfl) rfl rfl fun S36 hL hn36 => ?_ | refine hL.st 7 _ rfl (by kernel_rfl) rfl (Nat.le_of_ble_eq_true rfl) rfl rfl fun S36 hL hn36 => ?_)
        (first | refine hL.has 0 rfl ?_ | refine hL.has 1 rfl ?_ | refine hL.has 2 rfl ?_ | refine hL.has 3 rfl ?_ | refine hL.has 4 rfl ?_ | refine hL.has 5 rfl ?_ | refine hL.has 6 rfl ?_ | refine hL.has 7 rfl ?_)
        refine hL.upd 1 rfl fun S37 hL hn' => ?_
        (first | refine hL.ld 0 rfl (by kernel_rfl) _ rfl ?_ | refine hL.ld 1 rfl (by kernel_rfl) _ rfl ?_ | refine hL.ld 2 rfl (by kernel_rfl) _ rfl ?_ | refine hL.ld 3 rfl (by kernel_rfl) _ rfl ?_ | refine hL.ld 4 rfl (by kernel_rfl) _ rfl ?_ | refine hL.ld 5 rfl (by kernel_rfl) _ rfl ?_ | refine hL.ld 6 rfl (by kernel_rfl) _ rfl ?_ | refine hL.ld 7 rfl (by kernel_rfl) _ rfl ?_ | refine hL.lda 0 rfl (by kernel_rfl) _ rfl ?_ | refine hL.lda 1 rfl (by kernel_rfl) _ rfl ?_ | refine hL.lda 2 rfl (by kernel_rfl) _ rfl ?_ | refine hL.lda 3 rfl (by kernel_rfl) _ rfl ?_ | refine hL.lda 4 rfl (by kernel_rfl) _ rfl ?_ | refine hL.lda 5 rfl (by kernel_rfl) _ rfl ?_ | refine hL.lda 6 rfl (by kernel_rfl) _ rfl ?_ | refine hL.lda 7 rfl (by kernel_rfl) _ rfl ?_)
        exact hk S37 hL.mod
      · have h : lineL cA = l := by simpa using h
        rw [if_pos ⟨hm, h⟩] at hk
        (first | refine hL.ld 0 rfl (by kernel_rfl) _ rfl ?_ | refine hL.ld 1 rfl (by kernel_rfl) _ rfl ?_ | refine hL.ld 2 rfl (by kernel_rfl) _ rfl ?_ | refine hL.ld 3 rfl (by kernel_rfl) _ rfl ?_ | refine hL.ld 4 rfl (by kernel_rfl) _ rfl ?_ | refine hL.ld 5 rfl (by kernel_rfl) _ rfl ?_ | refine hL.ld 6 rfl (by kernel_rfl) _ rfl ?_ | refine hL.ld 7 rfl (by kernel_rfl) _ rfl ?_ | refine hL.lda 0 rfl (by kernel_rfl) _ rfl ?_ | refine hL.lda 1 rfl (by kernel_rfl) _ rfl ?_ | refine hL.lda 2 rfl (by kernel_rfl) _ rfl ?_ | refine hL.lda 3 rfl (by kernel_rfl) _ rfl ?_ | refine hL.lda 4 rfl (by kernel_rfl) _ rfl ?_ | refine hL.lda 5 rfl (by kernel_rfl) _ rfl ?_ | refine hL.lda 6 rfl (by kernel_rfl) _ rfl ?_ | refine hL.lda 7 rfl (by kernel_rfl) _ rfl ?_)
        (first | refine hL.st 0 _ rfl (by kernel_rfl) rfl (Nat.le_of_ble_eq_true rfl) rfl rfl fun S36 hL hn36 => ?_ | refine hL.st 1 _ rfl (by kernel_rfl) rfl (Nat.le_of_ble_eq_true rfl) rfl rfl fun S36 hL hn36 => ?_ | refine hL.st 2 _ rfl (by kernel_rfl) rfl (Nat.le_of_ble_eq_true rfl) rfl rfl fun S36 hL hn36 => ?_ | refine hL.st 3 _ rfl (by kernel_rfl) rfl (Nat.le_of_ble_eq_true rfl) rfl rfl fun S36 hL hn36 => ?_ | refine hL.st 4 _ rfl (by kernel_rfl) rfl (Nat.le_of_ble_eq_true rfl) rfl rfl fun S36 hL hn36 => ?_ | refine hL.st 5 _ rfl (by kernel_rfl) rfl (Nat.le_of_ble_eq_true rfl) rfl rfl fun S36 hL hn36 => ?_ | refine hL.st 6 _ rfl (by kernel_rfl) rfl (Nat.le_of_ble_eq_true rfl) rfl rfl fun S36 hL hn36 => ?_ | refine hL.st 7 _ rfl (by kernel_rfl) rfl (Nat.le_of_ble_eq_true rfl) rfl rfl fun S36 hL hn36 => ?_)
        (first | refine hL.has 0 rfl ?_ | refine hL.has 1 rfl ?_ | refine hL.has 2 rfl ?_ | refine hL.has 3 rfl ?_ | refine hL.has 4 rfl ?_ | refine hL.has 5 rfl ?_ | refine hL.has 6 rfl ?_ | refine hL.has 7 rfl ?_)
        refine hL.upd 1 rfl fun S37 hL hn' => ?_
        refine hL.lda 6 rfl (by kernel_rfl) cA rfl ?_
        exact hk S37 hL.mod
    · have hlp : lineP cA = ([], 230) := if_neg hm
      rw [hlp]
      rw [if_neg (fun h' => hm h'.1)] at hk
      refine ifW_ndec (fun _ => ?_) fun h => by cases h
      (first | refine hL.st 0 _ rfl (by kernel_rfl) rfl (Nat.le_of_ble_eq_true rfl) rfl rfl fun S36 hL hn36 => ?_ | refine hL.st 1 _ rfl (by kernel_rfl) rfl (Nat.le_of_ble_eq_true rfl) rfl rfl fun S36 hL hn36 => ?_ | refine hL.st 2 _ rfl (by kernel_rfl) rfl (Nat.le_of_ble_eq_true rfl) rfl rfl fun S36 hL hn36 => ?_ | refine hL.st 3 _ rfl (by kernel_rfl) rfl (Nat.le_of_ble_eq_true rfl) rfl rfl fun S36 hL hn36 => ?_ | refine hL.st 4 _ rfl (by kernel_rfl) rfl (Nat.le_of_ble_eq_true rfl) rfl rfl fun S36 hL hn36 => ?_ | refine hL.st 5 _ rfl (by kernel_rfl) rfl (Nat.le_of_ble_eq_true rfl) rfl rfl fun S36 hL hn36 => ?_ | refine hL.st 6 _ rfl (by kernel_rfl) rfl (Nat.le_of_ble_eq_true rfl) rfl rfl fun S36 hL hn36 => ?_ | refine hL.st 7 _ rfl (by kernel_rfl) rfl (Nat.le_of_ble_eq_true rfl) rfl rfl fun S36 hL hn36 => ?_)
      (first | refine hL.has 0 rfl ?_ | refine hL.has 1 rfl ?_ | refine hL.has 2 rfl ?_ | refine hL.has 3 rfl ?_ | refine hL.has 4 rfl ?_ | refine hL.has 5 rfl ?_ | refine hL.has 6 rfl ?_ | refine hL.has 7 rfl ?_)
      refine hL.upd 1 rfl fun S37 hL hn' => ?_
      (first | refine hL.ld 0 rfl (by kernel_rfl) _ rfl ?_ | refine hL.ld 1 rfl (by kernel_rfl) _ rfl ?_ | refine hL.ld 2 rfl (by kernel_rfl) _ rfl ?_ | refine hL.ld 3 rfl (by kernel_rfl) _ rfl ?_ | refine hL.ld 4 rfl (by kernel_rfl) _ rfl ?_ | refine hL.ld 5 rfl (by kernel_rfl) _ rfl ?_ | refine hL.ld 6 rfl (by kernel_rfl) _ rfl ?_ | refine hL.ld 7 rfl (by kernel_rfl) _ rfl ?_ | refine hL.lda 0 rfl (by kernel_rfl) _ rfl ?_ | refine hL.lda 1 rfl (by kernel_rfl) _ rfl ?_ | refine hL.lda 2 rfl (by kernel_rfl) _ rfl ?_ | refine hL.lda 3 rfl (by kernel_rfl) _ rfl ?_ | refine hL.lda 4 rfl (by kernel_rfl) _ rfl ?_ | refine hL.lda 5 rfl (by kernel_rfl) _ rfl ?_ | refine hL.lda 6 rfl (by kernel_rfl) _ rfl ?_ | refine hL.lda 7 rfl (by kernel_rfl) _ rfl ?_)
      exact hk S37 hL.mod
end
end Go.Proofs.YtfopfocedlbihaaGreatDoor
