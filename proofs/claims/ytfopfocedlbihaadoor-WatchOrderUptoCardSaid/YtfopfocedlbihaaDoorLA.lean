/- Parts of the proof, put together. -/
import Derived.Test.YtfopfocedlbihaaDoorDE
import Derived.Lib.SplitLaws
import Derived.Lib.IndexBytes
import Derived.Lib.ItoaNum
import Derived.Lib.ItoaMem
/- Orders' lines: words, digits (plain). -/
namespace Go.Proofs.YtfopfocedlbihaaDoor
open Go Go.Proofs.YtfopfocedlbihaaDoor.D
set_option linter.unusedVariables false
set_option linter.unusedSimpArgs false
noncomputable section

/-! ### Words, parted by each blank -/
def headC (c : UInt8) : List (List UInt8) → List (List UInt8)
  | [] => [[c]]
  | h :: t => (c :: h) :: t
def wd : List UInt8 → List (List UInt8)
  | [] => [[]]
  | c :: r => if c = 32 then [] :: wd r else headC c (wd r)
theorem wd_ne (s : List UInt8) : wd s ≠ [] := by
  cases s with
  | nil => simp [wd]
  | cons c r =>
    unfold wd
    split
    · simp
    · cases h : wd r <;> simp [headC]
theorem splitK_cons {c : UInt8} (hc : c ≠ 32) : ∀ (k : Nat) (r : List UInt8), Lib.splitK [32] 0 k (c :: r) = headC c (Lib.splitK [32] 0 k r)
  | 0, r => rfl
  | k + 1, r => by
    have hp : ([32] : List UInt8).isPrefixOf (c :: r) = false := by simp [List.isPrefixOf]; exact fun h => hc h.symm
    have hi : Lib.index (c :: r) [32] = if Lib.index r [32] == -1 then -1 else Lib.index r [32] + 1 := by
      show (if ([32] : List UInt8).isPrefixOf (c :: r) then (0 : Int) else _) = _
      rw [hp]; rfl
    have hge := Lib.index_ge r [32]
    unfold Lib.splitK
    by_cases h : Lib.index r [32] = -1
    · have e : Lib.index (c :: r) [32] = -1 := by rw [hi, h]; rfl
      rw [e, h]; rfl
    · have h1 : (Lib.index r [32] == -1) = false := by simpa using h
      have e : Lib.index (c :: r) [32] = Lib.index r [32] + 1 := by rw [hi, h1]; rfl
      have h2 : (Lib.index r [32] + 1 == -1) = false := by simp; omega
      rw [e, h1, h2]
      have e2 : (Lib.index r [32] + 1).toNat = (Lib.index r [32]).toNat + 1 := by omega
      simp only [Bool.false_eq_true, if_false, e2, headC, List.length_singleton, Nat.add_zero, List.take_succ_cons, List.drop_succ_cons]
theorem splitK_wd : ∀ (s : List UInt8), Lib.splitK [32] 0 (s.count 32) s = wd s
  | [] => rfl
  | c :: r => by
    have ih := splitK_wd r
    by_cases hc : c = 32
    · subst hc
      rw [List.count_cons_self]
      unfold wd Lib.splitK
      have hi : Lib.index (32 :: r) [32] = 0 := by
        show (if ([32] : List UInt8).isPrefixOf (32 :: r) then (0 : Int) else _) = _
        simp [List.isPrefixOf]
      rw [hi]
      simp [ih]
    · rw [List.count_cons_of_ne hc, splitK_cons hc, ih]
      show _ = (if c = 32 then _ else _)
      rw [if_neg hc]
abbrev bar (l : List UInt8) : ByteArray := ⟨l.toArray⟩
theorem bar_list (l : List UInt8) : (bar l).data.toList = l := by simp [bar]
theorem bar_of (b : ByteArray) : bar b.data.toList = b := by cases b; rfl
theorem splitB_wd (s : List UInt8) : Lib.splitB (bar [32]) 0 (Lib.countB (bar s) (bar [32])) (bar s) = (wd s).map bar := by
  have h := Lib.splitB_data (bar [32]) 0 (Lib.countB (bar s) (bar [32])) (bar s)
  have hc : Lib.countB (bar s) (bar [32]) = s.count 32 := by
    show Lib.count (bar s).data.toList (bar [32]).data.toList = _
    rw [bar_list, bar_list, Lib.count_one]
  rw [hc] at h ⊢
  rw [bar_list, bar_list, splitK_wd] at h
  rw [← h, List.map_map]
  conv => lhs; rw [← List.map_id (Lib.splitB _ _ _ _)]
  exact List.map_congr_left fun b _ => (bar_of b).symm
theorem count_wd (s : List UInt8) : Lib.countB (bar s) (bar [32]) + 1 = (wd s).length := by
  have h := Lib.splitB_all (bar [32]) (by simp [bar, ByteArray.size]) 0 _ (bar s) rfl
  rw [splitB_wd, List.length_map] at h
  omega
theorem wd_snoc_sp : ∀ (l : List UInt8), wd (l ++ [32]) = wd l ++ [[]]
  | [] => rfl
  | c :: r => by
    have ih := wd_snoc_sp r
    rw [show r ++ [32] = r.append [32] from rfl] at ih
    show (if c = 32 then _ else _) = (if c = 32 then _ else _) ++ _
    split
    · rw [ih]; rfl
    · rw [ih]
      cases h : wd r with
      | nil => exact (wd_ne r h).elim
      | cons h t => rfl
def lastC (c : UInt8) : List (List UInt8) → List (List UInt8)
  | [] => []
  | [w] => [w ++ [c]]
  | w :: t => w :: lastC c t
theorem lastC_cons {c : UInt8} {w : List UInt8} {t : List (List UInt8)} (h : t ≠ []) : lastC c (w :: t) = w :: lastC c t := by
  cases t with
  | nil => exact (h rfl).elim
  | cons _ _ => rfl
theorem headC_last {b c : UInt8} {l : List (List UInt8)} (h : l ≠ []) : headC b (lastC c l) = lastC c (headC b l) := by
  cases l with
  | nil => exact (h rfl).elim
  | cons w t => cases t <;> rfl
theorem wd_snoc {c : UInt8} (hc : c ≠ 32) : ∀ (l : List UInt8), wd (l ++ [c]) = lastC c (wd l)
  | [] => by show (if c = 32 then _ else _) = _; rw [if_neg hc]; rfl
  | b :: r => by
    have ih := wd_snoc hc r
    rw [show r ++ [c] = r.append [c] from rfl] at ih
    show (if b = 32 then _ else _) = lastC c (if b = 32 then _ else _)
    split
    · rw [ih, lastC_cons (wd_ne r)]
    · rw [ih, headC_last (wd_ne r)]
theorem wd_one : ∀ {w : List UInt8}, (32 : UInt8) ∉ w → wd w = [w]
  | [], _ => rfl
  | c :: r, h => by
    have hc : c ≠ 32 := fun e => h (by simp [e])
    show (if c = 32 then _ else _) = _
    rw [if_neg hc, wd_one (fun e => h (by simp [e]))]
    rfl
theorem wd_app : ∀ {w : List UInt8} (r : List UInt8), (32 : UInt8) ∉ w → wd (w ++ 32 :: r) = w :: wd r
  | [], r, _ => by show (if (32 : UInt8) = 32 then _ else _) = _; rw [if_pos rfl]
  | c :: w, r, h => by
    have hc : c ≠ 32 := fun e => h (by simp [e])
    show (if c = 32 then _ else _) = _
    rw [if_neg hc]
    have ih := wd_app (w := w) r (fun e => h (by simp [e]))
    rw [show w ++ 32 :: r = w.append (32 :: r) from rfl] at ih
    rw [ih]
    rfl
/-- Words joined by blanks. -/
def jn (ws : List (List UInt8)) : List UInt8 := Lib.join ws [32]
theorem jn_one (w : List UInt8) : jn [w] = w := Lib.join_one _ _
theorem jn_cons (w v : List UInt8) (r : List (List UInt8)) : jn (w :: v :: r) = w ++ 32 :: jn (v :: r) := by
  unfold jn
  rw [Lib.join_cons, Lib.join_cons]
  simp [Lib.joinTail]
theorem wd_jn : ∀ {ws : List (List UInt8)}, ws ≠ [] → (∀ w ∈ ws, (32 : UInt8) ∉ w) → wd (jn ws) = ws
  | [], h, _ => (h rfl).elim
  | [w], _, h => by rw [jn_one]; exact wd_one (h w (by simp))
  | w :: v :: r, _, h => by
    rw [jn_cons, wd_app _ (h w (by simp)), wd_jn (by simp) fun x hx => h x (by simp [hx])]
theorem joinB_jn (ws : List (List UInt8)) : joinB (ws.map bar) (bar [32]) = jn ws := by
  unfold joinB jn
  rw [List.map_map, bar_list]
  congr 1
  conv => rhs; rw [← List.map_id ws]
  exact List.map_congr_left fun w _ => bar_list w
theorem jn_len : ∀ (ws : List (List UInt8)) {m : Nat}, (∀ w ∈ ws, w.length ≤ m) → (jn ws).length ≤ ws.length * (m + 1)
  | [], m, _ => by simp [jn, Lib.join_nil]
  | [w], m, h => by rw [jn_one]; have := h w (by simp); simp; omega
  | w :: v :: r, m, h => by
    have ih := jn_len (v :: r) fun x hx => h x (by simp [hx])
    have h0 := h w (by simp)
    rw [jn_cons]
    simp only [List.length_append, List.length_cons] at ih ⊢
    rw [Nat.add_mul _ 1]
    omega

/-! ### Digits -/
abbrev dec (u : Nat) : List UInt8 := Lib.decDigits u
def digB (c : UInt8) : Prop := 48 ≤ c.toNat ∧ c.toNat ≤ 57
theorem ofNat_toNat {n : Nat} (h : n < 256) : (UInt8.ofNat n).toNat = n := by
  show n % 256 = n
  omega
theorem dec_dig : ∀ (u : Nat), ∀ c ∈ dec u, digB c := by
  intro u
  induction u using Nat.strongRecOn with
  | _ u ih =>
    intro c hc
    unfold dec Lib.decDigits at hc
    split at hc
    · simp only [List.mem_cons, List.not_mem_nil, or_false] at hc
      subst hc
      unfold digB
      rw [ofNat_toNat (by omega)]
      omega
    · rcases List.mem_append.1 hc with hc | hc
      · exact ih (u / 10) (by omega) c hc
      · simp only [List.mem_cons, List.not_mem_nil, or_false] at hc
        subst hc
        unfold digB
        rw [ofNat_toNat (by omega)]
        omega
theorem dec_sp (u : Nat) : (32 : UInt8) ∉ dec u := fun h => by have := dec_dig u _ h; unfold digB at this; simp at this
theorem dec_ne (u : Nat) : dec u ≠ [] := by
  unfold dec Lib.decDigits
  split <;> simp
theorem dec_len {u : Nat} (h : u < 18446744073709551616) : (dec u).length ≤ 20 := by
  rw [Lib.decDigits_length]
  by_cases h0 : u = 0
  · subst h0; rw [Lib.nDigits_small (by omega)]; omega
  · have := (Lib.numDigits_eq u (by omega) h); split at this <;> omega
/-- What a text's digits make, as long as they do. -/
theorem pu_app : ∀ (l r : List UInt8) (acc a : Nat), Lib.parseUint10 acc l = .ok a → Lib.parseUint10 acc (l ++ r) = Lib.parseUint10 a r
  | [], r, acc, a, h => by cases h; rfl
  | c :: l, r, acc, a, h => by
    simp only [List.cons_append, Lib.parseUint10] at h ⊢
    split at h
    · rename_i h1
      rw [if_pos h1]
      split at h
      · cases h
      · rename_i h2
        rw [if_neg h2]
        split at h
        · cases h
        · rename_i h3
          rw [if_neg h3]
          exact pu_app l r _ a h
    · cases h
theorem pu_dec : ∀ (u : Nat), u < 18446744073709551616 → Lib.parseUint10 0 (dec u) = .ok u := by
  intro u
  induction u using Nat.strongRecOn with
  | _ u ih =>
    intro hu
    unfold dec Lib.decDigits
    split
    · rename_i h
      simp only [Lib.parseUint10]
      rw [ofNat_toNat (by omega), if_pos ⟨by omega, by omega⟩, if_neg (by omega), if_neg (by omega)]
      congr 1; omega
    · rename_i h
      rw [pu_app _ _ 0 (u / 10) (ih (u / 10) (by omega) (by omega))]
      simp only [Lib.parseUint10]
      rw [ofNat_toNat (by omega), if_pos ⟨by omega, by omega⟩, if_neg (by omega), if_neg (by omega)]
      congr 1; omega
theorem atoi_dec {u : Nat} (h : u < 9223372036854775808) : Lib.atoiAll (dec u) = .ok (u : Int) := by
  cases hd : dec u with
  | nil => exact (dec_ne u hd).elim
  | cons c r =>
    have hc : digB c := dec_dig u c (by rw [hd]; simp)
    unfold digB at hc
    unfold Lib.atoiAll
    have h1 : ¬ (c.toNat = 43 ∨ c.toNat = 45) := by omega
    have h2 : ¬ c.toNat = 45 := by omega
    dsimp only
    rw [if_neg h1, ← hd]
    have hp : Lib.parseMag (dec u) = .ok u := by
      unfold Lib.parseMag
      rw [if_neg (dec_ne u)]
      exact pu_dec u (by omega)
    rw [hp]
    dsimp only
    rw [if_neg (by simp [h2]; omega), if_neg (by simp [h2]), if_neg h2]
theorem puM_eq : ∀ (l : List UInt8) (acc : Nat), Lib.parseUintM (2 ^ 64 - 1) acc l = Lib.parseUint10 acc l
  | [], acc => rfl
  | c :: l, acc => by
    simp only [Lib.parseUintM, Lib.parseUint10]
    split
    · split
      · rfl
      · have e : (2 ^ 64 - 1 < acc * 10 + (c.toNat - 48)) ↔ (18446744073709551616 ≤ acc * 10 + (c.toNat - 48)) := by omega
        by_cases h : 18446744073709551616 ≤ acc * 10 + (c.toNat - 48)
        · rw [if_pos (e.2 h), if_pos h]
        · rw [if_neg (fun g => h (e.1 g)), if_neg h, puM_eq l]
    · rfl
theorem puB_dec {u : Nat} (h : u < 18446744073709551616) : Lib.parseUintB 64 (dec u) = .ok u := by
  unfold Lib.parseUintB
  rw [if_neg (dec_ne u), puM_eq]
  exact pu_dec u h
end
end Go.Proofs.YtfopfocedlbihaaDoor

/- Orders' lines: orders, and lines (plain). -/
namespace Go.Proofs.YtfopfocedlbihaaDoor
open Go Go.Proofs.YtfopfocedlbihaaDoor.D
set_option linter.unusedVariables false
set_option linter.unusedSimpArgs false
noncomputable section

/-- Kind, Robot, N, At, With, Draw. -/
abbrev Ord := Int × Int × Int × Int × Int × Int
def tabW : List (List UInt8) := [[], [115, 116, 101, 112], [100, 101, 108, 105, 118, 101, 114], [100, 114, 111, 112], [100, 111, 117, 98, 108, 101], [115, 112, 111, 105, 108], [116, 105, 99, 107], [103, 111, 97, 108], [99, 114, 97, 115, 104], [119, 97, 107, 101]]
def nmL (k : Int) : List UInt8 := if 0 ≤ k ∧ k < 10 then tabW.getD k.toNat [] else []
def i64 (n : Int) : Prop := -9223372036854775808 ≤ n ∧ n ≤ 9223372036854775807
/-- Numbers as they can be. -/
structure OrdW (x : Ord) : Prop where
  k : i64 x.1
  r : i64 x.2.1
  n : i64 x.2.2.1
  a : i64 x.2.2.2.1
  w : i64 x.2.2.2.2.1
  d : 0 ≤ x.2.2.2.2.2 ∧ x.2.2.2.2.2 < 18446744073709551616
def mayP (x : Ord) : Prop :=
  (x.1 = 1 ∧ 0 ≤ x.2.1 ∧ x.2.1 ≤ 63 ∧ x.2.2.2.1 = 0 ∧ x.2.2.2.2.1 = 0 ∧ x.2.2.1 = 0) ∨
  ((x.1 = 2 ∨ x.1 = 3 ∨ x.1 = 4) ∧ 1 ≤ x.2.2.1 ∧ x.2.1 = 0 ∧ x.2.2.2.1 = 0 ∧ x.2.2.2.2.1 = 0 ∧ x.2.2.2.2.2 = 0) ∨
  (x.1 = 5 ∧ 1 ≤ x.2.2.1 ∧ 0 ≤ x.2.2.2.1 ∧ 1 ≤ x.2.2.2.2.1 ∧ x.2.2.2.2.1 ≤ 255 ∧ x.2.1 = 0 ∧ x.2.2.2.2.2 = 0) ∨
  (x.1 = 6 ∧ 0 ≤ x.2.1 ∧ x.2.1 ≤ 63 ∧ x.2.2.2.1 = 0 ∧ x.2.2.2.2.1 = 0 ∧ x.2.2.1 = 0 ∧ x.2.2.2.2.2 = 0) ∨
  (x.1 = 7 ∧ 0 ≤ x.2.1 ∧ x.2.1 ≤ 63 ∧ x.2.2.2.1 = 0 ∧ x.2.2.2.2.1 = 0 ∧ x.2.2.2.2.2 = 0 ∧ 0 ≤ x.2.2.1 ∧ x.2.2.1 ≤ 1023) ∨
  (x.1 = 8 ∧ 0 ≤ x.2.1 ∧ x.2.1 ≤ 63 ∧ x.2.2.2.1 = 0 ∧ x.2.2.2.2.1 = 0 ∧ x.2.2.2.2.2 = 0 ∧ 0 ≤ x.2.2.1 ∧ x.2.2.1 ≤ 1000) ∨
  (x.1 = 9 ∧ 0 ≤ x.2.1 ∧ x.2.1 ≤ 63 ∧ x.2.2.2.1 = 0 ∧ x.2.2.2.2.1 = 0 ∧ x.2.2.2.2.2 = 0 ∧ -1 ≤ x.2.2.1 ∧ x.2.2.1 ≤ 1000)
instance (x : Ord) : Decidable (mayP x) := by unfold mayP; infer_instance
/-- The parts that a kind names. -/
def partsB (kind : Int) : List UInt8 :=
  if kind = 1 then [114, 100] else if kind = 2 ∨ kind = 3 ∨ kind = 4 then [112] else if kind = 5 then [112, 97, 119] else if kind = 6 then [114] else if kind = 7 then [114, 99]
  else if kind = 8 then [114, 101] else if kind = 9 then [114, 117] else []
abbrev allT : List UInt8 := [97, 108, 108]
def wordO (x : Ord) (c : Int) : List UInt8 :=
  if c = 114 then Lib.itoa x.2.1 else if c = 100 then dec x.2.2.2.2.2.toNat else if c = 97 then Lib.itoa x.2.2.2.1 else if c = 119 then Lib.itoa x.2.2.2.2.1
  else if c = 117 ∧ x.2.2.1 < 0 then allT else Lib.itoa x.2.2.1
def wordsO (x : Ord) : List (List UInt8) := nmL x.1 :: (partsB x.1).map fun c => wordO x (c.toNat : Int)
def lineL (x : Ord) : List UInt8 := jn (wordsO x)
def zeroO : Ord := (0, 0, 0, 0, 0, 0)
def lineP (x : Ord) : List UInt8 × Int := if mayP x then (lineL x, 0) else ([], 230)

theorem itoa_nn {n : Int} (h : 0 ≤ n) : Lib.itoa n = dec n.toNat := by unfold Lib.itoa; rw [if_neg (by omega)]
theorem itoa_sp (n : Int) : (32 : UInt8) ∉ Lib.itoa n := by
  unfold Lib.itoa
  split
  · intro h
    rcases List.mem_cons.1 h with h | h
    · simp at h
    · exact dec_sp _ h
  · exact dec_sp _
theorem tabW_sp : ∀ w ∈ tabW, (32 : UInt8) ∉ w := by decide
theorem nmL_sp (k : Int) : (32 : UInt8) ∉ nmL k := by
  unfold nmL
  split
  · rename_i h
    have hk : k.toNat < tabW.length := by show k.toNat < 10; omega
    rw [List.getD_eq_getElem?_getD, List.getElem?_eq_getElem hk]
    exact tabW_sp _ (List.getElem_mem hk)
  · simp
theorem wordO_sp (x : Ord) (c : Int) : (32 : UInt8) ∉ wordO x c := by
  unfold wordO
  repeat' split
  all_goals first | exact itoa_sp _ | exact dec_sp _ | decide
theorem wordsO_sp (x : Ord) : ∀ w ∈ wordsO x, (32 : UInt8) ∉ w := by
  intro w hw
  rcases List.mem_cons.1 hw with rfl | hw
  · exact nmL_sp _
  · obtain ⟨c, _, rfl⟩ := List.mem_map.1 hw
    exact wordO_sp _ _
theorem wd_line (x : Ord) : wd (lineL x) = wordsO x := wd_jn (by simp [wordsO]) (wordsO_sp x)

/-! ### What a line could say: the program's -/
def atoiN (w : List UInt8) : Int := match Lib.atoiAll w with | .ok v => v | Lib.NumEnd.syntax => 0 | .range => Lib.atoiSat w
def puN (w : List UInt8) : Int := match Lib.parseUintB 64 w with | .ok v => ((v : Nat) : Int) | Lib.NumEnd.syntax => 0 | .range => 18446744073709551615
def kindF (w : List UInt8) : Nat → Int
  | 0 => 0
  | n + 1 => if 0 < n ∧ tabW.getD n [] = w then (n : Int) else kindF w n
def setO (x : Ord) (c : Int) (w : List UInt8) : Ord :=
  if c = 114 then (x.1, atoiN w, x.2.2) else if c = 100 then (x.1, x.2.1, x.2.2.1, x.2.2.2.1, x.2.2.2.2.1, puN w) else if c = 97 then (x.1, x.2.1, x.2.2.1, atoiN w, x.2.2.2.2)
  else if c = 119 then (x.1, x.2.1, x.2.2.1, x.2.2.2.1, atoiN w, x.2.2.2.2.2) else if c = 117 ∧ w = allT then (x.1, x.2.1, -1, x.2.2.2) else (x.1, x.2.1, atoiN w, x.2.2.2)
def setsO (x : Ord) : List UInt8 → List (List UInt8) → Ord
  | [], _ => x
  | c :: p, l => setsO (setO x (c.toNat : Int) (l.headD [])) p l.tail
def candA (s : List UInt8) : Ord := let k := kindF ((wd s).headD []) 10; setsO (k, 0, 0, 0, 0, 0) (partsB k) (wd s).tail
/-! ### .. and the document's -/
def valL : Nat → List UInt8 → Nat
  | n, [] => n
  | n, c :: r => if c.toNat < 48 ∨ 57 < c.toNat ∨ 1844674407370955161 < n then n else if n = 1844674407370955161 ∧ 5 < c.toNat - 48 then n else valL (10 * n + (c.toNat - 48)) r
def smallL (w : List UInt8) : Int := if 9223372036854775807 < valL 0 w then -9 else (valL 0 w : Int)
def candB (s : List UInt8) : Ord :=
  let l := wd s
  let k := kindF (l.headD []) 10
  let l1 := l.getD 1 []; let l2 := l.getD 2 []; let l3 := l.getD 3 []
  if k = 1 then (k, smallL l1, 0, 0, 0, (valL 0 l2 : Int)) else if 2 ≤ k ∧ k ≤ 4 then (k, 0, smallL l1, 0, 0, 0) else if k = 5 then (k, 0, smallL l1, smallL l2, smallL l3, 0)
  else if 6 ≤ k then (k, smallL l1, if k = 9 ∧ l2 = allT then -1 else if 6 < k then smallL l2 else 0, 0, 0, 0) else (k, 0, 0, 0, 0, 0)

theorem atoiN_dec {n : Int} (h : 0 ≤ n) (h2 : n ≤ 9223372036854775807) : atoiN (dec n.toNat) = n := by
  unfold atoiN
  rw [atoi_dec (by omega)]
  show ((n.toNat : Nat) : Int) = n
  omega
theorem puN_dec {n : Int} (h : 0 ≤ n) (h2 : n < 18446744073709551616) : puN (dec n.toNat) = n := by
  unfold puN
  rw [puB_dec (by omega)]
  show ((n.toNat : Nat) : Int) = n
  omega
theorem valL_pu : ∀ (l : List UInt8) (acc u : Nat), Lib.parseUint10 acc l = .ok u → valL acc l = u
  | [], acc, u, h => by cases h; rfl
  | c :: r, acc, u, h => by
    simp only [Lib.parseUint10] at h
    split at h
    · split at h
      · cases h
      · split at h
        · cases h
        · have := valL_pu r _ u h
          unfold valL
          rw [if_neg (by omega), if_neg (by omega), Nat.mul_comm 10 acc]
          exact this
    · cases h
theorem valL_dec {u : Nat} (h : u < 18446744073709551616) : valL 0 (dec u) = u := valL_pu _ _ _ (pu_dec u h)
theorem smallL_dec {n : Int} (h : 0 ≤ n) (h2 : n ≤ 9223372036854775807) : smallL (dec n.toNat) = n := by
  unfold smallL
  rw [valL_dec (by omega), if_neg (by omega)]
  omega
theorem valL_lt : ∀ (l : List UInt8) (acc : Nat), acc < 18446744073709551616 → valL acc l < 18446744073709551616
  | [], acc, h => h
  | c :: r, acc, h => by
    unfold valL
    split
    · exact h
    · split
      · exact h
      · exact valL_lt r _ (by omega)
theorem smallL_i64 (w : List UInt8) : i64 (smallL w) := by
  unfold smallL i64
  split <;> omega
theorem atoiN_i64 (w : List UInt8) : i64 (atoiN w) := by
  unfold atoiN i64
  cases h : Lib.atoiAll w with
  | range =>
    dsimp only
    unfold Lib.atoiSat
    split <;> omega
  | ok v =>
    dsimp only
    unfold Lib.atoiAll at h
    cases w with
    | nil => cases h
    | cons c r =>
      dsimp only at h
      split at h
      · cases h
      · cases h
      · split at h
        · cases h
        · split at h
          · cases h
          · rename_i g1 g2
            injection h with h
            subst h
            split <;> omega
  | _ => simp
theorem puN_u64 (w : List UInt8) : 0 ≤ puN w ∧ puN w < 18446744073709551616 := by
  unfold puN
  cases h : Lib.parseUintB 64 w with
  | ok v =>
    dsimp only
    unfold Lib.parseUintB at h
    split at h
    · cases h
    · rw [puM_eq] at h
      have := Lib.parseUint10_lt _ _ _ (by omega) h
      omega
  | _ => simp
theorem kindF_le (w : List UInt8) : ∀ n, n ≤ 10 → 0 ≤ kindF w n ∧ kindF w n ≤ 9
  | 0, _ => by simp [kindF]
  | n + 1, h => by
    unfold kindF
    split
    · omega
    · exact kindF_le w n (by omega)
theorem setO_w {x : Ord} (h : OrdW x) (c : Int) (w : List UInt8) : OrdW (setO x c w) := by
  have h1 := atoiN_i64 w
  unfold setO
  split
  · exact ⟨h.k, h1, h.n, h.a, h.w, h.d⟩
  split
  · exact ⟨h.k, h.r, h.n, h.a, h.w, puN_u64 w⟩
  split
  · exact ⟨h.k, h.r, h.n, h1, h.w, h.d⟩
  split
  · exact ⟨h.k, h.r, h.n, h.a, h1, h.d⟩
  split
  · exact ⟨h.k, h.r, by unfold i64; simp, h.a, h.w, h.d⟩
  · exact ⟨h.k, h.r, h1, h.a, h.w, h.d⟩
theorem setsO_w : ∀ {x : Ord} (h : OrdW x) (p : List UInt8) (l : List (List UInt8)), OrdW (setsO x p l)
  | x, h, [], l => h
  | x, h, c :: p, l => setsO_w (setO_w h _ _) p l.tail
theorem candA_w (s : List UInt8) : OrdW (candA s) := by
  have := kindF_le ((wd s).headD []) 10 (by omega)
  exact setsO_w ⟨by unfold i64; dsimp only; omega, by simp [i64], by simp [i64], by simp [i64], by simp [i64], by simp⟩ _ _
theorem candB_w (s : List UInt8) : OrdW (candB s) := by
  have hk := kindF_le ((wd s).headD []) 10 (by omega)
  unfold candB
  dsimp only
  generalize kindF ((wd s).headD []) 10 = k at hk ⊢
  have h0 : i64 0 := by simp [i64]
  have h1 := smallL_i64 ((wd s).getD 1 [])
  have h2 := smallL_i64 ((wd s).getD 2 [])
  have h3 := smallL_i64 ((wd s).getD 3 [])
  have hv := valL_lt ((wd s).getD 2 []) 0 (by omega)
  have kk : i64 k := by unfold i64; omega
  split
  · exact ⟨kk, h1, h0, h0, h0, by dsimp only; omega⟩
  split
  · exact ⟨kk, h0, h1, h0, h0, by simp⟩
  split
  · exact ⟨kk, h0, h1, h2, h3, by simp⟩
  split
  · refine ⟨kk, h1, ?_, h0, h0, by simp⟩
    dsimp only
    split
    · simp [i64]
    · split
      · exact h2
      · exact h0
  · exact ⟨kk, h0, h0, h0, h0, by simp⟩
theorem kindF_nm : ∀ k : Fin 10, 0 < k.val → kindF (tabW.getD k.val []) 10 = (k.val : Int) := by decide
theorem kindF_of {k : Int} (h : 1 ≤ k) (h2 : k ≤ 9) : kindF (nmL k) 10 = k := by
  have := kindF_nm ⟨k.toNat, by omega⟩ (by show 0 < k.toNat; omega)
  unfold nmL
  rw [if_pos (by omega), this]
  show ((k.toNat : Nat) : Int) = k
  omega
theorem dec_all (u : Nat) : dec u ≠ allT := fun h => by have := dec_dig u 97 (by rw [h]; simp); unfold digB at this; simp at this
theorem mayP_kind {x : Ord} (h : mayP x) : 1 ≤ x.1 ∧ x.1 ≤ 9 := by unfold mayP at h; omega
/-- What an order's line says is that order. -/
theorem candA_line {x : Ord} (h : mayP x) (hw : OrdW x) : candA (lineL x) = x := by
  obtain ⟨k1, k2⟩ := mayP_kind h
  unfold candA
  rw [wd_line]
  have hk : kindF ((wordsO x).headD []) 10 = x.1 := kindF_of k1 k2
  dsimp only
  rw [hk]
  obtain ⟨w1, w2, w3, w4, w5, w6⟩ := hw
  obtain ⟨k, r, n, a, w, d⟩ := x
  unfold i64 at w1 w2 w3 w4 w5
  dsimp only at h k1 k2 hk w1 w2 w3 w4 w5 w6 ⊢
  unfold mayP at h
  dsimp only at h
  rcases h with ⟨rfl, h⟩ | ⟨rfl | rfl | rfl, h⟩ | ⟨rfl, h⟩ | ⟨rfl, h⟩ | ⟨rfl, h⟩ | ⟨rfl, h⟩ | ⟨rfl, h⟩
  · obtain ⟨h1, h2, rfl, rfl, rfl⟩ := h
    have e1 := atoiN_dec (n := r) (by omega) (by omega)
    have e2 := puN_dec (n := d) w6.1 w6.2
    simp [wordsO, partsB, setsO, setO, wordO, itoa_nn h1, e1, e2]
  · obtain ⟨h1, rfl, rfl, rfl, rfl⟩ := h
    have e1 := atoiN_dec (n := n) (by omega) (by omega)
    simp [wordsO, partsB, setsO, setO, wordO, itoa_nn (show 0 ≤ n by omega), e1]
  · obtain ⟨h1, rfl, rfl, rfl, rfl⟩ := h
    have e1 := atoiN_dec (n := n) (by omega) (by omega)
    simp [wordsO, partsB, setsO, setO, wordO, itoa_nn (show 0 ≤ n by omega), e1]
  · obtain ⟨h1, rfl, rfl, rfl, rfl⟩ := h
    have e1 := atoiN_dec (n := n) (by omega) (by omega)
    simp [wordsO, partsB, setsO, setO, wordO, itoa_nn (show 0 ≤ n by omega), e1]
  · obtain ⟨h1, h2, h3, h4, rfl, rfl⟩ := h
    have e1 := atoiN_dec (n := n) (by omega) (by omega)
    have e2 := atoiN_dec (n := a) (by omega) (by omega)
    have e3 := atoiN_dec (n := w) (by omega) (by omega)
    simp [wordsO, partsB, setsO, setO, wordO, itoa_nn (show 0 ≤ n by omega), itoa_nn (show 0 ≤ a by omega), itoa_nn (show 0 ≤ w by omega), e1, e2, e3]
  · obtain ⟨h1, h2, rfl, rfl, rfl, rfl⟩ := h
    have e1 := atoiN_dec (n := r) (by omega) (by omega)
    simp [wordsO, partsB, setsO, setO, wordO, itoa_nn h1, e1]
  · obtain ⟨h1, h2, rfl, rfl, rfl, h3, h4⟩ := h
    have e1 := atoiN_dec (n := r) (by omega) (by omega)
    have e2 := atoiN_dec (n := n) (by omega) (by omega)
    simp [wordsO, partsB, setsO, setO, wordO, itoa_nn h1, itoa_nn h3, e1, e2]
  · obtain ⟨h1, h2, rfl, rfl, rfl, h3, h4⟩ := h
    have e1 := atoiN_dec (n := r) (by omega) (by omega)
    have e2 := atoiN_dec (n := n) (by omega) (by omega)
    simp [wordsO, partsB, setsO, setO, wordO, itoa_nn h1, itoa_nn h3, e1, e2]
  · obtain ⟨h1, h2, rfl, rfl, rfl, h3, h4⟩ := h
    have e1 := atoiN_dec (n := r) (by omega) (by omega)
    by_cases hn : n < 0
    · obtain rfl : n = -1 := by omega
      simp [wordsO, partsB, setsO, setO, wordO, itoa_nn h1, e1]
    · have e2 := atoiN_dec (n := n) (by omega) (by omega)
      simp [wordsO, partsB, setsO, setO, wordO, itoa_nn h1, itoa_nn (show 0 ≤ n by omega), e1, e2, hn, dec_all]
theorem candB_line {x : Ord} (h : mayP x) (hw : OrdW x) : candB (lineL x) = x := by
  obtain ⟨k1, k2⟩ := mayP_kind h
  unfold candB
  rw [wd_line]
  have hk : kindF ((wordsO x).headD []) 10 = x.1 := kindF_of k1 k2
  dsimp only
  rw [hk]
  obtain ⟨w1, w2, w3, w4, w5, w6⟩ := hw
  obtain ⟨k, r, n, a, w, d⟩ := x
  unfold i64 at w1 w2 w3 w4 w5
  dsimp only at h k1 k2 hk w1 w2 w3 w4 w5 w6 ⊢
  unfold mayP at h
  dsimp only at h
  rcases h with ⟨rfl, h⟩ | ⟨rfl | rfl | rfl, h⟩ | ⟨rfl, h⟩ | ⟨rfl, h⟩ | ⟨rfl, h⟩ | ⟨rfl, h⟩ | ⟨rfl, h⟩
  · obtain ⟨h1, h2, rfl, rfl, rfl⟩ := h
    have e1 := smallL_dec (n := r) (by omega) (by omega)
    have e2 : ((valL 0 (dec d.toNat) : Nat) : Int) = d := by rw [valL_dec (by omega)]; omega
    simp [wordsO, partsB, wordO, itoa_nn h1, e1, e2]
  · obtain ⟨h1, rfl, rfl, rfl, rfl⟩ := h
    have e1 := smallL_dec (n := n) (by omega) (by omega)
    simp [wordsO, partsB, wordO, itoa_nn (show 0 ≤ n by omega), e1]
  · obtain ⟨h1, rfl, rfl, rfl, rfl⟩ := h
    have e1 := smallL_dec (n := n) (by omega) (by omega)
    simp [wordsO, partsB, wordO, itoa_nn (show 0 ≤ n by omega), e1]
  · obtain ⟨h1, rfl, rfl, rfl, rfl⟩ := h
    have e1 := smallL_dec (n := n) (by omega) (by omega)
    simp [wordsO, partsB, wordO, itoa_nn (show 0 ≤ n by omega), e1]
  · obtain ⟨h1, h2, h3, h4, rfl, rfl⟩ := h
    have e1 := smallL_dec (n := n) (by omega) (by omega)
    have e2 := smallL_dec (n := a) (by omega) (by omega)
    have e3 := smallL_dec (n := w) (by omega) (by omega)
    simp [wordsO, partsB, wordO, itoa_nn (show 0 ≤ n by omega), itoa_nn (show 0 ≤ a by omega), itoa_nn (show 0 ≤ w by omega), e1, e2, e3]
  · obtain ⟨h1, h2, rfl, rfl, rfl, rfl⟩ := h
    have e1 := smallL_dec (n := r) (by omega) (by omega)
    simp [wordsO, partsB, wordO, itoa_nn h1, e1]
  · obtain ⟨h1, h2, rfl, rfl, rfl, h3, h4⟩ := h
    have e1 := smallL_dec (n := r) (by omega) (by omega)
    have e2 := smallL_dec (n := n) (by omega) (by omega)
    simp [wordsO, partsB, wordO, itoa_nn h1, itoa_nn h3, e1, e2]
  · obtain ⟨h1, h2, rfl, rfl, rfl, h3, h4⟩ := h
    have e1 := smallL_dec (n := r) (by omega) (by omega)
    have e2 := smallL_dec (n := n) (by omega) (by omega)
    simp [wordsO, partsB, wordO, itoa_nn h1, itoa_nn h3, e1, e2]
  · obtain ⟨h1, h2, rfl, rfl, rfl, h3, h4⟩ := h
    have e1 := smallL_dec (n := r) (by omega) (by omega)
    by_cases hn : n < 0
    · obtain rfl : n = -1 := by omega
      simp [wordsO, partsB, wordO, itoa_nn h1, e1]
    · have e2 := smallL_dec (n := n) (by omega) (by omega)
      simp [wordsO, partsB, wordO, itoa_nn h1, itoa_nn (show 0 ≤ n by omega), e1, e2, hn, dec_all]
def readP (c : Ord) (s : List UInt8) : Ord × Int := if mayP c ∧ lineL c = s then (c, 0) else (zeroO, 230)
/-- Both read the same. -/
theorem read_same (s : List UInt8) : readP (candA s) s = readP (candB s) s := by
  unfold readP
  by_cases h : mayP (candA s) ∧ lineL (candA s) = s
  · have e := candB_line h.1 (candA_w s)
    rw [h.2] at e
    rw [e]
  · by_cases h' : mayP (candB s) ∧ lineL (candB s) = s
    · have e := candA_line h'.1 (candB_w s)
      rw [h'.2] at e
      rw [e] at h
      exact (h h').elim
    · rw [if_neg h, if_neg h']
theorem read_line {x : Ord} (h : mayP x) (hw : OrdW x) : readP (candA (lineL x)) (lineL x) = (x, 0) := by
  unfold readP
  rw [candA_line h hw, if_pos ⟨h, rfl⟩]
theorem line_len {x : Ord} (hw : OrdW x) : (lineL x).length ≤ 100 := by
  have h1 : ∀ w ∈ wordsO x, w.length ≤ 24 := by
    have hi : ∀ n, i64 n → (Lib.itoa n).length ≤ 24 := by
      intro n hn
      unfold i64 at hn
      unfold Lib.itoa
      split
      · have := dec_len (u := n.natAbs) (by omega)
        simp only [List.length_cons]
        show (dec n.natAbs).length + 1 ≤ 24
        omega
      · have := dec_len (u := n.toNat) (by omega)
        show (dec n.toNat).length ≤ 24
        omega
    intro w hw'
    rcases List.mem_cons.1 hw' with rfl | hw'
    · unfold nmL
      split
      · have : ∀ w ∈ tabW, w.length ≤ 24 := by decide
        have hk : x.1.toNat < tabW.length := by show x.1.toNat < 10; omega
        rw [List.getD_eq_getElem?_getD, List.getElem?_eq_getElem hk]
        exact this _ (List.getElem_mem hk)
      · simp
    · obtain ⟨c, _, rfl⟩ := List.mem_map.1 hw'
      unfold wordO
      split
      · exact hi _ hw.r
      split
      · have := dec_len (u := x.2.2.2.2.2.toNat) (by have := hw.d; omega)
        omega
      split
      · exact hi _ hw.a
      split
      · exact hi _ hw.w
      split
      · decide
      · exact hi _ hw.n
  have h2 : (wordsO x).length ≤ 4 := by
    simp only [wordsO, List.length_cons, List.length_map]
    unfold partsB
    repeat' split
    all_goals simp
  have := jn_len (wordsO x) h1
  have := Nat.mul_le_mul_right 25 h2
  unfold lineL
  omega
end
end Go.Proofs.YtfopfocedlbihaaDoor
