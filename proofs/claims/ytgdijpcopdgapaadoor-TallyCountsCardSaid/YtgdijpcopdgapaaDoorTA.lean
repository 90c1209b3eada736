/- Parts of the proof, put together. -/
import Derived.Test.YtgdijpcopdgapaaDoorDE
import Derived.Lib.SplitLaws
import Derived.Lib.IndexBytes
import Derived.Lib.ItoaNum
import Derived.Lib.ItoaMem
import Derived.Test.YtgdijpcopdgapaaDoorCD
import Derived.Laws.Bits64
import Derived.Test.YtgdijpcopdgapaaDoorCB
/- Orders' lines: words, digits (plain). -/
namespace Go.Proofs.YtgdijpcopdgapaaDoor
open Go Go.Proofs.YtgdijpcopdgapaaDoor.D
set_option linter.unusedVariables false
set_option linter.unusedSimpArgs false
noncomputable section

/-! ### Words, parted by each blank -/
def headC (c : UInt8) : List (List UInt8) → List (List UInt8)
  | [] => [[c]]
  | h :: t => (c :: h) :: t
def wd : List UInt8 → List (List UInt8)
  | [] => [[]]
  | c :: r => if c = 32 then [] :: wd r else headC c (wd r)
theorem wd_ne (s : List UInt8) : wd s ≠ [] := by
  cases s with
  | nil => simp [wd]
  | cons c r =>
    unfold wd
    split
    · simp
    · cases h : wd r <;> simp [headC]
theorem splitK_cons {c : UInt8} (hc : c ≠ 32) : ∀ (k : Nat) (r : List UInt8), Lib.splitK [32] 0 k (c :: r) = headC c (Lib.splitK [32] 0 k r)
  | 0, r => rfl
  | k + 1, r => by
    have hp : ([32] : List UInt8).isPrefixOf (c :: r) = false := by simp [List.isPrefixOf]; exact fun h => hc h.symm
    have hi : Lib.index (c :: r) [32] = if Lib.index r [32] == -1 then -1 else Lib.index r [32] + 1 := by
      show (if ([32] : List UInt8).isPrefixOf (c :: r) then (0 : Int) else _) = _
      rw [hp]; rfl
    have hge := Lib.index_ge r [32]
    unfold Lib.splitK
    by_cases h : Lib.index r [32] = -1
    · have e : Lib.index (c :: r) [32] = -1 := by rw [hi, h]; rfl
      rw [e, h]; rfl
    · have h1 : (Lib.index r [32] == -1) = false := by simpa using h
      have e : Lib.index (c :: r) [32] = Lib.index r [32] + 1 := by rw [hi, h1]; rfl
      have h2 : (Lib.index r [32] + 1 == -1) = false := by simp; omega
      rw [e, h1, h2]
      have e2 : (Lib.index r [32] + 1).toNat = (Lib.index r [32]).toNat + 1 := by omega
      simp only [Bool.false_eq_true, if_false, e2, headC, List.length_singleton, Nat.add_zero, List.take_succ_cons, List.drop_succ_cons]
theorem splitK_wd : ∀ (s : List UInt8), Lib.splitK [32] 0 (s.count 32) s = wd s
  | [] => rfl
  | c :: r => by
    have ih := splitK_wd r
    by_cases hc : c = 32
    · subst hc
      rw [List.count_cons_self]
      unfold wd Lib.splitK
      have hi : Lib.index (32 :: r) [32] = 0 := by
        show (if ([32] : List UInt8).isPrefixOf (32 :: r) then (0 : Int) else _) = _
        simp [List.isPrefixOf]
      rw [hi]
      simp [ih]
    · rw [List.count_cons_of_ne hc, splitK_cons hc, ih]
      show _ = (if c = 32 then _ else _)
      rw [if_neg hc]
abbrev bar (l : List UInt8) : ByteArray := ⟨l.toArray⟩
theorem bar_list (l : List UInt8) : (bar l).data.toList = l := by simp [bar]
theorem bar_of (b : ByteArray) : bar b.data.toList = b := by cases b; rfl
theorem splitB_wd (s : List UInt8) : Lib.splitB (bar [32]) 0 (Lib.countB (bar s) (bar [32])) (bar s) = (wd s).map bar := by
  have h := Lib.splitB_data (bar [32]) 0 (Lib.countB (bar s) (bar [32])) (bar s)
  have hc : Lib.countB (bar s) (bar [32]) = s.count 32 := by
    show Lib.count (bar s).data.toList (bar [32]).data.toList = _
    rw [bar_list, bar_list, Lib.count_one]
  rw [hc] at h ⊢
  rw [bar_list, bar_list, splitK_wd] at h
  rw [← h, List.map_map]
  conv => lhs; rw [← List.map_id (Lib.splitB _ _ _ _)]
  exact List.map_congr_left fun b _ => (bar_of b).symm
theorem count_wd (s : List UInt8) : Lib.countB (bar s) (bar [32]) + 1 = (wd s).length := by
  have h := Lib.splitB_all (bar [32]) (by simp [bar, ByteArray.size]) 0 _ (bar s) rfl
  rw [splitB_wd, List.length_map] at h
  omega
theorem wd_snoc_sp : ∀ (l : List UInt8), wd (l ++ [32]) = wd l ++ [[]]
  | [] => rfl
  | c :: r => by
    have ih := wd_snoc_sp r
    rw [show r ++ [32] = r.append [32] from rfl] at ih
    show (if c = 32 then _ else _) = (if c = 32 then _ else _) ++ _
    split
    · rw [ih]; rfl
    · rw [ih]
      cases h : wd r with
      | nil => exact (wd_ne r h).elim
      | cons h t => rfl
def lastC (c : UInt8) : List (List UInt8) → List (List UInt8)
  | [] => []
  | [w] => [w ++ [c]]
  | w :: t => w :: lastC c t
theorem lastC_cons {c : UInt8} {w : List UInt8} {t : List (List UInt8)} (h : t ≠ []) : lastC c (w :: t) = w :: lastC c t := by
  cases t with
  | nil => exact (h rfl).elim
  | cons _ _ => rfl
theorem headC_last {b c : UInt8} {l : List (List UInt8)} (h : l ≠ []) : headC b (lastC c l) = lastC c (headC b l) := by
  cases l with
  | nil => exact (h rfl).elim
  | cons w t => cases t <;> rfl
theorem wd_snoc {c : UInt8} (hc : c ≠ 32) : ∀ (l : List UInt8), wd (l ++ [c]) = lastC c (wd l)
  | [] => by show (if c = 32 then _ else _) = _; rw [if_neg hc]; rfl
  | b :: r => by
    have ih := wd_snoc hc r
    rw [show r ++ [c] = r.append [c] from rfl] at ih
    show (if b = 32 then _ else _) = lastC c (if b = 32 then _ else _)
    split
    · rw [ih, lastC_cons (wd_ne r)]
    · rw [ih, headC_last (wd_ne r)]
theorem wd_one : ∀ {w : List UInt8}, (32 : UInt8) ∉ w → wd w = [w]
  | [], _ => rfl
  | c :: r, h => by
    have hc : c ≠ 32 := fun e => h (by simp [e])
    show (if c = 32 then _ else _) = _
    rw [if_neg hc, wd_one (fun e => h (by simp [e]))]
    rfl
theorem wd_app : ∀ {w : List UInt8} (r : List UInt8), (32 : UInt8) ∉ w → wd (w ++ 32 :: r) = w :: wd r
  | [], r, _ => by show (if (32 : UInt8) = 32 then _ else _) = _; rw [if_pos rfl]
  | c :: w, r, h => by
    have hc : c ≠ 32 := fun e => h (by simp [e])
    show (if c = 32 then _ else _) = _
    rw [if_neg hc]
    have ih := wd_app (w := w) r (fun e => h (by simp [e]))
    rw [show w ++ 32 :: r = w.append (32 :: r) from rfl] at ih
    rw [ih]
    rfl
/-- Words joined by blanks. -/
def jn (ws : List (List UInt8)) : List UInt8 := Lib.join ws [32]
theorem jn_one (w : List UInt8) : jn [w] = w := Lib.join_one _ _
theorem jn_cons (w v : List UInt8) (r : List (List UInt8)) : jn (w :: v :: r) = w ++ 32 :: jn (v :: r) := by
  unfold jn
  rw [Lib.join_cons, Lib.join_cons]
  simp [Lib.joinTail]
theorem wd_jn : ∀ {ws : List (List UInt8)}, ws ≠ [] → (∀ w ∈ ws, (32 : UInt8) ∉ w) → wd (jn ws) = ws
  | [], h, _ => (h rfl).elim
  | [w], _, h => by rw [jn_one]; exact wd_one (h w (by simp))
  | w :: v :: r, _, h => by
    rw [jn_cons, wd_app _ (h w (by simp)), wd_jn (by simp) fun x hx => h x (by simp [hx])]
theorem joinB_jn (ws : List (List UInt8)) : joinB (ws.map bar) (bar [32]) = jn ws := by
  unfold joinB jn
  rw [List.map_map, bar_list]
  congr 1
  conv => rhs; rw [← List.map_id ws]
  exact List.map_congr_left fun w _ => bar_list w
theorem jn_len : ∀ (ws : List (List UInt8)) {m : Nat}, (∀ w ∈ ws, w.length ≤ m) → (jn ws).length ≤ ws.length * (m + 1)
  | [], m, _ => by simp [jn, Lib.join_nil]
  | [w], m, h => by rw [jn_one]; have := h w (by simp); simp; omega
  | w :: v :: r, m, h => by
    have ih := jn_len (v :: r) fun x hx => h x (by simp [hx])
    have h0 := h w (by simp)
    rw [jn_cons]
    simp only [List.length_append, List.length_cons] at ih ⊢
    rw [Nat.add_mul _ 1]
    omega

/-! ### Digits -/
abbrev dec (u : Nat) : List UInt8 := Lib.decDigits u
def digB (c : UInt8) : Prop := 48 ≤ c.toNat ∧ c.toNat ≤ 57
theorem ofNat_toNat {n : Nat} (h : n < 256) : (UInt8.ofNat n).toNat = n := by
  show n % 256 = n
  omega
theorem dec_dig : ∀ (u : Nat), ∀ c ∈ dec u, digB c := by
  intro u
  induction u using Nat.strongRecOn with
  | _ u ih =>
    intro c hc
    unfold dec Lib.decDigits at hc
    split at hc
    · simp only [List.mem_cons, List.not_mem_nil, or_false] at hc
      subst hc
      unfold digB
      rw [ofNat_toNat (by omega)]
      omega
    · rcases List.mem_append.1 hc with hc | hc
      · exact ih (u / 10) (by omega) c hc
      · simp only [List.mem_cons, List.not_mem_nil, or_false] at hc
        subst hc
        unfold digB
        rw [ofNat_toNat (by omega)]
        omega
theorem dec_sp (u : Nat) : (32 : UInt8) ∉ dec u := fun h => by have := dec_dig u _ h; unfold digB at this; simp at this
theorem dec_ne (u : Nat) : dec u ≠ [] := by
  unfold dec Lib.decDigits
  split <;> simp
theorem dec_len {u : Nat} (h : u < 18446744073709551616) : (dec u).length ≤ 20 := by
  rw [Lib.decDigits_length]
  by_cases h0 : u = 0
  · subst h0; rw [Lib.nDigits_small (by omega)]; omega
  · have := (Lib.numDigits_eq u (by omega) h); split at this <;> omega
/-- What a text's digits make, as long as they do. -/
theorem pu_app : ∀ (l r : List UInt8) (acc a : Nat), Lib.parseUint10 acc l = .ok a → Lib.parseUint10 acc (l ++ r) = Lib.parseUint10 a r
  | [], r, acc, a, h => by cases h; rfl
  | c :: l, r, acc, a, h => by
    simp only [List.cons_append, Lib.parseUint10] at h ⊢
    split at h
    · rename_i h1
      rw [if_pos h1]
      split at h
      · cases h
      · rename_i h2
        rw [if_neg h2]
        split at h
        · cases h
        · rename_i h3
          rw [if_neg h3]
          exact pu_app l r _ a h
    · cases h
theorem pu_dec : ∀ (u : Nat), u < 18446744073709551616 → Lib.parseUint10 0 (dec u) = .ok u := by
  intro u
  induction u using Nat.strongRecOn with
  | _ u ih =>
    intro hu
    unfold dec Lib.decDigits
    split
    · rename_i h
      simp only [Lib.parseUint10]
      rw [ofNat_toNat (by omega), if_pos ⟨by omega, by omega⟩, if_neg (by omega), if_neg (by omega)]
      congr 1; omega
    · rename_i h
      rw [pu_app _ _ 0 (u / 10) (ih (u / 10) (by omega) (by omega))]
      simp only [Lib.parseUint10]
      rw [ofNat_toNat (by omega), if_pos ⟨by omega, by omega⟩, if_neg (by omega), if_neg (by omega)]
      congr 1; omega
theorem atoi_dec {u : Nat} (h : u < 9223372036854775808) : Lib.atoiAll (dec u) = .ok (u : Int) := by
  cases hd : dec u with
  | nil => exact (dec_ne u hd).elim
  | cons c r =>
    have hc : digB c := dec_dig u c (by rw [hd]; simp)
    unfold digB at hc
    unfold Lib.atoiAll
    have h1 : ¬ (c.toNat = 43 ∨ c.toNat = 45) := by omega
    have h2 : ¬ c.toNat = 45 := by omega
    dsimp only
    rw [if_neg h1, ← hd]
    have hp : Lib.parseMag (dec u) = .ok u := by
      unfold Lib.parseMag
      rw [if_neg (dec_ne u)]
      exact pu_dec u (by omega)
    rw [hp]
    dsimp only
    rw [if_neg (by simp [h2]; omega), if_neg (by simp [h2]), if_neg h2]
theorem puM_eq : ∀ (l : List UInt8) (acc : Nat), Lib.parseUintM (2 ^ 64 - 1) acc l = Lib.parseUint10 acc l
  | [], acc => rfl
  | c :: l, acc => by
    simp only [Lib.parseUintM, Lib.parseUint10]
    split
    · split
      · rfl
      · have e : (2 ^ 64 - 1 < acc * 10 + (c.toNat - 48)) ↔ (18446744073709551616 ≤ acc * 10 + (c.toNat - 48)) := by omega
        by_cases h : 18446744073709551616 ≤ acc * 10 + (c.toNat - 48)
        · rw [if_pos (e.2 h), if_pos h]
        · rw [if_neg (fun g => h (e.1 g)), if_neg h, puM_eq l]
    · rfl
theorem puB_dec {u : Nat} (h : u < 18446744073709551616) : Lib.parseUintB 64 (dec u) = .ok u := by
  unfold Lib.parseUintB
  rw [if_neg (dec_ne u), puM_eq]
  exact pu_dec u h
end
end Go.Proofs.YtgdijpcopdgapaaDoor

/- Orders' lines: orders, and lines (plain). -/
namespace Go.Proofs.YtgdijpcopdgapaaDoor
open Go Go.Proofs.YtgdijpcopdgapaaDoor.D
set_option linter.unusedVariables false
set_option linter.unusedSimpArgs false
noncomputable section

/-- Kind, Robot, N, At, With, Draw. -/
abbrev Ord := Int × Int × Int × Int × Int × Int
def tabW : List (List UInt8) := [[], [115, 116, 101, 112], [100, 101, 108, 105, 118, 101, 114], [100, 114, 111, 112], [100, 111, 117, 98, 108, 101], [115, 112, 111, 105, 108], [116, 105, 99, 107], [103, 111, 97, 108], [99, 114, 97, 115, 104], [119, 97, 107, 101]]
def nmL (k : Int) : List UInt8 := if 0 ≤ k ∧ k < 10 then tabW.getD k.toNat [] else []
def i64 (n : Int) : Prop := -9223372036854775808 ≤ n ∧ n ≤ 9223372036854775807
/-- Numbers as they can be. -/
structure OrdW (x : Ord) : Prop where
  k : i64 x.1
  r : i64 x.2.1
  n : i64 x.2.2.1
  a : i64 x.2.2.2.1
  w : i64 x.2.2.2.2.1
  d : 0 ≤ x.2.2.2.2.2 ∧ x.2.2.2.2.2 < 18446744073709551616
def mayP (x : Ord) : Prop :=
  (x.1 = 1 ∧ 0 ≤ x.2.1 ∧ x.2.1 ≤ 63 ∧ x.2.2.2.1 = 0 ∧ x.2.2.2.2.1 = 0 ∧ x.2.2.1 = 0) ∨
  ((x.1 = 2 ∨ x.1 = 3 ∨ x.1 = 4) ∧ 1 ≤ x.2.2.1 ∧ x.2.1 = 0 ∧ x.2.2.2.1 = 0 ∧ x.2.2.2.2.1 = 0 ∧ x.2.2.2.2.2 = 0) ∨
  (x.1 = 5 ∧ 1 ≤ x.2.2.1 ∧ 0 ≤ x.2.2.2.1 ∧ 1 ≤ x.2.2.2.2.1 ∧ x.2.2.2.2.1 ≤ 255 ∧ x.2.1 = 0 ∧ x.2.2.2.2.2 = 0) ∨
  (x.1 = 6 ∧ 0 ≤ x.2.1 ∧ x.2.1 ≤ 63 ∧ x.2.2.2.1 = 0 ∧ x.2.2.2.2.1 = 0 ∧ x.2.2.1 = 0 ∧ x.2.2.2.2.2 = 0) ∨
  (x.1 = 7 ∧ 0 ≤ x.2.1 ∧ x.2.1 ≤ 63 ∧ x.2.2.2.1 = 0 ∧ x.2.2.2.2.1 = 0 ∧ x.2.2.2.2.2 = 0 ∧ 0 ≤ x.2.2.1 ∧ x.2.2.1 ≤ 1023) ∨
  (x.1 = 8 ∧ 0 ≤ x.2.1 ∧ x.2.1 ≤ 63 ∧ x.2.2.2.1 = 0 ∧ x.2.2.2.2.1 = 0 ∧ x.2.2.2.2.2 = 0 ∧ 0 ≤ x.2.2.1 ∧ x.2.2.1 ≤ 1000) ∨
  (x.1 = 9 ∧ 0 ≤ x.2.1 ∧ x.2.1 ≤ 63 ∧ x.2.2.2.1 = 0 ∧ x.2.2.2.2.1 = 0 ∧ x.2.2.2.2.2 = 0 ∧ -1 ≤ x.2.2.1 ∧ x.2.2.1 ≤ 1000)
instance (x : Ord) : Decidable (mayP x) := by unfold mayP; infer_instance
/-- The parts that a kind names. -/
def partsB (kind : Int) : List UInt8 :=
  if kind = 1 then [114, 100] else if kind = 2 ∨ kind = 3 ∨ kind = 4 then [112] else if kind = 5 then [112, 97, 119] else if kind = 6 then [114] else if kind = 7 then [114, 99]
  else if kind = 8 then [114, 101] else if kind = 9 then [114, 117] else []
abbrev allT : List UInt8 := [97, 108, 108]
def wordO (x : Ord) (c : Int) : List UInt8 :=
  if c = 114 then Lib.itoa x.2.1 else if c = 100 then dec x.2.2.2.2.2.toNat else if c = 97 then Lib.itoa x.2.2.2.1 else if c = 119 then Lib.itoa x.2.2.2.2.1
  else if c = 117 ∧ x.2.2.1 < 0 then allT else Lib.itoa x.2.2.1
def wordsO (x : Ord) : List (List UInt8) := nmL x.1 :: (partsB x.1).map fun c => wordO x (c.toNat : Int)
def lineL (x : Ord) : List UInt8 := jn (wordsO x)
def zeroO : Ord := (0, 0, 0, 0, 0, 0)
def lineP (x : Ord) : List UInt8 × Int := if mayP x then (lineL x, 0) else ([], 230)

theorem itoa_nn {n : Int} (h : 0 ≤ n) : Lib.itoa n = dec n.toNat := by unfold Lib.itoa; rw [if_neg (by omega)]
theorem itoa_sp (n : Int) : (32 : UInt8) ∉ Lib.itoa n := by
  unfold Lib.itoa
  split
  · intro h
    rcases List.mem_cons.1 h with h | h
    · simp at h
    · exact dec_sp _ h
  · exact dec_sp _
theorem tabW_sp : ∀ w ∈ tabW, (32 : UInt8) ∉ w := by decide
theorem nmL_sp (k : Int) : (32 : UInt8) ∉ nmL k := by
  unfold nmL
  split
  · rename_i h
    have hk : k.toNat < tabW.length := by show k.toNat < 10; omega
    rw [List.getD_eq_getElem?_getD, List.getElem?_eq_getElem hk]
    exact tabW_sp _ (List.getElem_mem hk)
  · simp
theorem wordO_sp (x : Ord) (c : Int) : (32 : UInt8) ∉ wordO x c := by
  unfold wordO
  repeat' split
  all_goals first | exact itoa_sp _ | exact dec_sp _ | decide
theorem wordsO_sp (x : Ord) : ∀ w ∈ wordsO x, (32 : UInt8) ∉ w := by
  intro w hw
  rcases List.mem_cons.1 hw with rfl | hw
  · exact nmL_sp _
  · obtain ⟨c, _, rfl⟩ := List.mem_map.1 hw
    exact wordO_sp _ _
theorem wd_line (x : Ord) : wd (lineL x) = wordsO x := wd_jn (by simp [wordsO]) (wordsO_sp x)

/-! ### What a line could say: the program's -/
def atoiN (w : List UInt8) : Int := match Lib.atoiAll w with | .ok v => v | Lib.NumEnd.syntax => 0 | .range => Lib.atoiSat w
def puN (w : List UInt8) : Int := match Lib.parseUintB 64 w with | .ok v => ((v : Nat) : Int) | Lib.NumEnd.syntax => 0 | .range => 18446744073709551615
def kindF (w : List UInt8) : Nat → Int
  | 0 => 0
  | n + 1 => if 0 < n ∧ tabW.getD n [] = w then (n : Int) else kindF w n
def setO (x : Ord) (c : Int) (w : List UInt8) : Ord :=
  if c = 114 then (x.1, atoiN w, x.2.2) else if c = 100 then (x.1, x.2.1, x.2.2.1, x.2.2.2.1, x.2.2.2.2.1, puN w) else if c = 97 then (x.1, x.2.1, x.2.2.1, atoiN w, x.2.2.2.2)
  else if c = 119 then (x.1, x.2.1, x.2.2.1, x.2.2.2.1, atoiN w, x.2.2.2.2.2) else if c = 117 ∧ w = allT then (x.1, x.2.1, -1, x.2.2.2) else (x.1, x.2.1, atoiN w, x.2.2.2)
def setsO (x : Ord) : List UInt8 → List (List UInt8) → Ord
  | [], _ => x
  | c :: p, l => setsO (setO x (c.toNat : Int) (l.headD [])) p l.tail
def candA (s : List UInt8) : Ord := let k := kindF ((wd s).headD []) 10; setsO (k, 0, 0, 0, 0, 0) (partsB k) (wd s).tail
/-! ### .. and the document's -/
def valL : Nat → List UInt8 → Nat
  | n, [] => n
  | n, c :: r => if c.toNat < 48 ∨ 57 < c.toNat ∨ 1844674407370955161 < n then n else if n = 1844674407370955161 ∧ 5 < c.toNat - 48 then n else valL (10 * n + (c.toNat - 48)) r
def smallL (w : List UInt8) : Int := if 9223372036854775807 < valL 0 w then -9 else (valL 0 w : Int)
def candB (s : List UInt8) : Ord :=
  let l := wd s
  let k := kindF (l.headD []) 10
  let l1 := l.getD 1 []; let l2 := l.getD 2 []; let l3 := l.getD 3 []
  if k = 1 then (k, smallL l1, 0, 0, 0, (valL 0 l2 : Int)) else if 2 ≤ k ∧ k ≤ 4 then (k, 0, smallL l1, 0, 0, 0) else if k = 5 then (k, 0, smallL l1, smallL l2, smallL l3, 0)
  else if 6 ≤ k then (k, smallL l1, if k = 9 ∧ l2 = allT then -1 else if 6 < k then smallL l2 else 0, 0, 0, 0) else (k, 0, 0, 0, 0, 0)

theorem atoiN_dec {n : Int} (h : 0 ≤ n) (h2 : n ≤ 9223372036854775807) : atoiN (dec n.toNat) = n := by
  unfold atoiN
  rw [atoi_dec (by omega)]
  show ((n.toNat : Nat) : Int) = n
  omega
theorem puN_dec {n : Int} (h : 0 ≤ n) (h2 : n < 18446744073709551616) : puN (dec n.toNat) = n := by
  unfold puN
  rw [puB_dec (by omega)]
  show ((n.toNat : Nat) : Int) = n
  omega
theorem valL_pu : ∀ (l : List UInt8) (acc u : Nat), Lib.parseUint10 acc l = .ok u → valL acc l = u
  | [], acc, u, h => by cases h; rfl
  | c :: r, acc, u, h => by
    simp only [Lib.parseUint10] at h
    split at h
    · split at h
      · cases h
      · split at h
        · cases h
        · have := valL_pu r _ u h
          unfold valL
          rw [if_neg (by omega), if_neg (by omega), Nat.mul_comm 10 acc]
          exact this
    · cases h
theorem valL_dec {u : Nat} (h : u < 18446744073709551616) : valL 0 (dec u) = u := valL_pu _ _ _ (pu_dec u h)
theorem smallL_dec {n : Int} (h : 0 ≤ n) (h2 : n ≤ 9223372036854775807) : smallL (dec n.toNat) = n := by
  unfold smallL
  rw [valL_dec (by omega), if_neg (by omega)]
  omega
theorem valL_lt : ∀ (l : List UInt8) (acc : Nat), acc < 18446744073709551616 → valL acc l < 18446744073709551616
  | [], acc, h => h
  | c :: r, acc, h => by
    unfold valL
    split
    · exact h
    · split
      · exact h
      · exact valL_lt r _ (by omega)
theorem smallL_i64 (w : List UInt8) : i64 (smallL w) := by
  unfold smallL i64
  split <;> omega
theorem atoiN_i64 (w : List UInt8) : i64 (atoiN w) := by
  unfold atoiN i64
  cases h : Lib.atoiAll w with
  | range =>
    dsimp only
    unfold Lib.atoiSat
    split <;> omega
  | ok v =>
    dsimp only
    unfold Lib.atoiAll at h
    cases w with
    | nil => cases h
    | cons c r =>
      dsimp only at h
      split at h
      · cases h
      · cases h
      · split at h
        · cases h
        · split at h
          · cases h
          · rename_i g1 g2
            injection h with h
            subst h
            split <;> omega
  | _ => simp
theorem puN_u64 (w : List UInt8) : 0 ≤ puN w ∧ puN w < 18446744073709551616 := by
  unfold puN
  cases h : Lib.parseUintB 64 w with
  | ok v =>
    dsimp only
    unfold Lib.parseUintB at h
    split at h
    · cases h
    · rw [puM_eq] at h
      have := Lib.parseUint10_lt _ _ _ (by omega) h
      omega
  | _ => simp
theorem kindF_le (w : List UInt8) : ∀ n, n ≤ 10 → 0 ≤ kindF w n ∧ kindF w n ≤ 9
  | 0, _ => by simp [kindF]
  | n + 1, h => by
    unfold kindF
    split
    · omega
    · exact kindF_le w n (by omega)
theorem setO_w {x : Ord} (h : OrdW x) (c : Int) (w : List UInt8) : OrdW (setO x c w) := by
  have h1 := atoiN_i64 w
  unfold setO
  split
  · exact ⟨h.k, h1, h.n, h.a, h.w, h.d⟩
  split
  · exact ⟨h.k, h.r, h.n, h.a, h.w, puN_u64 w⟩
  split
  · exact ⟨h.k, h.r, h.n, h1, h.w, h.d⟩
  split
  · exact ⟨h.k, h.r, h.n, h.a, h1, h.d⟩
  split
  · exact ⟨h.k, h.r, by unfold i64; simp, h.a, h.w, h.d⟩
  · exact ⟨h.k, h.r, h1, h.a, h.w, h.d⟩
theorem setsO_w : ∀ {x : Ord} (h : OrdW x) (p : List UInt8) (l : List (List UInt8)), OrdW (setsO x p l)
  | x, h, [], l => h
  | x, h, c :: p, l => setsO_w (setO_w h _ _) p l.tail
theorem candA_w (s : List UInt8) : OrdW (candA s) := by
  have := kindF_le ((wd s).headD []) 10 (by omega)
  exact setsO_w ⟨by unfold i64; dsimp only; omega, by simp [i64], by simp [i64], by simp [i64], by simp [i64], by simp⟩ _ _
theorem candB_w (s : List UInt8) : OrdW (candB s) := by
  have hk := kindF_le ((wd s).headD []) 10 (by omega)
  unfold candB
  dsimp only
  generalize kindF ((wd s).headD []) 10 = k at hk ⊢
  have h0 : i64 0 := by simp [i64]
  have h1 := smallL_i64 ((wd s).getD 1 [])
  have h2 := smallL_i64 ((wd s).getD 2 [])
  have h3 := smallL_i64 ((wd s).getD 3 [])
  have hv := valL_lt ((wd s).getD 2 []) 0 (by omega)
  have kk : i64 k := by unfold i64; omega
  split
  · exact ⟨kk, h1, h0, h0, h0, by dsimp only; omega⟩
  split
  · exact ⟨kk, h0, h1, h0, h0, by simp⟩
  split
  · exact ⟨kk, h0, h1, h2, h3, by simp⟩
  split
  · refine ⟨kk, h1, ?_, h0, h0, by simp⟩
    dsimp only
    split
    · simp [i64]
    · split
      · exact h2
      · exact h0
  · exact ⟨kk, h0, h0, h0, h0, by simp⟩
theorem kindF_nm : ∀ k : Fin 10, 0 < k.val → kindF (tabW.getD k.val []) 10 = (k.val : Int) := by decide
theorem kindF_of {k : Int} (h : 1 ≤ k) (h2 : k ≤ 9) : kindF (nmL k) 10 = k := by
  have := kindF_nm ⟨k.toNat, by omega⟩ (by show 0 < k.toNat; omega)
  unfold nmL
  rw [if_pos (by omega), this]
  show ((k.toNat : Nat) : Int) = k
  omega
theorem dec_all (u : Nat) : dec u ≠ allT := fun h => by have := dec_dig u 97 (by rw [h]; simp); unfold digB at this; simp at this
theorem mayP_kind {x : Ord} (h : mayP x) : 1 ≤ x.1 ∧ x.1 ≤ 9 := by unfold mayP at h; omega
/-- What an order's line says is that order. -/
theorem candA_line {x : Ord} (h : mayP x) (hw : OrdW x) : candA (lineL x) = x := by
  obtain ⟨k1, k2⟩ := mayP_kind h
  unfold candA
  rw [wd_line]
  have hk : kindF ((wordsO x).headD []) 10 = x.1 := kindF_of k1 k2
  dsimp only
  rw [hk]
  obtain ⟨w1, w2, w3, w4, w5, w6⟩ := hw
  obtain ⟨k, r, n, a, w, d⟩ := x
  unfold i64 at w1 w2 w3 w4 w5
  dsimp only at h k1 k2 hk w1 w2 w3 w4 w5 w6 ⊢
  unfold mayP at h
  dsimp only at h
  rcases h with ⟨rfl, h⟩ | ⟨rfl | rfl | rfl, h⟩ | ⟨rfl, h⟩ | ⟨rfl, h⟩ | ⟨rfl, h⟩ | ⟨rfl, h⟩ | ⟨rfl, h⟩
  · obtain ⟨h1, h2, rfl, rfl, rfl⟩ := h
    have e1 := atoiN_dec (n := r) (by omega) (by omega)
    have e2 := puN_dec (n := d) w6.1 w6.2
    simp [wordsO, partsB, setsO, setO, wordO, itoa_nn h1, e1, e2]
  · obtain ⟨h1, rfl, rfl, rfl, rfl⟩ := h
    have e1 := atoiN_dec (n := n) (by omega) (by omega)
    simp [wordsO, partsB, setsO, setO, wordO, itoa_nn (show 0 ≤ n by omega), e1]
  · obtain ⟨h1, rfl, rfl, rfl, rfl⟩ := h
    have e1 := atoiN_dec (n := n) (by omega) (by omega)
    simp [wordsO, partsB, setsO, setO, wordO, itoa_nn (show 0 ≤ n by omega), e1]
  · obtain ⟨h1, rfl, rfl, rfl, rfl⟩ := h
    have e1 := atoiN_dec (n := n) (by omega) (by omega)
    simp [wordsO, partsB, setsO, setO, wordO, itoa_nn (show 0 ≤ n by omega), e1]
  · obtain ⟨h1, h2, h3, h4, rfl, rfl⟩ := h
    have e1 := atoiN_dec (n := n) (by omega) (by omega)
    have e2 := atoiN_dec (n := a) (by omega) (by omega)
    have e3 := atoiN_dec (n := w) (by omega) (by omega)
    simp [wordsO, partsB, setsO, setO, wordO, itoa_nn (show 0 ≤ n by omega), itoa_nn (show 0 ≤ a by omega), itoa_nn (show 0 ≤ w by omega), e1, e2, e3]
  · obtain ⟨h1, h2, rfl, rfl, rfl, rfl⟩ := h
    have e1 := atoiN_dec (n := r) (by omega) (by omega)
    simp [wordsO, partsB, setsO, setO, wordO, itoa_nn h1, e1]
  · obtain ⟨h1, h2, rfl, rfl, rfl, h3, h4⟩ := h
    have e1 := atoiN_dec (n := r) (by omega) (by omega)
    have e2 := atoiN_dec (n := n) (by omega) (by omega)
    simp [wordsO, partsB, setsO, setO, wordO, itoa_nn h1, itoa_nn h3, e1, e2]
  · obtain ⟨h1, h2, rfl, rfl, rfl, h3, h4⟩ := h
    have e1 := atoiN_dec (n := r) (by omega) (by omega)
    have e2 := atoiN_dec (n := n) (by omega) (by omega)
    simp [wordsO, partsB, setsO, setO, wordO, itoa_nn h1, itoa_nn h3, e1, e2]
  · obtain ⟨h1, h2, rfl, rfl, rfl, h3, h4⟩ := h
    have e1 := atoiN_dec (n := r) (by omega) (by omega)
    by_cases hn : n < 0
    · obtain rfl : n = -1 := by omega
      simp [wordsO, partsB, setsO, setO, wordO, itoa_nn h1, e1]
    · have e2 := atoiN_dec (n := n) (by omega) (by omega)
      simp [wordsO, partsB, setsO, setO, wordO, itoa_nn h1, itoa_nn (show 0 ≤ n by omega), e1, e2, hn, dec_all]
theorem candB_line {x : Ord} (h : mayP x) (hw : OrdW x) : candB (lineL x) = x := by
  obtain ⟨k1, k2⟩ := mayP_kind h
  unfold candB
  rw [wd_line]
  have hk : kindF ((wordsO x).headD []) 10 = x.1 := kindF_of k1 k2
  dsimp only
  rw [hk]
  obtain ⟨w1, w2, w3, w4, w5, w6⟩ := hw
  obtain ⟨k, r, n, a, w, d⟩ := x
  unfold i64 at w1 w2 w3 w4 w5
  dsimp only at h k1 k2 hk w1 w2 w3 w4 w5 w6 ⊢
  unfold mayP at h
  dsimp only at h
  rcases h with ⟨rfl, h⟩ | ⟨rfl | rfl | rfl, h⟩ | ⟨rfl, h⟩ | ⟨rfl, h⟩ | ⟨rfl, h⟩ | ⟨rfl, h⟩ | ⟨rfl, h⟩
  · obtain ⟨h1, h2, rfl, rfl, rfl⟩ := h
    have e1 := smallL_dec (n := r) (by omega) (by omega)
    have e2 : ((valL 0 (dec d.toNat) : Nat) : Int) = d := by rw [valL_dec (by omega)]; omega
    simp [wordsO, partsB, wordO, itoa_nn h1, e1, e2]
  · obtain ⟨h1, rfl, rfl, rfl, rfl⟩ := h
    have e1 := smallL_dec (n := n) (by omega) (by omega)
    simp [wordsO, partsB, wordO, itoa_nn (show 0 ≤ n by omega), e1]
  · obtain ⟨h1, rfl, rfl, rfl, rfl⟩ := h
    have e1 := smallL_dec (n := n) (by omega) (by omega)
    simp [wordsO, partsB, wordO, itoa_nn (show 0 ≤ n by omega), e1]
  · obtain ⟨h1, rfl, rfl, rfl, rfl⟩ := h
    have e1 := smallL_dec (n := n) (by omega) (by omega)
    simp [wordsO, partsB, wordO, itoa_nn (show 0 ≤ n by omega), e1]
  · obtain ⟨h1, h2, h3, h4, rfl, rfl⟩ := h
    have e1 := smallL_dec (n := n) (by omega) (by omega)
    have e2 := smallL_dec (n := a) (by omega) (by omega)
    have e3 := smallL_dec (n := w) (by omega) (by omega)
    simp [wordsO, partsB, wordO, itoa_nn (show 0 ≤ n by omega), itoa_nn (show 0 ≤ a by omega), itoa_nn (show 0 ≤ w by omega), e1, e2, e3]
  · obtain ⟨h1, h2, rfl, rfl, rfl, rfl⟩ := h
    have e1 := smallL_dec (n := r) (by omega) (by omega)
    simp [wordsO, partsB, wordO, itoa_nn h1, e1]
  · obtain ⟨h1, h2, rfl, rfl, rfl, h3, h4⟩ := h
    have e1 := smallL_dec (n := r) (by omega) (by omega)
    have e2 := smallL_dec (n := n) (by omega) (by omega)
    simp [wordsO, partsB, wordO, itoa_nn h1, itoa_nn h3, e1, e2]
  · obtain ⟨h1, h2, rfl, rfl, rfl, h3, h4⟩ := h
    have e1 := smallL_dec (n := r) (by omega) (by omega)
    have e2 := smallL_dec (n := n) (by omega) (by omega)
    simp [wordsO, partsB, wordO, itoa_nn h1, itoa_nn h3, e1, e2]
  · obtain ⟨h1, h2, rfl, rfl, rfl, h3, h4⟩ := h
    have e1 := smallL_dec (n := r) (by omega) (by omega)
    by_cases hn : n < 0
    · obtain rfl : n = -1 := by omega
      simp [wordsO, partsB, wordO, itoa_nn h1, e1]
    · have e2 := smallL_dec (n := n) (by omega) (by omega)
      simp [wordsO, partsB, wordO, itoa_nn h1, itoa_nn (show 0 ≤ n by omega), e1, e2, hn, dec_all]
def readP (c : Ord) (s : List UInt8) : Ord × Int := if mayP c ∧ lineL c = s then (c, 0) else (zeroO, 230)
/-- Both read the same. -/
theorem read_same (s : List UInt8) : readP (candA s) s = readP (candB s) s := by
  unfold readP
  by_cases h : mayP (candA s) ∧ lineL (candA s) = s
  · have e := candB_line h.1 (candA_w s)
    rw [h.2] at e
    rw [e]
  · by_cases h' : mayP (candB s) ∧ lineL (candB s) = s
    · have e := candA_line h'.1 (candB_w s)
      rw [h'.2] at e
      rw [e] at h
      exact (h h').elim
    · rw [if_neg h, if_neg h']
theorem read_line {x : Ord} (h : mayP x) (hw : OrdW x) : readP (candA (lineL x)) (lineL x) = (x, 0) := by
  unfold readP
  rw [candA_line h hw, if_pos ⟨h, rfl⟩]
theorem line_len {x : Ord} (hw : OrdW x) : (lineL x).length ≤ 100 := by
  have h1 : ∀ w ∈ wordsO x, w.length ≤ 24 := by
    have hi : ∀ n, i64 n → (Lib.itoa n).length ≤ 24 := by
      intro n hn
      unfold i64 at hn
      unfold Lib.itoa
      split
      · have := dec_len (u := n.natAbs) (by omega)
        simp only [List.length_cons]
        show (dec n.natAbs).length + 1 ≤ 24
        omega
      · have := dec_len (u := n.toNat) (by omega)
        show (dec n.toNat).length ≤ 24
        omega
    intro w hw'
    rcases List.mem_cons.1 hw' with rfl | hw'
    · unfold nmL
      split
      · have : ∀ w ∈ tabW, w.length ≤ 24 := by decide
        have hk : x.1.toNat < tabW.length := by show x.1.toNat < 10; omega
        rw [List.getD_eq_getElem?_getD, List.getElem?_eq_getElem hk]
        exact this _ (List.getElem_mem hk)
      · simp
    · obtain ⟨c, _, rfl⟩ := List.mem_map.1 hw'
      unfold wordO
      split
      · exact hi _ hw.r
      split
      · have := dec_len (u := x.2.2.2.2.2.toNat) (by have := hw.d; omega)
        omega
      split
      · exact hi _ hw.a
      split
      · exact hi _ hw.w
      split
      · decide
      · exact hi _ hw.n
  have h2 : (wordsO x).length ≤ 4 := by
    simp only [wordsO, List.length_cons, List.length_map]
    unfold partsB
    repeat' split
    all_goals simp
  have := jn_len (wordsO x) h1
  have := Nat.mul_le_mul_right 25 h2
  unfold lineL
  omega
end
end Go.Proofs.YtgdijpcopdgapaaDoor

/- Tally: names of orders; the package's variables. -/
namespace Go.Proofs.YtgdijpcopdgapaaDoor
open Go Go.Proofs.YtgdijpcopdgapaaDoor.D
set_option linter.unusedVariables false
set_option linter.unusedSimpArgs false
noncomputable section

theorem und9 : E0.und 9 = some .string := by kernel_rfl
abbrev strV (l : List UInt8) : Value := .string ⟨l.toArray⟩
def powT : List Int := Lib.pow10Tab
/-- The kinds of messages: words, and fields. -/
def kindW : List (List UInt8 × (Int × Int × Int × Int × Int)) :=
  [([114, 101, 113, 117, 101, 115, 116], 1, 3, 4, 0, 0), ([103, 114, 97, 110, 116], 1, 2, 3, 0, 0), ([114, 101, 108, 101, 97, 115, 101], 1, 2, 0, 0, 0), ([97, 99, 107], 0, 0, 0, 0, 0),
   ([100, 101, 110, 121], 1, 3, 7, 0, 0), ([112, 114, 111, 98, 101], 1, 6, 7, 4, 5), ([97, 98, 111, 114, 116], 6, 7, 0, 0, 0), ([105, 110, 104, 101, 114, 105, 116], 1, 4, 0, 0, 0),
   ([104, 101, 108, 108, 111], 0, 0, 0, 0, 0), ([114, 101, 99, 97, 108, 108], 1, 2, 0, 0, 0), ([115, 116, 97, 116, 117, 115], 8, 0, 0, 0, 0)]
def kindV (x : List UInt8 × (Int × Int × Int × Int × Int)) : List Value := [strV x.1, .int .i64 x.2.1, .int .i64 x.2.2.1, .int .i64 x.2.2.2.1, .int .i64 x.2.2.2.2.1, .int .i64 x.2.2.2.2.2]
/-- The package's variables as they are laid. -/
structure Gl (S : St) : Prop where
  kinds : ∃ more ro fz, At S 0 (.cells (kindW.flatMap kindV) more ro fz)
  words : ∃ more ro fz, At S 1 (.cells (tabW.map strV) more ro fz)
  pow : ∃ more ro fz, At S 2 (.cells (powT.map (Value.int .u64)) more ro fz)
theorem Gl.ext {S S' : St} (g : Gl S) (e : Ext S S') : Gl S' := by
  obtain ⟨⟨a1, a2, a3, a4⟩, ⟨b1, b2, b3, b4⟩, c1, c2, c3, c4⟩ := g
  exact ⟨⟨a1, a2, a3, e.at a4⟩, ⟨b1, b2, b3, e.at b4⟩, c1, c2, c3, e.at c4⟩
theorem load1_at {S : St} {b o : Nat} {cs : List Value} {more : Option Nat} {ro : Bool} {fz : Option (Nat × Nat)} (h : At S b (.cells cs more ro fz)) : S.load1 b o = cs[o]? := by
  unfold St.load1
  rw [h.get]
theorem tab_get {kd : Int} (h0 : 0 ≤ kd) (h1 : kd < 10) : (tabW.map strV)[0 + Int.toNat kd * 1]? = some (strV (nmL kd)) := by
  have hk : kd.toNat < tabW.length := by show kd.toNat < 10; omega
  rw [Nat.zero_add, Nat.mul_one, List.getElem?_map, List.getElem?_eq_getElem hk]
  unfold nmL
  rw [if_pos ⟨h0, h1⟩, List.getD_eq_getElem?_getD, List.getElem?_eq_getElem hk]
  rfl
theorem s45 {S : St} {kd : Int} {k : Value → St → Prop} (g : Gl S) (hk : k (strV (nmL kd)) S) : WC E0 45 [.int .i64 kd] S k := by
  refine w45 kd ?_
  unfold c45
  refine ifW_dec (fun h => ?_) fun h => ?_
  · rw [show nmL kd = [] by unfold nmL; rw [if_neg (by omega)]] at hk
    exact hk
  refine ifW_dec (fun h2 => ?_) fun h2 => ?_
  · rw [show nmL kd = [] by unfold nmL; rw [if_neg (by omega)]] at hk
    exact hk
  obtain ⟨more, ro, fz, hat⟩ := g.words
  refine ⟨1, 0, rfl, by omega, by omega, ?_⟩
  exact evV_of (ty := tT) (nmL kd) ((load_one hat (by kernel_rfl)).trans (tab_get (by omega) (by omega))) hk
theorem s25 {S : St} {kd : Int} {k : Value → St → Prop} (hk : ∀ S', Ext S S' → k (strV (nmL kd)) S') : WC E0 25 [.int .i64 kd] S k := by
  refine w25 kd ?_
  unfold c25
  refine ifW_dec (fun h => ?_) fun h => ?_
  · have hk := hk S (Mod.refl _ _)
    by_cases h0 : kd = 0
    · subst h0; exact hk
    · rw [show nmL kd = [] by unfold nmL; rw [if_neg (by omega)]] at hk
      exact hk
  refine ifW_dec (fun h2 => ?_) fun h2 => ?_
  · have hk := hk S (Mod.refl _ _)
    rw [show nmL kd = [] by unfold nmL; rw [if_neg (by omega)]] at hk
    exact hk
  refine newW_of fun b1 S1 hb ha e hn => ?_
  have hat : At S1 b1 (.cells (tabW.map strV) none false none) := ha
  refine ⟨b1, 0, rfl, by omega, by omega, ?_⟩
  exact evV_of (ty := tT) (nmL kd) ((load_one hat (by kernel_rfl)).trans (tab_get (by omega) (by omega))) (hk S1 e)
theorem not_of {t : Bool} {p : Prop} (ht : t = true ↔ p) (h : t = false) : ¬ p := fun hp => by rw [ht.2 hp] at h; cases h
end
end Go.Proofs.YtgdijpcopdgapaaDoor

/- Tally: numbers as texts. -/
namespace Go.Proofs.YtgdijpcopdgapaaDoor
open Go Go.Proofs.YtgdijpcopdgapaaDoor.D
set_option linter.unusedVariables false
set_option linter.unusedSimpArgs false
noncomputable section

theorem und36 : E0.und 36 = some (.slice 5) := by kernel_rfl
theorem und5 : E0.und 5 = some (.int .u8) := by kernel_rfl
theorem und101 : E0.und 101 = some (.array 24 5) := by kernel_rfl
theorem size5 : E0.size 5 = some 1 := by kernel_rfl
abbrev byV (c : UInt8) : Value := .int .u8 (c.toNat : Int)
theorem byteOf_by (c : UInt8) : byteOfV (byV c) = some c := by
  show some (UInt8.ofNat ((c.toNat : Int)).toNat) = some c
  simp
theorem mapM_by (l : List UInt8) : (l.map byV).mapM byteOfV = some l := by
  induction l with
  | nil => rfl
  | cons c l ih => rw [List.map_cons, List.mapM_cons, byteOf_by, ih]; rfl
theorem conv_str {S : St} {b o cap : Nat} {l : List UInt8} (h : S.loadN b o l.length = some (l.map byV)) (h0 : l ≠ []) : convertD E0 S 36 9 (.slice (some ⟨b, o, none⟩) l.length cap) = some (strV l, S) := by
  have hl : Nat.beq l.length 0 = false := Bool.eq_false_iff.2 fun hh => h0 (List.length_eq_zero_iff.1 (Nat.eq_of_beq_eq_true hh))
  simp only [convertD, und36, und9, und5, hl, cond_false, h, Option.bind_some, mapM_by, Option.map_some]
theorem loadN_of {S : St} {b o n : Nat} {cs vs : List Value} {more : Option Nat} {ro : Bool} {fz : Option (Nat × Nat)} (h : At S b (.cells cs more ro fz)) (hv : (cs.drop o).take n = vs) (hl : vs.length = n) : S.loadN b o n = some vs := by
  subst hv
  simp only [St.loadN, h.get, hl, Nat.beq_refl, cond_true]
theorem digVs_dec {u : Nat} : digVs u (Lib.nDigits u) = (dec u).map byV := by
  unfold digVs
  show _ = (Lib.decDigits u).map byV
  rw [Lib.decDigits_eq, List.map_map]
  refine List.map_congr_left fun t ht => ?_
  unfold digV
  have : u / 10 ^ (Lib.nDigits u - 1 - t) % 10 < 10 := Nat.mod_lt _ (by omega)
  show Value.int .u8 _ = byV (Lib.dg u (Lib.nDigits u - 1 - t))
  unfold Lib.dg
  rw [byV, ofNat_toNat (by omega)]
theorem s57 {S : St} {u : Nat} {k : Value → St → Prop} (h : u < 18446744073709551616) (hk : k (.int .i64 ((Lib.bitLen u : Nat) : Int)) S) : WC E0 57 [.int .u64 (u : Int)] S k := by
  refine WC_prim (E := E0) (f := 57) rfl (show withS lenP [.int .u64 (u : Int)] S = some (.int .i64 ((Lib.bitLen u : Nat) : Int), S) from ?_) hk
  have h1 : decide ((0 : Int) ≤ (u : Int)) = true := by simp
  have h2 : decide ((u : Int) ≤ 18446744073709551615) = true := decide_eq_true (by omega)
  simp only [withS, lenP, h1, h2, Bool.and_self, cond_true, Option.map_some, Int.toNat_natCast]
theorem s47 {S : St} {i : Nat} {k : Value → St → Prop} (h : i < 100) (hk : k (strV (dec i)) S) : WC E0 47 [.int .i64 (i : Int)] S k := by
  refine WC_prim (E := E0) (f := 47) rfl (show withS smallP [.int .i64 (i : Int)] S = some (strV (dec i), S) from ?_) hk
  have h1 : decide ((0 : Int) ≤ (i : Int)) = true := by simp
  have h2 : decide ((i : Int) < 100) = true := decide_eq_true (by omega)
  simp only [withS, smallP, h1, h2, Bool.and_self, cond_true, Option.map_some, Int.toNat_natCast]
theorem s49 {S : St} {b o n cap u : Nat} {cs : List Value} {more : Option Nat} {k : Value → St → Prop} (hat : At S b (.cells cs more false none)) (hn : 0 < n) (ho : o + n ≤ cs.length) (hb : ∀ v ∈ (cs.drop o).take n, isB v = true) (hu : u < 10 ^ n) (hu64 : u < 18446744073709551616) (hn2 : n < 4611686018427387904)
    (hk : k (.tuple #[]) (S.upd b (.cells (cs.take o ++ (digVs u n ++ cs.drop (o + n))) more false none))) : WC E0 49 [.slice (some ⟨b, o, none⟩) n cap, .int .u64 (u : Int)] S k := by
  obtain ⟨m, rfl⟩ : ∃ m, n = m + 1 := ⟨n - 1, by omega⟩
  refine WC_prim (E := E0) (f := 49) rfl (show fmtP [.slice (some ⟨b, o, none⟩) (m + 1) cap, .int .u64 (u : Int)] S = some (.tuple #[], _) from ?_) hk
  have hld : S.loadN b o (m + 1) = some ((cs.drop o).take (m + 1)) := loadN_of hat rfl (by simp; omega)
  have hall : ((cs.drop o).take (m + 1)).all isB = true := List.all_eq_true.2 hb
  have h1 : decide ((0 : Int) ≤ (u : Int)) = true := by simp
  have h2 : Nat.blt u (10 ^ (m + 1)) = true := Nat.blt_eq.mpr hu
  have h3 : Nat.blt u 18446744073709551616 = true := Nat.blt_eq.mpr hu64
  have h4 : Nat.blt (m + 1) 4611686018427387904 = true := Nat.blt_eq.mpr hn2
  have hdl : (digVs u (m + 1)).length = m + 1 := by simp [digVs]
  have hone : (digVs u (m + 1)).all St.one = true := List.all_eq_true.2 fun v hv => by
    obtain ⟨t, _, rfl⟩ := List.mem_map.1 hv
    rfl
  have h5 : Nat.ble (o + (m + 1)) cs.length = true := Nat.ble_eq_true_of_le ho
  have hst : S.storeN b o (digVs u (m + 1)) = some (S.upd b (.cells (cs.take o ++ (digVs u (m + 1) ++ cs.drop (o + (m + 1)))) more false none)) := by
    simp only [St.storeN, hat.get, Bool.not_false, Bool.true_and, h5, hone, St.fzOk, Bool.and_self, cond_true, hdl]
  simp only [fmtP, hld, Option.bind_some, hall, Int.toNat_natCast, h1, h2, h3, h4, Bool.and_self, cond_true, hst, Option.map_some]
theorem pow_get {i : Nat} (h : i < 20) : (powT.map (Value.int .u64))[0 + i * 1]? = some (.int .u64 ((10 ^ i : Nat) : Int)) := by
  have hl : i < powT.length := by show i < Lib.pow10Tab.length; rw [Lib.pow10Tab_length]; exact h
  have := Lib.pow10Tab_at i h
  rw [Nat.zero_add, Nat.mul_one, List.getElem?_map, List.getElem?_eq_getElem hl, Option.map_some]
  rw [List.getD_eq_getElem?_getD, List.getElem?_eq_getElem (show i < Lib.pow10Tab.length from hl)] at this
  rw [← this]
  rfl
theorem s48 {S : St} {u : Nat} {k : Value → St → Prop} (g : Gl S) (h1 : 1 ≤ u) (h2 : u < 18446744073709551616) (hk : k (.int .i64 ((Lib.nDigits u : Nat) : Int)) S) : WC E0 48 [.int .u64 (u : Int)] S k := by
  refine w48 _ ?_
  unfold c48
  refine evC_of (s57 h2 ⟨_, rfl, ?_⟩)
  obtain ⟨e1, e2⟩ := Lib.numDigits_eq u h1 h2
  have hbl : Lib.bitLen u ≤ 64 := Lib.bitLen_le u 64 (Nat.le_refl _) h2
  refine evC_of (w56 _ ?_)
  unfold c56
  refine ⟨rfl, _, rfl, ?_⟩
  have hl : ∀ z : Int, z = 262144 → Int.fdiv (wrapI .i64 (((Lib.bitLen u : Nat) : Int) * 78913)) z = ((Lib.l10 (Lib.bitLen u) : Nat) : Int) := by
    rintro z rfl
    rw [wrap_i64 (by omega) (by omega)]
    unfold Lib.l10
    rw [Int.fdiv_eq_ediv_of_nonneg _ (by omega)]
    omega
  rw [hl _ (by decide)]
  generalize Lib.l10 (Lib.bitLen u) = q at e1 e2
  obtain ⟨more, ro, fz, hat⟩ := g.pow
  refine ⟨2, 0, rfl, by omega, by omega, ?_⟩
  refine evV_of (ty := tU) (((10 ^ q : Nat) : Int)) ((load_one hat (by kernel_rfl)).trans (pow_get (by omega))) ?_
  refine evC_of (w58 _ ?_)
  unfold c58
  rw [leI_eq]
  refine ifW_dec (fun h => ?_) fun h => ?_
  · refine ⟨_, rfl, ?_⟩
    rw [if_pos (by omega)] at e1
    rw [wrap_i64 (by omega) (by omega), show (q : Int) + 1 = ((Lib.nDigits u : Nat) : Int) by omega]
    exact hk
  · refine ⟨_, rfl, ?_⟩
    rw [if_neg (by omega)] at e1
    rw [wrap_i64 (by omega) (by omega), show (q : Int) + 0 = ((Lib.nDigits u : Nat) : Int) by omega]
    exact hk
theorem sliceD_arr {E : Env} {S : St} {t e sz n : Nat} {b o lo hi : Nat} (ht : E.und t = some (.array n e)) (he : E.size e = some sz) {vl vh : Option Value} (hl : optNat (some 0) vl = some lo) (hh : optNat (some n) vh = some hi) (h1 : lo ≤ hi) (h2 : hi ≤ n) (h3 : n < inex) (h4 : lo < n) :
    sliceD E S t (.pointer (some ⟨b, o, none⟩)) vl vh none = some (.slice (some ⟨b, o + lo * sz, none⟩) (hi - lo) (n - lo)) := by
  have hne : Nat.beq n lo = false := Bool.eq_false_iff.2 fun hh => by have := Nat.eq_of_beq_eq_true hh; omega
  have hm : optNat (some n) (none : Option Value) = some n := rfl
  simp only [sliceD, ht, he, Option.bind_some, hm, Option.isNone_none, cond_true, hh, hl, Nat.ble_eq_true_of_le (Nat.le_refl n), Nat.ble_eq_true_of_le h2, Nat.ble_eq_true_of_le h1, Nat.blt_eq.mpr h3, Bool.and_self, hne, cond_false]
abbrev z24 : List Value := List.replicate 24 (.int .u8 0)
theorem z24_isB (o n : Nat) : ∀ v ∈ (z24.drop o).take n, isB v = true := by
  intro v hv
  have := List.mem_of_mem_drop (List.mem_of_mem_take hv)
  rw [List.eq_of_mem_replicate this]
  rfl
theorem nD20 {u : Nat} (h1 : 1 ≤ u) (h2 : u < 18446744073709551616) : Lib.nDigits u ≤ 20 := by
  have := Lib.numDigits_eq u h1 h2; split at this <;> omega
theorem s37 {S : St} {u : Nat} {k : Value → St → Prop} (g : Gl S) (hu : u < 18446744073709551616) (hk : ∀ S', Ext S S' → k (strV (dec u)) S') : WC E0 37 [.int .u64 (u : Int), .int .i64 10] S k := by
  refine w37 _ _ ?_
  unfold c37
  refine ifW_pos rfl ?_
  refine ifW_dec (fun h => ?_) fun h => ?_
  · rw [wrap_i64 (by omega) (by omega)]
    exact evC_of (s47 (by omega) ⟨_, rfl, hk S (Mod.refl _ _)⟩)
  have hL := Hld.start noB S
  refine hL.new fun b1 S2 hL _ _ => ?_
  have h20 := nD20 (u := u) (by omega) hu
  refine evC_of (s48 (g.ext hL.mod) (by omega) hu ⟨_, rfl, ?_⟩)
  have hpos := Lib.nDigits_pos u
  have hdl := Lib.decDigits_length u
  have hsl : ∀ S', sliceD E0 S' 101 (.pointer (some ⟨b1, 0, none⟩)) none (some (.int .i64 ((Lib.nDigits u : Nat) : Int))) none = some (.slice (some ⟨b1, 0, none⟩) (Lib.nDigits u) 24) := fun S' => by
    have := sliceD_arr (S := S') (b := b1) (o := 0) (lo := 0) (hi := Lib.nDigits u) (vl := none) (vh := some (.int .i64 ((Lib.nDigits u : Nat) : Int))) und101 size5 rfl (natOf_int (k := .i64)) (by omega) (by omega) (by decide) (by omega)
    simpa using this
  have hat : At S2 b1 (.cells z24 none false none) := hL.at 0 rfl
  refine evV_of (ty := tS) ⟨some ⟨b1, 0, none⟩, Lib.nDigits u, 24⟩ (hsl S2) ?_
  refine evC_of (s49 (n := Lib.nDigits u) hat (by omega) (by simp; omega) (z24_isB _ _) (Lib.lt_pow_nDigits u) hu (by omega) ⟨PUnit.unit, rfl, ?_⟩)
  have hL2 := hL.set 0 rfl (upd_mod (S := S2) (b := b1)) (upd_at (o' := .cells (z24.take 0 ++ (digVs u (Lib.nDigits u) ++ z24.drop (0 + Lib.nDigits u))) none false none) hat)
  have hat2 : At _ b1 (.cells (z24.take 0 ++ (digVs u (Lib.nDigits u) ++ z24.drop (0 + Lib.nDigits u))) none false none) := hL2.at 0 rfl
  generalize S2.upd b1 _ = S3 at hL2 hat2 ⊢
  refine evV_of (ty := tS) ⟨some ⟨b1, 0, none⟩, Lib.nDigits u, 24⟩ (hsl S3) ?_
  refine ⟨dec u, S3, ?_, hk S3 hL2.mod⟩
  have hld : S3.loadN b1 0 (dec u).length = some ((dec u).map byV) := loadN_of hat2 (by
    rw [digVs_dec]
    simp only [List.take_zero, List.nil_append, List.drop_zero]
    rw [List.take_append_of_le_length (by simp)]
    rw [List.take_of_length_le (by simp)]) (by simp)
  have := conv_str (cap := 24) hld (dec_ne u)
  rw [show (dec u).length = Lib.nDigits u from hdl] at this
  exact this
theorem s23 {S : St} {u : Int} {k : Value → St → Prop} (g : Gl S) (h0 : 0 ≤ u) (hu : u < 18446744073709551616) (hk : ∀ S', Ext S S' → k (strV (dec u.toNat)) S') : WC E0 23 [.int .u64 u, .int .i64 10] S k := by
  refine w23 _ _ ?_
  unfold c23
  have := s37 (S := S) (u := u.toNat) (k := fun v S' => ∃ x, v = tT.enc x ∧ k (strV x) S') g (by omega) fun S' e => ⟨_, rfl, hk S' e⟩
  rw [show ((u.toNat : Nat) : Int) = u by omega] at this
  exact evC_of this
theorem und48 : E0.und 48 = some (.slice 9) := by kernel_rfl
theorem inf9 : E0.inf 9 = some DEnv.i9 := by kernel_rfl
theorem bytes9 : DEnv.i9.bytes = 16 := by kernel_rfl
theorem size9 : E0.size 9 = some 1 := by kernel_rfl
abbrev strC (l : List UInt8) : List Value := [strV l]
theorem cat_eq {a b : List UInt8} (h : a.length + b.length ≤ 9223372036854775807) : catD ⟨a.toArray⟩ ⟨b.toArray⟩ = some (strV (a ++ b)) := by
  have h1 : decide (((a.length + b.length : Nat) : Int) ≤ 9223372036854775807) = true := decide_eq_true (by omega)
  show cond (decide (((a.length + b.length : Nat) : Int) ≤ 9223372036854775807)) (some (strV (a ++ b))) none = _
  rw [h1]; rfl

/-! ### Digits -/
def dHead (m : Nat) : List UInt8 := if m < 10 then [] else dec (m / 10)
theorem dec_head (m : Nat) : dec m = dHead m ++ [UInt8.ofNat (48 + m % 10)] := by
  unfold dHead
  by_cases h : m < 10
  · rw [if_pos h, List.nil_append]
    show Lib.decDigits m = _
    rw [Lib.decDigits_one h, Nat.mod_eq_of_lt h]
  · rw [if_neg h]
    show Lib.decDigits m = _
    rw [Lib.decDigits, dif_neg h]
theorem dig_wrap (m : Nat) (hm : m < 18446744073709551616) : Value.int .u8 (wrapI .u8 (wrapI .u64 (48 + Int.tmod (m : Int) 10))) = byV (UInt8.ofNat (48 + m % 10)) := by
  have h1 : Int.tmod (m : Int) 10 = ((m % 10 : Nat) : Int) := by rw [Int.tmod_eq_emod_of_nonneg (by omega)]; omega
  have h2 : m % 10 < 10 := Nat.mod_lt _ (by omega)
  rw [h1, wrap_u64 (by omega) (by omega), wrap_u8 (by omega) (by omega), byV, ofNat_toNat (by omega)]
  congr 1
theorem one_str {S : St} {b : Nat} {c : UInt8} (h : At S b (.cells [byV c] none false none)) : convertD E0 S 36 9 (.slice (some ⟨b, 0, none⟩) 1 1) = some (strV [c], S) :=
  conv_str (l := [c]) (cap := 1) (loadN_of h rfl rfl) (by simp)
theorem flat_str (l : List (List UInt8)) : l.flatMap strC = l.map strV := by induction l with | nil => rfl | cons x l ih => simp [List.flatMap_cons, ih]
theorem lt_inex : (4000000000 : Nat) < inex := by decide
/-- A string is appended. -/
theorem app_str {S : St} {s : Sl} {l : List (List UInt8)} {b : Nat} {w : List UInt8} (h : Ow strC 1 S s l) (hat : At S b (.cells [strV w] none false none)) (hl : l.length ≤ 100000000)
    {k : Sl → St → Prop} (hk : ∀ s' S', Ow strC 1 S' s' (l ++ [w]) → Mod (slO s) S S' → (∀ c, slO s' c → slO s c ∨ S.next ≤ c) → k s' S') :
    evP tS (appendD E0 S 48 48 (.slice s.a s.len s.cap) (.slice (some ⟨b, 0, none⟩) 1 1)) k :=
  h.append (E := E0) (f := strC) (sz := 1) (fun _ => rfl) (by omega) und48 inf9 und48 (by kernel_rfl) (by kernel_rfl) (by kernel_rfl : DEnv.i9.zero = some (.string ⟨#[]⟩)) rfl (vs := [w]) rfl (firstD_box (f := strC) (sz := 1) (fun _ => rfl) (by omega) hat) rfl
    (show (l.length + 1) * DEnv.i9.bytes ≤ 17592186044416 by rw [bytes9]; omega) (show l.length + 1 ≤ 17592186044416 by omega) (by simp) (show (l.length + 1) * 1 < inex by have h := lt_inex; omega) hk
end
end Go.Proofs.YtgdijpcopdgapaaDoor

/- Tally: bytes and their complements. -/
namespace Go.Proofs.YtgdijpcopdgapaaDoor
open Go Go.Proofs.YtgdijpcopdgapaaDoor.D
set_option linter.unusedVariables false
set_option linter.unusedSimpArgs false
noncomputable section

theorem inf5 : E0.inf 5 = some DEnv.i5 := by kernel_rfl
theorem agg5 : aggD DEnv.i5.und = false := by kernel_rfl
theorem bytes5 : DEnv.i5.bytes = 1 := by kernel_rfl
abbrev byC (c : UInt8) : List Value := [byV c]
abbrev Bs (S : St) (s : Sl) (l : List UInt8) : Prop := SlOf byC 1 S s l
/-- A byte's complement. -/
def cp (c : UInt8) : UInt8 := UInt8.ofNat (255 - c.toNat)
theorem cp_toNat (c : UInt8) : (cp c).toNat = 255 - c.toNat := ofNat_toNat (by omega)
theorem cp_cp (c : UInt8) : cp (cp c) = c := by
  apply UInt8.toNat_inj.1
  rw [cp_toNat, cp_toNat]
  have := c.toNat_lt
  omega
theorem cp_inj {a b : UInt8} (h : cp a = cp b) : a = b := by rw [← cp_cp a, h, cp_cp]
theorem cp_bits (c : UInt8) : IntKind.wrap .u8 (((BitVec.toNat (BitVec.ofInt 8 (if false = true then -1 else if false = true then 2 ^ 7 - 1 else 2 ^ 8 - 1) ^^^ BitVec.ofInt 8 (c.toNat : Int)) : Nat) : Int)) = ((cp c).toNat : Int) := by
  have key : ∀ n : Fin 256, IntKind.wrap .u8 (((BitVec.toNat (BitVec.ofInt 8 (if false = true then -1 else if false = true then 2 ^ 7 - 1 else 2 ^ 8 - 1) ^^^ BitVec.ofInt 8 (n.val : Int)) : Nat) : Int)) = ((255 - n.val : Nat) : Int) := by decide +kernel
  rw [cp_toNat]
  exact key ⟨c.toNat, c.toNat_lt⟩
def dbl : List UInt8 → List UInt8
  | [] => []
  | a :: r => a :: cp a :: dbl r
theorem dbl_len : ∀ l : List UInt8, (dbl l).length = 2 * l.length
  | [] => rfl
  | a :: r => by simp [dbl, dbl_len r]; omega
theorem dbl_app : ∀ a b : List UInt8, dbl (a ++ b) = dbl a ++ dbl b
  | [], b => rfl
  | x :: r, b => by simp [dbl, dbl_app r b]
theorem dbl_at : ∀ (l : List UInt8) (i : Nat) (h : i < l.length), (dbl l)[2 * i]? = some l[i] ∧ (dbl l)[2 * i + 1]? = some (cp l[i])
  | a :: r, 0, _ => ⟨rfl, rfl⟩
  | a :: r, i + 1, h => by
    have := dbl_at r i (by simpa using h)
    rw [show 2 * (i + 1) = 2 * i + 1 + 1 from by omega]
    simpa [dbl] using this
theorem dbl_inj : ∀ {a b : List UInt8}, dbl a = dbl b → a = b
  | [], [], _ => rfl
  | [], y :: s, h => by simp [dbl] at h
  | x :: r, [], h => by simp [dbl] at h
  | x :: r, y :: s, h => by
    simp only [dbl, List.cons.injEq] at h
    rw [h.1, dbl_inj h.2.2]
theorem s28 {n a b : Int} {S : St} {k : Value → St → Prop} (hk : k (.bool (decide (a ≤ n ∧ n ≤ b))) S) : WC E0 28 [.int .i64 n, .int .i64 a, .int .i64 b] S k := by
  refine w28 n a b ?_
  unfold c28
  rw [leI_eq n b]
  refine ifW_dec (fun h => ?_) fun h => ?_
  · rw [show decide (a ≤ n ∧ n ≤ b) = decide (n ≤ b) from by simp [h]] at hk; exact hk
  · rw [show decide (a ≤ n ∧ n ≤ b) = false from by simp [h]] at hk; exact hk
theorem s51 {y : Value} {c1 c2 : Nat} {S : St} {b : Sl} {l : List UInt8} (hlc : b.len ≤ b.cap) (hci : b.cap < inex) (hlen : l.length ≤ 4000) (I : Nat → St → Prop) {Q : St → Prop}
    (hm : ∀ i S', I i S' → At S' c1 (.cells [.slice b.a b.len b.cap] none false none) ∧ At S' c2 (.cells [.int .i64 2] none false none) ∧ Bs S' b l) (h0 : I 0 S)
    (hstep : ∀ i S' s', 2 * i < l.length → I i S' → (∀ S'', Bs S'' b l → Bs S'' s' ((l.drop (2 * i)).take (min 2 (l.length - 2 * i)))) → evY E0 tB y [.slice s'.a s'.len s'.cap] S' fun t S'' => (t = true → I (i + 1) S'') ∧ (t = false → Q S''))
    (hend : ∀ i S', l.length ≤ 2 * i → I i S' → Q S') : WC E0 51 [y, .pointer (some ⟨c1, 0, none⟩), .pointer (some ⟨c2, 0, none⟩)] S fun _ S' => Q S' := by
  refine w51 y c1 c2 ?_
  unfold c51
  refine loopW_ind (fun q (x : Int) S' => ∃ i : Nat, x = ((2 * i : Nat) : Int) ∧ 2 * i ≤ l.length + 1 ∧ q = l.length + 2 - 2 * i ∧ I i S') (m := l.length + 2) ⟨0, rfl, by omega, rfl, h0⟩ ?_
  rintro P q x S1 ⟨i, rfl, h1, rfl, hi⟩ hP
  obtain ⟨a1, a2, ab⟩ := hm i S1 hi
  have hbl := ab.len
  refine evV_of b (load_one a1 (by kernel_rfl)) ?_
  refine ifW_dec (fun hlt => ?_) fun hlt => ?_
  · have hlt' : 2 * i < l.length := by omega
    obtain ⟨bb, o, cs, more, ro, fz, ea, eat, _⟩ := ab.mem (by rintro rfl; simp at hlt')
    refine evV_of 2 (load_one a2 (by kernel_rfl)) ?_
    refine evV_of b (load_one a1 (by kernel_rfl)) ?_
    refine evV_of ⟨some ⟨bb, cond (Nat.beq b.cap (2 * i)) o (o + 2 * i * 1), none⟩, b.len - 2 * i, b.cap - 2 * i⟩ (sliceD_some (lo := 2 * i) (hi := b.len) (mx := b.cap) und36 size5 ea hci (natOf_int (k := .i64)) rfl rfl (by omega) hlc (Nat.le_refl _)) ?_
    refine evV_of b (load_one a1 (by kernel_rfl)) ?_
    dsimp only
    rw [minmax_min]
    have e : wrapI .i64 (((2 * i : Nat) : Int) + min 2 ((b.len - 2 * i : Nat) : Int)) = ((2 * i + min 2 (l.length - 2 * i) : Nat) : Int) := by
      rw [wrap_i64 (by omega) (by omega)]; omega
    rw [e]
    generalize hmx : 2 * i + min 2 (l.length - 2 * i) = mx
    have hd : min 2 (l.length - 2 * i) = mx - 2 * i := by omega
    refine evV_of ⟨some ⟨bb, cond (Nat.beq mx (2 * i)) o (o + 2 * i * 1), none⟩, mx - 2 * i, mx - 2 * i⟩ (sliceD_some (lo := 2 * i) (hi := mx) (mx := mx) und36 size5 ea hci (natOf_int (k := .i64)) (natOf_int (k := .i64)) (natOf_int (k := .i64)) (by omega) (Nat.le_refl _) (by omega)) ?_
    have hs := fun S'' (ab : Bs S'' b l) => ab.part (sz := 1) (fun _ => rfl) (lo := 2 * i) (hi := mx) (c := mx - 2 * i) (o' := cond (Nat.beq mx (2 * i)) o (o + 2 * i * 1)) ea (by omega) (by omega) (fun hne => by rw [PM.beq_f hne]; rfl)
    rw [← hd] at hs ⊢
    refine WV.mono (hstep i S1 _ hlt' hi hs) ?_
    rintro v S2 ⟨t, rfl, ht1, ht2⟩
    refine ⟨t, rfl, ifW_of (fun h => ht2 (by simpa using h)) fun h => ?_⟩
    have hi2 := ht1 (by simpa using h)
    obtain ⟨a1, a2, ab⟩ := hm (i + 1) S2 hi2
    refine evV_of 2 (load_one a2 (by kernel_rfl)) ?_
    have e : wrapI .i64 (((2 * i : Nat) : Int) + 2) = ((2 * (i + 1) : Nat) : Int) := by rw [wrap_i64 (by omega) (by omega)]; omega
    rw [e]
    exact hP _ _ _ (by omega) ⟨i + 1, rfl, by omega, rfl, hi2⟩
  · exact hend i S1 (by omega) hi
end
end Go.Proofs.YtgdijpcopdgapaaDoor

/- Tally: bytes that grow. -/
namespace Go.Proofs.YtgdijpcopdgapaaDoor
open Go Go.Proofs.YtgdijpcopdgapaaDoor.D
set_option linter.unusedVariables false
set_option linter.unusedSimpArgs false
noncomputable section

theorem siz5 : DEnv.i5.size = 1 := by kernel_rfl
theorem zer5 : DEnv.i5.zero = some (.int .u8 0) := by kernel_rfl
theorem tag5 : tagA E0 5 1 = 5 + TB := by kernel_rfl
theorem flat_by (l : List UInt8) : l.flatMap byC = l.map byV := by induction l with | nil => rfl | cons x l ih => simp [List.flatMap_cons, ih]
theorem all_by (v : List UInt8) : (v.map byV).all St.one = true := by
  rw [List.all_eq_true]
  intro x hx
  obtain ⟨c, _, rfl⟩ := List.mem_map.1 hx
  rfl
/-- Bytes that were appended one behind the other. -/
def GB (S : St) (s : Sl) (l : List UInt8) : Prop :=
  (l = [] ∧ s = ⟨none, 0, 0⟩) ∨ ∃ b mk, (mk = 1 ∨ mk = 5 + TB) ∧ s = ⟨some ⟨b, 0, none⟩, l.length, inex⟩ ∧ At S b (.cells (l.map byV) (some mk) false none)
theorem GB.len {S : St} {s : Sl} {l : List UInt8} (h : GB S s l) : s.len = l.length := by
  rcases h with ⟨rfl, rfl⟩ | ⟨b, mk, _, rfl, _⟩ <;> rfl
theorem GB.of {S : St} {s : Sl} {l : List UInt8} (h : GB S s l) : Bs S s l := by
  rcases h with ⟨rfl, rfl⟩ | ⟨b, mk, _, rfl, hat⟩
  · exact ⟨rfl, fun h => (h rfl).elim⟩
  · refine ⟨rfl, fun _ => ⟨b, 0, _, _, _, _, rfl, hat, ?_⟩⟩
    rw [List.drop_zero, List.take_of_length_le (by simp), flat_by]
theorem GB.lt {S : St} {s : Sl} {l : List UInt8} (h : GB S s l) {c : Nat} (hc : slO s c) : c < S.next := by
  rcases h with ⟨rfl, rfl⟩ | ⟨b, mk, _, rfl, hat⟩
  · obtain ⟨o, hc⟩ := hc; cases hc
  · obtain ⟨o, hc⟩ := hc; cases hc; exact hat.lt
theorem GB.frm {s : Sl} {l : List UInt8} : Frm (slO s) (fun S => GB S s l) := by
  intro F S S' m hF h
  rcases h with ⟨rfl, rfl⟩ | ⟨b, mk, hm, rfl, hat⟩
  · exact .inl ⟨rfl, rfl⟩
  · exact .inr ⟨b, mk, hm, rfl, m.at hat (hF b ⟨0, rfl⟩)⟩
theorem GB.nil {S : St} : GB S ⟨none, 0, 0⟩ [] := .inl ⟨rfl, rfl⟩
theorem GB.append {S : St} {s : Sl} {l : List UInt8} (h : GB S s l) {xt : TypeId} {xd : TypeDesc} {x : Value} {v : List UInt8} (hxt : E0.und xt = some xd) (ha : apK xd = true) (hn : lenOfD x = some v.length) (hx : firstD S 1 v.length x = some (v.map byV)) (hv : v ≠ [])
    (hl : l.length + v.length ≤ 1000000000) {k : Sl → St → Prop} (hk : ∀ s' S', GB S' s' (l ++ v) → Mod (slO s) S S' → (∀ c, slO s' c → slO s c ∨ S.next ≤ c) → k s' S') : evP tS (appendD E0 S 36 xt (.slice s.a s.len s.cap) x) k := by
  have hv0 : ¬ v.length = 0 := fun hh => hv (List.length_eq_zero_iff.1 hh)
  have g0 : Nat.beq v.length 0 = false := Bool.eq_false_iff.2 fun hh => hv0 (Nat.eq_of_beq_eq_true hh)
  have g1 : Nat.beq (cellsOf (.int .u8 0)).length 1 = true := rfl
  have g2 : Nat.blt 0 1 = true := rfl
  have g3 : Nat.beq (v.map byV).length (v.length * 1) = true := by rw [List.length_map, Nat.mul_one, Nat.beq_refl]
  have g6 : Nat.blt 1 TB = true := by decide
  have g7 : Nat.blt 5 TB = true := by decide
  rcases h with ⟨rfl, rfl⟩ | ⟨b, mk, hm, rfl, hat⟩
  · have g4 : Nat.ble ((0 + v.length) * 1) 17592186044416 = true := Nat.ble_eq_true_of_le (by omega)
    have g5 : Nat.ble (0 + v.length) 17592186044416 = true := Nat.ble_eq_true_of_le (by omega)
    refine ⟨⟨some ⟨S.next, 0, none⟩, v.length, inex⟩, (S.alloc (.cells (v.map byV) (some (5 + TB)) false none)).2, ?_, hk _ _ ?_ (alloc_ext.mono fun _ h => h.elim) fun c hc => ?_⟩
    · simp only [appendD, und36, inf5, siz5, bytes5, zer5, tag5, hxt, ha, cond_true, Option.bind_some, hn, hx, g0, g1, g2, g3, g4, g5, g6, g7, Bool.and_true, cond_false]
      rfl
    · exact .inr ⟨S.next, 5 + TB, .inr rfl, by rw [List.nil_append], by rw [List.nil_append]; exact alloc_at⟩
    · obtain ⟨o, hc⟩ := hc; cases hc; exact .inr (Nat.le_refl _)
  · have g4 : Nat.ble ((l.length + v.length) * 1) 17592186044416 = true := Nat.ble_eq_true_of_le (by omega)
    have g5 : Nat.ble (l.length + v.length) 17592186044416 = true := Nat.ble_eq_true_of_le (by omega)
    have g8 : (Nat.beq mk 1 || Nat.beq mk (5 + TB) && Nat.beq 1 1) = true := by rcases hm with rfl | rfl <;> decide
    have g9 : Nat.ble (0 + (l.length + v.length) * 1) (l.map byV).length = false := Bool.eq_false_iff.2 fun hh => by have := Nat.le_of_ble_eq_true hh; simp at this; omega
    have g10 : Nat.ble (0 + l.length * 1) (l.map byV).length = true := Nat.ble_eq_true_of_le (by simp)
    have g11 : ((l.map byV).drop 0).take (l.length * 1) = l.map byV := by rw [List.drop_zero, List.take_of_length_le (by simp)]
    have g12 : Nat.beq inex inex = true := Nat.beq_refl _
    have g13 : Nat.beq 0 0 = true := rfl
    have g14 : l.map byV ++ v.map byV = (l ++ v).map byV := by rw [List.map_append]
    refine ⟨⟨some ⟨S.next, 0, none⟩, l.length + v.length, inex⟩, ((S.upd b .dead).alloc (.cells ((l ++ v).map byV) (some mk) false none)).2, ?_, hk _ _ ?_ ?_ fun c hc => ?_⟩
    · simp only [appendD, und36, inf5, siz5, bytes5, zer5, tag5, hxt, ha, cond_true, Option.bind_some, hn, hx, g0, g1, g2, g3, g4, g5, g6, g7, Bool.and_true, cond_false, g12, hat.get, g8, g9, g10, g11, g13, Bool.not_false, all_by, St.fzOk, Option.map_none, g14]
      rfl
    · exact .inr ⟨S.next, mk, hm, by rw [List.length_append], alloc_at⟩
    · exact ((upd_mod (S := S) (b := b) (o := .dead)).mono fun c h _ => h ▸ ⟨0, rfl⟩).tr alloc_ext
    · obtain ⟨o, hc⟩ := hc; cases hc; exact .inr (Nat.le_refl _)
theorem first_box {S : St} {b : Nat} {c : UInt8} {more : Option Nat} {ro : Bool} {fz : Option (Nat × Nat)} (h : At S b (.cells [byV c] more ro fz)) : firstD S 1 [c].length (.slice (some ⟨b, 0, none⟩) 1 1) = some ([c].map byV) := firstD_box (f := byC) (sz := 1) (fun _ => rfl) (by omega) h
/-- A part of bytes that grew. -/
theorem slice_by {S : St} {b mk o len lo hi : Nat} {l : List UInt8} (hm : mk = 1 ∨ mk = 5 + TB) (hat : At S b (.cells (l.map byV) (some mk) false none)) (hlen : len ≤ l.length) (hl : l.length < 1000000000) {vl vh : Option Value}
    (h1 : optNat (some 0) vl = some lo) (h2 : optNat (some len) vh = some hi) (h3 : lo ≤ hi) (h4 : hi ≤ len) :
    sliceD E0 S 36 (.slice (some ⟨b, o, none⟩) len inex) vl vh none = some (.slice (some ⟨b, o + lo * 1, none⟩) (hi - lo) inex) := by
  have hT : szT mk = 1 := by rcases hm with rfl | rfl <;> decide
  have hmo : moreIs S b 1 = true := by simp only [moreIs, hat.get, hT, Nat.beq_refl]
  have hk : kcapD S 1 (some ⟨b, o, none⟩) len inex = Nat.max len (roomD S b o 1) := by
    unfold kcapD
    rw [Nat.beq_refl]; rfl
  have hr : roomD S b o 1 = l.length - o := by
    have hb : Nat.blt 0 1 = true := rfl
    simp only [roomD, hat.get, hT, Nat.beq_refl, hb, Bool.and_true, cond_true, List.length_map, Nat.div_one]
  have hx : optNat (some (Nat.max len (l.length - o))) none = some (Nat.max len (l.length - o)) := rfl
  have hlt : Nat.max len (l.length - o) < inex := Nat.lt_trans (Nat.max_lt.2 ⟨by omega, by omega⟩ : Nat.max len (l.length - o) < 4000000000) lt_inex
  have hle : hi ≤ Nat.max len (l.length - o) := Nat.le_trans h4 (Nat.le_max_left _ _)
  simp only [sliceD, und36, size5, Option.bind_some, hk, hr, hx, Option.isNone_none, cond_true, h2, h1, Nat.ble_eq_true_of_le (Nat.le_refl _), Nat.ble_eq_true_of_le hle, Nat.ble_eq_true_of_le h3, Nat.blt_eq.mpr hlt, Bool.and_true, Nat.beq_refl, hmo]
end
end Go.Proofs.YtgdijpcopdgapaaDoor

/- Tally: bytes ahead of their complements. -/
namespace Go.Proofs.YtgdijpcopdgapaaDoor
open Go Go.Proofs.YtgdijpcopdgapaaDoor.D
set_option linter.unusedVariables false
set_option linter.unusedSimpArgs false
noncomputable section

abbrev boxesW (b5 b4 cN cS b3 b2 b1 : Nat) (st : DObj) (b r s : Sl) (t : Bool) : List (Nat × DObj) :=
  [(b5, st), (b4, .deferred), (cN, .cells [.int .i64 2] none false none), (cS, .cells [.slice b.a b.len b.cap] none false none), (b3, .cells [.slice s.a s.len s.cap] none false none),
   (b2, .cells [.bool t] none false none), (b1, .cells [.slice r.a r.len r.cap] none false none)]
theorem dbl_odd {l : List UInt8} (h : ¬ Int.tmod (l.length : Int) 2 = 0) (P : List UInt8) : l ≠ dbl P := by
  rintro rfl
  rw [dbl_len, Int.tmod_eq_emod_of_nonneg (by omega)] at h
  omega
theorem take_two {l : List UInt8} {i : Nat} (h : 2 * i + 1 < l.length) : l.take (2 * (i + 1)) = l.take (2 * i) ++ [l[2 * i], l[2 * i + 1]] := by
  rw [show 2 * (i + 1) = 2 * i + 1 + 1 from by omega, List.take_succ_eq_append_getElem h, List.take_succ_eq_append_getElem (by omega), List.append_assoc]
  rfl
theorem pair_at {l : List UInt8} {i : Nat} (h : 2 * i + 1 < l.length) : (l.drop (2 * i)).take (min 2 (l.length - 2 * i)) = [l[2 * i], l[2 * i + 1]] := by
  rw [show min 2 (l.length - 2 * i) = 2 from by omega, List.drop_eq_getElem_cons (by omega), List.drop_eq_getElem_cons (by omega)]
  rfl
set_option maxHeartbeats 1000000 in
theorem s26 {b : Sl} {l : List UInt8} {S : St} {k : Value → St → Prop} (hb : Bs S b l) (hlc : b.len ≤ b.cap) (hci : b.cap < inex) (hlen : l.length ≤ 4000)
    (h1 : ∀ P s S', l = dbl P → Ext S S' → GB S' s P → (∀ c, slO s c → S.next ≤ c) → k (.tuple #[.slice s.a s.len s.cap, .bool true]) S')
    (h2 : (∀ P, l ≠ dbl P) → ∀ S', Ext S S' → k (.tuple #[.slice none 0 0, .bool false]) S') : WC E0 26 [.slice b.a b.len b.cap] S k := by
  refine w26 b ?_
  unfold c26
  have hbl := hb.len
  have hL := Cx.start (S := S) noB (GB.nil (S := S)) GB.frm (fun c hc => GB.lt (GB.nil (S := S)) hc)
  refine hL.new fun b1 S1 hL _ _ => ?_
  refine hL.new fun b2 S2 hL _ _ => ⟨rfl, ?_⟩
  refine ifW_ndec (fun h => ?_) fun hev => ?_
  · refine hL.st 1 1 rfl (by kernel_rfl) rfl (Nat.le_of_ble_eq_true rfl) rfl rfl fun S3 hL _ => ?_
    refine hL.st 0 1 rfl (by kernel_rfl) rfl (Nat.le_of_ble_eq_true rfl) rfl rfl fun S4 hL _ => ?_
    refine hL.ld 1 rfl (by kernel_rfl) (⟨none, 0, 0⟩ : Sl) rfl ?_
    refine hL.ld 0 rfl (by kernel_rfl) false rfl ?_
    rw [hbl] at h
    exact h2 (dbl_odd h) S4 hL.mod
  rw [hbl, Int.tmod_eq_emod_of_nonneg (by omega)] at hev
  refine hL.new fun b3 S3 hL _ _ => ?_
  refine evC_of (w38 b 2 ?_)
  unfold c38
  refine hL.new fun cS S4 hL _ _ => ?_
  refine hL.new fun cN S5 hL _ _ => ?_
  refine hL.ld 0 rfl (by kernel_rfl) (2 : Int) rfl ?_
  refine ifW_neg (by omega) ⟨_, rfl, ?_⟩
  refine hL.new fun b4 S6 hL _ _ => ?_
  rintro b5 S7 L rfl rfl hLL hR
  have hL := hL.record (o := L .ready none)
  generalize (S6.alloc (L .ready none)).2 = S7 at hL ⊢
  generalize hb5 : S6.next = b5 at hL hR ⊢
  refine WG_of rfl (s51 (b := b) (l := l) hlc hci hlen (fun i S' => ∃ s acc, Cx noB S S' (boxesW b5 b4 cN cS b3 b2 b1 (L .ready none) b ⟨none, 0, 0⟩ s false) (slO s) (fun S => GB S s acc) ∧ (∀ c, slO s c → S.next ≤ c) ∧ acc.length = i ∧ l.take (2 * i) = dbl acc ∧ 2 * i ≤ l.length) ?_ ?_ ?_ ?_)
  · rintro i S' ⟨s, acc, hL, _⟩
    exact ⟨hL.at 3 rfl, hL.at 2 rfl, Ext.slOf hL.mod hb⟩
  · exact ⟨⟨none, 0, 0⟩, [], hL, (fun c hc => by obtain ⟨o, hc⟩ := hc; cases hc), rfl, (by simp [dbl]), (by omega)⟩
  · rintro i S' s1 hi ⟨s, acc, hL, hs0, hal, hacc, hle⟩ hs
    refine hR s1 S' _ ?_
    refine hL.has 0 rfl ?_
    refine hL.has 0 rfl ?_
    refine hL.upd 0 rfl fun S8 hL _ => ?_
    have h2i : 2 * i + 1 < l.length := by omega
    have hs8 := hs S8 (Ext.slOf hL.mod hb)
    rw [pair_at h2i] at hs8
    have htk := take_two h2i
    have hpd : ∀ P, l = dbl P → l[2 * i] = cp l[2 * i + 1] := fun P hP => by
      have hPl : i < P.length := by have := dbl_len P; rw [← hP] at this; omega
      have := dbl_at P i hPl
      rw [← hP, List.getElem?_eq_getElem (by omega), List.getElem?_eq_getElem h2i] at this
      have e1 := Option.some.inj this.1
      have e2 := Option.some.inj this.2
      rw [e1, e2, cp_cp]
    generalize l[2 * i] = x at hs8 htk hpd
    generalize l[2 * i + 1] = y at hs8 htk hpd
    refine hs8.get1n (n := 0) (g := byV) inf5 agg5 (by simp) fun b6 o6 hld _ => evV_of _ (hld _ rfl) ?_
    refine hs8.get1n (n := 1) (g := byV) inf5 agg5 (by simp) fun b7 o7 hld _ => evV_of _ (hld _ rfl) ?_
    simp only [List.getElem_cons_zero, List.getElem_cons_succ]
    rw [cp_bits y]
    refine ifW_ndec (fun hne => ?_) fun heq => ?_
    · refine hL.st 6 1 rfl (by kernel_rfl) rfl (Nat.le_of_ble_eq_true rfl) rfl rfl fun S9 hL _ => ?_
      refine hL.st 5 1 rfl (by kernel_rfl) rfl (Nat.le_of_ble_eq_true rfl) rfl rfl fun S10 hL _ => ?_
      refine hL.has 0 rfl ?_
      refine hL.upd 0 rfl fun S11 hL _ => ?_
      refine ⟨(fun h => by cases h), fun _ => ?_⟩
      refine .inr (.inl ?_)
      refine hL.has 0 rfl ?_
      refine hL.upd 0 rfl fun S12 hL _ => ?_
      refine hL.has 1 rfl ?_
      refine hL.upd 1 rfl fun S13 hL _ => ?_
      refine hL.ld 6 rfl (by kernel_rfl) (⟨none, 0, 0⟩ : Sl) rfl ?_
      refine hL.ld 5 rfl (by kernel_rfl) false rfl ?_
      exact h2 (fun P hP => hne (by rw [hpd P hP])) S13 hL.mod
    · have hxy : x = cp y := UInt8.toNat_inj.1 (by omega)
      refine hL.ld 4 rfl (by kernel_rfl) s rfl ?_
      refine hs8.get1n (n := 0) (g := byV) inf5 agg5 (by simp) fun b8 o8 hld _ => evV_of _ (hld _ rfl) ?_
      simp only [List.getElem_cons_zero]
      refine hL.new fun b12 S14 hL _ _ => ?_
      refine hL.ld 5 rfl (by kernel_rfl) s rfl ?_
      refine sameV_of ?_
      have hnx := hL.mod.next
      refine GB.append hL.p (v := [x]) und36 rfl rfl (first_box (hL.at 0 rfl)) (by simp) (by simp; omega) fun s2 S15 g' m hs' => ?_
      have hL := hL.op m (fun _ h => h) (fun c hc hlt => by have := hs0 c hc; omega) g' GB.frm hs' (fun c hc => GB.lt g' hc)
      refine hL.st 5 1 rfl (by kernel_rfl) rfl (Nat.le_of_ble_eq_true rfl) rfl rfl fun S16 hL _ => ?_
      refine hL.has 1 rfl ?_
      refine hL.upd 1 rfl fun S17 hL _ => ?_
      refine ⟨fun _ => ⟨s2, acc ++ [x], hL.tl 1, (fun c hc => (hs' c hc).elim (hs0 c) fun h => by omega), (by simp [hal]), ?_, (by omega)⟩, fun h => by cases h⟩
      rw [htk, hacc, dbl_app]
      simp only [dbl, hxy, cp_cp]
  · rintro i S' hi ⟨s, acc, hL, hs0, hal, hacc, hle⟩
    refine .inl ?_
    refine hL.has 0 rfl ?_
    refine hL.upd 0 rfl fun S8 hL _ => ?_
    refine hL.ld 4 rfl (by kernel_rfl) s rfl ?_
    refine hL.st 6 1 rfl (by kernel_rfl) rfl (Nat.le_of_ble_eq_true rfl) rfl rfl fun S9 hL _ => ?_
    refine hL.st 5 1 rfl (by kernel_rfl) rfl (Nat.le_of_ble_eq_true rfl) rfl rfl fun S10 hL _ => ?_
    refine hL.has 1 rfl ?_
    refine hL.upd 1 rfl fun S11 hL _ => ?_
    refine hL.ld 6 rfl (by kernel_rfl) s rfl ?_
    refine hL.ld 5 rfl (by kernel_rfl) true rfl ?_
    refine h1 acc s S11 ?_ hL.mod hL.p hs0
    rw [← hacc, List.take_of_length_le (by omega)]
end
end Go.Proofs.YtgdijpcopdgapaaDoor
