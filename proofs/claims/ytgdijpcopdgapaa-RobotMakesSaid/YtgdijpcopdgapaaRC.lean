/- Parts of the proof, put together. -/
import Derived.Test.YtgdijpcopdgapaaRB
/- Robots: ledgers out of records, the program's. -/
namespace Go.Proofs.Ytgdijpcopdgapaa
open Go Go.Proofs.Ytgdijpcopdgapaa.D
set_option linter.unusedVariables false
set_option linter.unusedSimpArgs false
noncomputable section

def hol (dt : List UInt8) : Int := if dt.headD 0 = 255 then -1 else ((dt.headD 0).toNat : Int)
def gen5 (dt : List UInt8) : Int := (vl dt.tail : Int)
def fine0 (dt : List UInt8) : Prop := dt.length = 5 ∧ ¬ (hol dt = -1 ∧ gen5 dt = 0)
def isL (home robots cells n : Int) : Prop := 0 ≤ n ∧ n < cells ∧ Int.tmod n robots = home
instance (home robots cells n : Int) : Decidable (isL home robots cells n) := by unfold isL; infer_instance
def seen3 (l : List Rc) (i : Nat) (n : Int) : Prop := ∃ r ∈ l.take i, r.1 = 3 ∧ r.2.1 = n
theorem seen3_succ {l : List Rc} {i : Nat} (h : i < l.length) {n : Int} : seen3 l (i + 1) n ↔ seen3 l i n ∨ (l[i].1 = 3 ∧ l[i].2.1 = n) := by
  unfold seen3
  constructor
  · rintro ⟨r, hr, h1⟩
    rcases (mem_take_succ h).1 hr with hr | rfl
    · exact .inl ⟨r, hr, h1⟩
    · exact .inr h1
  · rintro (⟨r, hr, h1⟩ | h1)
    · exact ⟨r, (mem_take_succ h).2 (.inl hr), h1⟩
    · exact ⟨_, (mem_take_succ h).2 (.inr rfl), h1⟩
def ledAt (home robots cells : Int) (l : List Rc) (i : Nat) (r : Rc) : Prop := fine0 r.2.2.2 ∧ hol r.2.2.2 < robots ∧ isL home robots cells r.2.1 ∧ ¬ seen3 l i r.2.1
def ledOk (home robots cells : Int) (l : List Rc) : Prop := ∀ i (h : i < l.length), l[i].1 = 3 → ledAt home robots cells l i l[i]
abbrev Ent := Int × Int
abbrev entC (e : Ent) : List Value := [.int .i64 e.1, .int .u32 e.2]
theorem s65 {S : St} {k : Value → St → Prop} (hk : ∀ S', Ext S S' → k (sv G131 ((-1, 0) : Ent)) S') : WC E0 65 [] S k := by
  refine w65 ?_
  unfold c65
  have hL := Hld.start noB S
  refine hL.new fun b1 S1 hL _ _ => ?_
  refine hL.st 0 2 rfl (by kernel_rfl) rfl (Nat.le_of_ble_eq_true rfl) rfl rfl fun S2 hL _ => ?_
  refine hL.lda 0 rfl (by kernel_rfl) ((-1, 0) : Ent) rfl ?_
  exact hk _ hL.mod
theorem eqEnt (S : St) (x y : Ent) : eqD E0 S 6 153 (sv G131 x) (sv G131 y) = some (decide (x.1 = y.1) && decide (x.2 = y.2)) := by
  have h1 : eqD E0 S 5 3 (.int .i64 x.1) (.int .i64 y.1) = some (decide (x.1 = y.1)) := (show _ = some (decide (x.1 = y.1)) by kernel_rfl)
  have h2 : eqD E0 S 5 27 (.int .u32 x.2) (.int .u32 y.2) = some (decide (x.2 = y.2)) := (show _ = some (decide (x.2 = y.2)) by kernel_rfl)
  refine (show _ = (eqD E0 S 5 3 (.int .i64 x.1) (.int .i64 y.1)).bind (fun e => cond e ((eqD E0 S 5 27 (.int .u32 x.2) (.int .u32 y.2)).bind fun e => cond e (some true) (some false)) (some false)) by kernel_rfl).trans ?_
  rw [h1, h2]
  cases decide (x.1 = y.1) <;> cases decide (x.2 = y.2) <;> rfl
theorem size5' : E0.size 5 = some 1 := by kernel_rfl
set_option maxHeartbeats 1000000 in
theorem s44 {S : St} {r : Int × Int × Sl} {dt : List UInt8} (hb : Bs S r.2.2 dt) (hc : r.2.2.len ≤ r.2.2.cap ∧ r.2.2.cap < inex) {k : Value → St → Prop}
    (hk : ∀ (e : Ent) t S', Ext S S' → (t = true ↔ fine0 dt) → (fine0 dt → e = (hol dt, gen5 dt)) → k (.tuple #[sv G131 e, .bool t]) S') : WC E0 44 [sv G145 r] S k := by
  obtain ⟨r1, r2, ds⟩ := r
  dsimp only at hb hc
  refine w44 _ ?_
  unfold c44
  have hdl := hb.len
  have hL := Hld.start noB S
  refine hL.new fun b1 S1 hL _ _ => ?_
  refine hL.new fun b2 S2 hL _ _ => ?_
  refine ptrW_of ?_
  refine hL.ld 1 rfl (by kernel_rfl) ds rfl ?_
  refine ifW_ndec (fun h5 => ?_) fun h5 => ?_
  · refine hL.st 0 2 rfl (by kernel_rfl) rfl (Nat.le_of_ble_eq_true rfl) rfl rfl fun S3 hL _ => ?_
    refine hL.lda 0 rfl (by kernel_rfl) ((0, 0) : Ent) rfl ?_
    refine hk (0, 0) false _ hL.mod ⟨(fun h => by cases h), fun h => by have := h.1; omega⟩ fun h => by have := h.1; omega
  have hd5 : dt.length = 5 := by omega
  obtain ⟨c0, tl, rfl⟩ : ∃ c0 tl, dt = c0 :: tl := by
    cases dt with
    | nil => simp at hd5
    | cons a b => exact ⟨a, b, rfl⟩
  have htl : tl.length = 4 := by simpa using hd5
  refine ptrW_of ?_
  refine hL.ld 1 rfl (by kernel_rfl) ds rfl ?_
  refine (Ext.slOf hL.mod hb).get1n (n := 0) (g := byV) inf5 agg5 (by simp) fun _ _ hld _ => evV_of (ty := tU8) _ (hld _ rfl) ?_
  refine hL.new fun b9 S4 hL _ _ => ?_
  have hc0 := c0.toNat_lt
  have hw : wrapI .i64 ((c0.toNat : Nat) : Int) = ((c0.toNat : Nat) : Int) := wrap_i64 (by omega) (by omega)
  refine hL.st 0 2 rfl (by kernel_rfl) rfl (Nat.le_of_ble_eq_true rfl) rfl (show _ = entC ((c0.toNat : Int), 0) from ?_) fun S5 hL _ => ?_
  · show [Value.int .i64 (wrapI .i64 ((c0.toNat : Nat) : Int)), .int .u32 0] = _
    rw [hw]
  refine join_of (fun (_ : PUnit) S' => Hld noB S S' [(b9, .cells (entC (hol (c0 :: tl), 0)) none false none), (b2, .cells [.int .i64 0, .int .u32 0] none false none), (b1, .cells [.int .i64 r1, .int .i64 r2, .slice ds.a ds.len ds.cap] none false none)]) (fun _ S6 hL => ?_) fun k2 hk2 => ?_
  rotate_left
  · refine ptrW_of ?_
    refine hL.ld 2 rfl (by kernel_rfl) ds rfl ?_
    refine (Ext.slOf hL.mod hb).get1n (n := 0) (g := byV) inf5 agg5 (by simp) fun _ _ hld _ => evV_of (ty := tU8) _ (hld _ rfl) ?_
    have e255 : ((c0.toNat : Nat) : Int) = 255 ↔ c0 = 255 := by_eq (n := 255) (by omega)
    refine ifW_dec (fun h => ?_) fun h => ?_
    · have h : c0 = 255 := e255.1 h
      refine ptrW_of ?_
      refine hL.st 0 1 rfl (by kernel_rfl) rfl (Nat.le_of_ble_eq_true rfl) rfl rfl fun S11 hL _ => ?_
      refine hk2 _ _ ?_
      rw [show hol (c0 :: tl) = -1 from if_pos h]
      exact hL
    · have h : ¬ c0 = 255 := fun e => h (e255.2 e)
      refine hk2 _ _ ?_
      rw [show hol (c0 :: tl) = (c0.toNat : Int) from if_neg h]
      exact hL
  have hb6 := Ext.slOf hL.mod hb
  obtain ⟨bb, o, _, _, _, _, ea, _⟩ := hb6.mem (by simp)
  refine ptrW_of ?_
  refine hL.ld 2 rfl (by kernel_rfl) ds rfl ?_
  refine evV_of (ty := tS) ⟨some ⟨bb, cond (Nat.beq ds.cap 1) o (o + 1 * 1), none⟩, ds.len - 1, ds.cap - 1⟩ (sliceD_some (lo := 1) (hi := ds.len) (mx := ds.cap) und64 size5 ea hc.2 (natOf_int (k := .i64) (n := 1)) rfl rfl (by omega) hc.1 (Nat.le_refl _)) ?_
  have hs4 : ∀ S'', Bs S'' ds (c0 :: tl) → Bs S'' ⟨some ⟨bb, cond (Nat.beq ds.cap 1) o (o + 1 * 1), none⟩, ds.len - 1, ds.cap - 1⟩ tl := fun S'' h => by
    have := h.part (sz := 1) (fun _ => rfl) (lo := 1) (hi := 5) (c := ds.cap - 1) (o' := cond (Nat.beq ds.cap 1) o (o + 1 * 1)) ea (by omega) (by omega) (fun hne => by rw [PM.beq_f (show ds.cap ≠ 1 by have := hc.1; omega)]; rfl)
    rw [show ds.len = 5 from by omega]
    have e : ((c0 :: tl).drop 1).take (5 - 1) = tl := List.take_of_length_le (by simp; omega)
    rw [e] at this
    exact this
  refine loopW_ind (fun q (n : Int) S' => ∃ j : Nat, n = (j : Int) ∧ j ≤ 4 ∧ q = 4 - j ∧ Hld noB S S' [(b9, .cells (entC (hol (c0 :: tl), (vl (tl.take j) : Int))) none false none), (b2, .cells [.int .i64 0, .int .u32 0] none false none), (b1, .cells [.int .i64 r1, .int .i64 r2, .slice ds.a ds.len ds.cap] none false none)]) (m := 4) ⟨0, rfl, by omega, rfl, hL⟩ ?_
  rintro P q n S7 ⟨j, rfl, hj, rfl, hL⟩ hP
  have hb7 := hs4 S7 (Ext.slOf hL.mod hb)
  refine ifW_dec (fun hjl => ?_) fun hjl => ?_
  · have hj4 : j < tl.length := by have : (j : Int) < ((ds.len - 1 : Nat) : Int) := hjl; omega
    refine hb7.get1n (n := j) (g := byV) inf5 agg5 hj4 fun _ _ hld _ => evV_of (ty := tU8) _ (hld _ rfl) ?_
    refine ptrW_of ?_
    refine hL.ld 0 rfl (by kernel_rfl) (vl (tl.take j) : Int) rfl ?_
    refine ⟨rfl, ?_⟩
    refine ptrW_of ?_
    have hv : vl (tl.take j) < 16777216 := by
      have h1 := vl_lt j (tl.take j) (by simp; omega)
      have h2 : 256 ^ j ≤ 256 ^ 3 := Nat.pow_le_pow_right (by omega) (by omega)
      omega
    rw [step_u32 hv, wrap_succ (by omega), ← vl_snoc, ← List.take_succ_eq_append_getElem hj4]
    refine hL.st 0 1 rfl (by kernel_rfl) rfl (Nat.le_of_ble_eq_true rfl) rfl rfl fun S8 hL _ => ?_
    exact hP _ _ _ (by omega) ⟨j + 1, rfl, by omega, rfl, hL⟩
  · have hj4 : j = 4 := by have : ¬ (j : Int) < ((ds.len - 1 : Nat) : Int) := hjl; omega
    subst hj4
    have htk : tl.take 4 = tl := List.take_of_length_le (by omega)
    rw [htk] at hL
    refine hL.lda 0 rfl (by kernel_rfl) ((hol (c0 :: tl), (vl tl : Int)) : Ent) rfl ?_
    refine hL.lda 0 rfl (by kernel_rfl) ((hol (c0 :: tl), (vl tl : Int)) : Ent) rfl ?_
    refine evC_of (s65 fun S9 e9 => ⟨((-1, 0) : Ent), rfl, ?_⟩)
    have hL := hL.ext e9
    refine hL.lda 0 rfl (by kernel_rfl) ((hol (c0 :: tl), (vl tl : Int)) : Ent) rfl ?_
    refine sameV_of ?_
    refine hL.lda 0 rfl (by kernel_rfl) ((hol (c0 :: tl), (vl tl : Int)) : Ent) rfl ?_
    refine sameV_of ?_
    refine ⟨_, eqEnt _ _ _, ?_⟩
    refine hL.st 1 2 rfl (by kernel_rfl) rfl (Nat.le_of_ble_eq_true rfl) rfl rfl fun S10 hL _ => ?_
    refine ⟨_, eqEnt _ _ _, ?_⟩
    refine sameV_of ?_
    refine hL.lda 0 rfl (by kernel_rfl) ((hol (c0 :: tl), (vl tl : Int)) : Ent) rfl ?_
    refine sameV_of ?_
    refine hL.lda 1 rfl (by kernel_rfl) ((hol (c0 :: tl), (vl tl : Int)) : Ent) rfl ?_
    refine hk (hol (c0 :: tl), (vl tl : Int)) _ _ hL.mod ?_ fun _ => rfl
    have e : fine0 (c0 :: tl) ↔ ¬ (hol (c0 :: tl) = -1 ∧ (vl tl : Int) = 0) := ⟨fun h => h.2, fun h => ⟨hd5, h⟩⟩
    rw [e]
    by_cases h : hol (c0 :: tl) = -1 <;> by_cases h' : vl tl = 0 <;> simp [h, h']
/-! ### The ledger -/
abbrev ledC (home robots cells : Int) (b1 m2 m3 : Nat) : List Value := [.int .i64 home, .int .i64 robots, .int .i64 cells, .map (some b1), .map (some m2), .map (some m3)]
structure argsL (home robots cells : Int) : Prop where
  r1 : 1 ≤ robots
  r2 : robots ≤ 64
  h1 : 0 ≤ home
  h2 : home < robots
  c1 : 1 ≤ cells
  c2 : cells ≤ 1024
theorem s43 {S : St} {home robots cells : Int} (ha : argsL home robots cells) {k : Value → St → Prop}
    (hk : ∀ b b1 m2 m3 S', Ext S S' → S.next ≤ b → S.next ≤ b1 → b ≠ b1 → At S' b (.cells (ledC home robots cells b1 m2 m3) none false none) → MapFn S' b1 (fun _ => none) → k (.tuple #[.pointer (some ⟨b, 0, none⟩), .int .i64 0]) S') : WC E0 43 [.int .i64 home, .int .i64 robots, .int .i64 cells] S k := by
  obtain ⟨r1, r2, h1, h2, c1, c2⟩ := ha
  refine w43 _ _ _ ?_
  unfold c43
  refine ifW_neg (by omega) (ifW_neg (by omega) (ifW_neg (by omega) (ifW_neg (by omega) (ifW_neg (by omega) (ifW_neg (by omega) ?_)))))
  refine newW_of fun b1 S1 hb1 hat1 he1 hn1 => ?_
  refine newW_of fun b2 S2 hb2 hat2 he2 hn2 => ?_
  refine newW_of fun b3 S3 hb3 hat3 he3 hn3 => ?_
  have he := (he1.tr he2).tr he3
  refine update_fn (MapFn.nil hat3) und106 key3 fun S4 hm4 m4 hn4 => ?_
  have he4 : Ext S S4 := he.ext m4 fun c hc => by omega
  refine newW_of fun b4 S5 hb4 hat5 he5 hn5 => ?_
  refine hk b4 b1 b2 b3 S5 (he4.tr he5) (by omega) (by omega) (by omega) hat5 ?_
  have hm1 : MapFn S4 b1 (fun _ => none) := (MapFn.nil ((he2.tr he3).at hat1)).mod m4 (by omega)
  exact hm1.ext he5
theorem eq94 {S : St} {b o : Nat} : eqD E0 S 6 94 (.pointer (some ⟨b, o, none⟩)) (.pointer none) = some false := by kernel_rfl
theorem s45 {S : St} {b : Nat} {home robots cells : Int} {b1 m2 m3 : Nat} (hat : At S b (.cells (ledC home robots cells b1 m2 m3) none false none)) (h1 : 1 ≤ robots) {n : Int} {k : Value → St → Prop} (hk : k (.bool (decide (isL home robots cells n))) S) : WC E0 45 [.pointer (some ⟨b, 0, none⟩), .int .i64 n] S k := by
  refine w45 _ _ ?_
  unfold c45
  refine evC_of (w66 _ ?_)
  unfold c66
  refine ⟨false, eq94, ?_⟩
  refine ifW_of (fun h => by cases h) fun _ => ?_
  refine ptrW_of (ptrW_of (evV_of (ty := tI) robots (load_one hat (by kernel_rfl)) ?_))
  refine ⟨false, by rw [eqI_eq, decide_eq_false (by omega)]; rfl, ?_⟩
  refine ifW_of (fun _ => ?_) fun h => by cases h
  refine ifW_dec (fun h0 => ?_) fun h0 => ?_
  · refine ptrW_of (ptrW_of (evV_of (ty := tI) cells (load_one hat (by kernel_rfl)) ?_))
    refine ifW_dec (fun hc => ?_) fun hc => ?_
    · refine ptrW_of (ptrW_of (evV_of (ty := tI) robots (load_one hat (by kernel_rfl)) ?_))
      refine ⟨by rw [decide_eq_false (by omega)]; rfl, ?_⟩
      refine ptrW_of (ptrW_of (evV_of (ty := tI) home (load_one hat (by kernel_rfl)) ?_))
      rw [eqI_eq, show decide (Int.tmod n robots = home) = decide (isL home robots cells n) from decide_eq_decide.2 ⟨fun h => ⟨h0, hc, h⟩, fun h => h.2.2⟩]
      exact hk
    · rw [show decide (isL home robots cells n) = false from decide_eq_false fun h => hc h.2.1] at hk
      exact hk
  · rw [show decide (isL home robots cells n) = false from decide_eq_false fun h => h0 h.1] at hk
    exact hk
theorem und156 : E0.und 156 = some (.map 3 153) := by kernel_rfl
theorem zero153 : E0.zero 153 = some (sv G131 ((0, 0) : Ent)) := by kernel_rfl
set_option maxHeartbeats 2000000 in
theorem s20 {S : St} {s : Sl} {l : List Rc} {home robots cells : Int} (hr : RecsAt S s l) (hlen : l.length ≤ 1000) (ha : argsL home robots cells) {k : Value → St → Prop}
    (hno : ¬ ledOk home robots cells l → ∀ S', Ext S S' → k (.tuple #[.pointer none, .int .i64 140]) S')
    (hok : ledOk home robots cells l → ∀ b S', Ext S S' → k (.tuple #[.pointer (some ⟨b, 0, none⟩), .int .i64 0]) S') : WC E0 20 [.int .i64 home, .int .i64 robots, .int .i64 cells, .slice s.a s.len s.cap] S k := by
  refine w20 _ _ _ s ?_
  unfold c20
  have hsl := hr.sl.len
  refine evC_of (s43 ha fun bL b1 m2 m3 S1 he1 hbL hb1 hne hatL hm1 => ⟨(some ⟨bL, 0, none⟩, 0), rfl, ?_⟩)
  refine ifW_ndec (fun h => (h rfl).elim) fun _ => ?_
  have hL : Cx noB S S1 [(bL, .cells (ledC home robots cells b1 m2 m3) none false none)] (fun c => c = b1) (fun S => MapFn S b1 fun n => ((fun _ => none : Int → Option Ent) n).map fun e => sv G131 e) :=
    ⟨⟨he1, fun p hp => by simp at hp; subst hp; exact ⟨hatL, .inl hbL⟩, by simp⟩, fun c hc => by subst hc; exact hm1.lt, fun p hp => by simp at hp; subst hp; exact hne, hm1, MapFn.frm⟩
  refine loopW_ind (fun q (n : Int) S' => ∃ (i : Nat) (F : Int → Option Ent), n = (i : Int) ∧ i ≤ l.length ∧ q = l.length - i ∧ Cx noB S S' [(bL, .cells (ledC home robots cells b1 m2 m3) none false none)] (fun c => c = b1) (fun S => MapFn S b1 fun n => (F n).map fun e => sv G131 e) ∧ (∀ n, F n ≠ none ↔ seen3 l i n) ∧ ∀ j (h : j < l.length), j < i → l[j].1 = 3 → ledAt home robots cells l j l[j]) (m := l.length) ⟨0, fun _ => none, rfl, by omega, rfl, hL, fun n => ⟨(fun h => (h rfl).elim), (fun ⟨r, h, _⟩ => by simp at h)⟩, fun j h h' => by omega⟩ ?_
  rintro P q n S2 ⟨i, F, rfl, hi, rfl, hL, hF, hoks⟩ hP
  refine ifW_dec (fun hlt => ?_) fun hlt => ?_
  · have hi' : i < l.length := by omega
    have hr2 := hr.ext hL.mod
    refine slOf_getA (f := recC) (sz := 3) (fun _ => rfl) hr2.sl ldAgg146 hi' fun b3 o3 hld => ?_
    have hmr := List.getElem_mem hi'
    have hss := fun n => seen3_succ (l := l) (i := i) hi' (n := n)
    have hokS : ∀ (P : Prop), (l[i].1 = 3 → ledAt home robots cells l i l[i]) → ∀ j (h : j < l.length), j < i + 1 → l[j].1 = 3 → ledAt home robots cells l j l[j] := fun _ h1 j h hj => by
      rcases Nat.lt_or_ge j i with h' | h'
      · exact hoks j h h'
      · have : j = i := by omega
        subst this; exact h1
    have hokS := hokS True
    have hbad : (l[i].1 = 3 ∧ ¬ ledAt home robots cells l i l[i]) → ¬ ledOk home robots cells l := fun h hk => h.2 (hk i hi' h.1)
    refine evV_of (ty := .one (.agg G145)) (l[i].1, l[i].2.1, l[i].2.2.1) hld ?_
    generalize hri : l[i] = r at *
    obtain ⟨kd, nn, ds, dt⟩ := r
    dsimp only at *
    refine hL.new fun b5 S4 hL hb5 hn4 => ?_
    refine hL.st 0 3 rfl (by kernel_rfl) rfl (Nat.le_of_ble_eq_true rfl) rfl rfl fun S5 hL hn5 => ?_
    refine ptrW_of ?_
    refine hL.ld 0 rfl (by kernel_rfl) kd rfl ?_
    refine ifW_ndec (fun h2 => ?_) fun h2 => ?_
    · have h2 : ¬ kd = 3 := h2
      rw [wrap_succ (by omega)]
      exact hP _ _ _ (by omega) ⟨i + 1, F, rfl, by omega, rfl, hL.tl 1, fun n => by rw [hF, hss]; exact ⟨.inl, fun h => h.elim id fun h => (h2 h.1).elim⟩, hokS fun h => (h2 h).elim⟩
    have h2 : kd = 3 := h2
    subst h2
    refine hL.lda 0 rfl (by kernel_rfl) ((3, nn, ds) : Int × Int × Sl) rfl ?_
    have hr5 := hr.ext hL.mod
    refine evC_of (s44 (r := (3, nn, ds)) (hr5.dat _ hmr) (hr5.cap _ hmr) fun e t S5 e5 ht he => ⟨(e, t), rfl, ?_⟩)
    have hL := hL.ext e5
    refine hL.new fun b6 S6 hL _ _ => ?_
    refine hL.st 0 2 rfl (by kernel_rfl) rfl (Nat.le_of_ble_eq_true rfl) rfl rfl fun S7 hL _ => ?_
    refine hL.new fun b7 S8 hL _ _ => ?_
    refine ptrW_of (ptrW_of ?_)
    refine hL.ld 3 rfl (by kernel_rfl) (some b1 : Option Nat) rfl ?_
    refine ptrW_of ?_
    refine hL.ld 2 rfl (by kernel_rfl) nn rfl ?_
    refine evV_of (ty := .tup [.agg G131, .sc .bool]) ((F nn).getD (0, 0), (F nn).isSome) ((lookup_ok hL.p und156 key3 zero153).trans ?_) ?_
    · cases F nn <;> rfl
    refine hL.st 0 2 rfl (by kernel_rfl) rfl (Nat.le_of_ble_eq_true rfl) rfl rfl fun S9 hL _ => ?_
    refine ifW_of (fun hf => ?_) fun hf => ?_
    · have hf : t = false := by simpa using hf
      exact hno (hbad ⟨rfl, fun h => by rw [ht.2 h.1] at hf; cases hf⟩) _ hL.mod
    have hf : t = true := by simpa using hf
    have hfine := ht.1 hf
    have he := he hfine
    subst he
    refine ifW_of (fun hs => ?_) fun hs => ?_
    · have hs : (F nn).isSome = true := hs
      exact hno (hbad ⟨rfl, fun h => h.2.2.2 ((hF nn).1 fun e => by rw [e] at hs; cases hs)⟩) _ hL.mod
    have hs : (F nn).isSome = false := hs
    have hns : ¬ seen3 l i nn := fun h => (hF nn).2 h (by cases hh : F nn with | none => rfl | some e => rw [hh] at hs; cases hs)
    refine ptrW_of ?_
    refine hL.ld 2 rfl (by kernel_rfl) nn rfl ?_
    refine evC_of (s45 (hL.at 3 rfl) ha.r1 ⟨_, rfl, ?_⟩)
    refine ifW_ndec (fun hil => hno (hbad ⟨rfl, fun h => hil h.2.2.1⟩) _ hL.mod) fun hil => ?_
    refine ptrW_of ?_
    refine hL.ld 1 rfl (by kernel_rfl) (hol dt) rfl ?_
    refine ifW_dec (fun hh => hno (hbad ⟨rfl, fun h => by have : hol dt < robots := h.2.1; omega⟩) _ hL.mod) fun hh => ?_
    refine ptrW_of (ptrW_of ?_)
    refine hL.ld 3 rfl (by kernel_rfl) (some b1 : Option Nat) rfl ?_
    refine ptrW_of ?_
    refine hL.ld 2 rfl (by kernel_rfl) nn rfl ?_
    refine hL.lda 1 rfl (by kernel_rfl) ((hol dt, gen5 dt) : Ent) rfl ?_
    refine update_fn hL.p und156 key3 fun S11 hm11 m11 hn11 => ?_
    have hm' : MapFn S11 b1 fun n => ((fun m => if m = nn then some (hol dt, gen5 dt) else F m : Int → Option Ent) n).map fun e => sv G131 e := hm11.congr fun n => by
      by_cases hn : n = nn
      · show (if n = nn then _ else _) = Option.map _ (if n = nn then _ else _)
        rw [if_pos hn, if_pos hn]; rfl
      · show (if n = nn then _ else _) = Option.map _ (if n = nn then _ else _)
        rw [if_neg hn, if_neg hn]
    have hb1 := hL.lt b1 rfl
    have hL := hL.op m11 (fun c h => h) (fun c h hlt => by have h : c = b1 := h; omega) hm' MapFn.frm (fun c hc => .inl hc) (fun c hc => by have : c = b1 := hc; subst this; exact hm'.lt)
    rw [wrap_succ (by omega)]
    refine hP _ _ _ (by omega) ⟨i + 1, _, rfl, by omega, rfl, hL.tl 3, fun n => ?_, hokS fun _ => ⟨hfine, by show hol dt < robots; omega, hil, hns⟩⟩
    rw [hss, ← hF]
    by_cases hn : n = nn
    · show (if n = nn then _ else _) ≠ none ↔ _
      rw [if_pos hn]
      exact ⟨fun _ => .inr ⟨rfl, hn.symm⟩, fun _ h => by cases h⟩
    · show (if n = nn then _ else _) ≠ none ↔ _
      rw [if_neg hn]
      exact ⟨.inl, fun h => h.elim id fun h => (hn h.2.symm).elim⟩
  · have hi' : i = l.length := by omega
    subst hi'
    exact hok (fun j h => hoks j h h) bL S2 hL.mod
end
end Go.Proofs.Ytgdijpcopdgapaa

/- Robots: ledgers out of records, the document's. -/
namespace Go.Proofs.Ytgdijpcopdgapaa
open Go Go.Proofs.Ytgdijpcopdgapaa.D
set_option linter.unusedVariables false
set_option linter.unusedSimpArgs false
noncomputable section

abbrev entR (e : Ent) : List Value := [.int .i64 e.1, .int .u32 e.2, .slice none 0 0]
theorem len_entR (l : List Ent) : (l.flatMap entR).length = l.length * 3 := flat_len (f := entR) (sz := 3) (fun _ => rfl) l
/-- Cells of an element are written. -/
theorem flat_set {l : List Ent} {m j : Nat} {vs : List Value} {y : Ent} (hm : m < l.length) (hj : j + vs.length ≤ 3) (hy : (entR l[m]).take j ++ (vs ++ (entR l[m]).drop (j + vs.length)) = entR y) : (l.flatMap entR).take (m * 3 + j) ++ (vs ++ (l.flatMap entR).drop (m * 3 + j + vs.length)) = (l.set m y).flatMap entR := by
  have hl : l = l.take m ++ l[m] :: l.drop (m + 1) := by rw [← List.drop_eq_getElem_cons hm, List.take_append_drop]
  have hA : ((l.take m).flatMap entR).length = m * 3 := by rw [len_entR, List.length_take]; omega
  have e1 : l.flatMap entR = (l.take m).flatMap entR ++ (entR l[m] ++ (l.drop (m + 1)).flatMap entR) := by
    conv => lhs; rw [hl]
    rw [List.flatMap_append, List.flatMap_cons]
  have e2 : (l.set m y).flatMap entR = (l.take m).flatMap entR ++ (entR y ++ (l.drop (m + 1)).flatMap entR) := by
    rw [List.set_eq_take_append_cons_drop, if_pos hm, List.flatMap_append, List.flatMap_cons]
  have h3 : (entR l[m]).length = 3 := rfl
  rw [e2, e1, ← hy, ← hA, List.take_length_add_append, Nat.add_assoc, List.drop_length_add_append, List.take_append_of_le_length (by omega), List.drop_append_of_le_length (by omega)]
  simp only [List.append_assoc]
theorem row169 {N : Nat} (h : N ≤ 1024) : rowD E0 169 (.int .i64 (N : Int)) (.int .i64 (N : Int)) = some (.cells ((List.replicate N ((0, 0) : Ent)).flatMap entR) none false none) := by
  have h0 : rowD E0 169 (.int .i64 (N : Int)) (.int .i64 (N : Int)) = cond (decide (0 ≤ (N : Int)) && decide ((N : Int) ≤ (N : Int)) && decide ((40 : Int) * (N : Int) ≤ 140737488355328) && decide ((N : Int) ≤ 140737488355328) && true && true) (some (.cells (zerosD (entR (0, 0)) (N : Int).toNat) none false none)) none := by kernel_rfl
  rw [h0, decide_eq_true (by omega), decide_eq_true (by omega), decide_eq_true (by omega), decide_eq_true (by omega), Int.toNat_natCast]
  show some (DObj.cells (zerosD (entR (0, 0)) N) none false none) = _
  unfold zerosD
  rw [List.flatMap_replicate]
theorem row84 {N : Nat} (h : N ≤ 1024) : rowD E0 84 (.int .i64 (N : Int)) (.int .i64 (N : Int)) = some (.cells (List.replicate N (.int .i64 0)) none false none) := by
  have h0 : rowD E0 84 (.int .i64 (N : Int)) (.int .i64 (N : Int)) = cond (decide (0 ≤ (N : Int)) && decide ((N : Int) ≤ (N : Int)) && decide ((8 : Int) * (N : Int) ≤ 140737488355328) && decide ((N : Int) ≤ 140737488355328) && true && true) (some (.cells (zerosD [.int .i64 0] (N : Int).toNat) none false none)) none := by kernel_rfl
  rw [h0, decide_eq_true (by omega), decide_eq_true (by omega), decide_eq_true (by omega), decide_eq_true (by omega), Int.toNat_natCast]
  show some (DObj.cells (zerosD [Value.int .i64 0] N) none false none) = _
  unfold zerosD
  congr 2
  induction N with
  | zero => rfl
  | succ n ih => rw [List.replicate_succ, List.flatten_cons, ih (by omega) (by kernel_rfl), List.replicate_succ]; rfl
abbrev refC (home robots : Int) (b1 b2 N R : Nat) : List Value := [.int .i64 home, .int .i64 robots, .slice (some ⟨b1, 0, none⟩) N N, .slice (some ⟨b2, 0, none⟩) R R]
set_option maxHeartbeats 1000000 in
theorem s52 {S : St} {home robots : Int} {N : Nat} (ha : argsL home robots (N : Int)) {k : Value → St → Prop}
    (hk : ∀ b b1 b2 R cs S', Hld noB S S' [(b, .cells (refC home robots b1 b2 N R) none false none), (b2, .cells cs none false none), (b1, .cells ((List.replicate N ((-1, 0) : Ent)).flatMap entR) none false none)] → k (.tuple #[.pointer (some ⟨b, 0, none⟩), .int .i64 0]) S') : WC E0 52 [.int .i64 home, .int .i64 robots, .int .i64 (N : Int)] S k := by
  obtain ⟨r1, r2, h1, h2, c1, c2⟩ := ha
  obtain ⟨R, rfl⟩ : ∃ R : Nat, robots = (R : Int) := ⟨robots.toNat, by omega⟩
  obtain ⟨H, rfl⟩ : ∃ H : Nat, home = (H : Int) := ⟨home.toNat, by omega⟩
  refine w52 _ _ _ ?_
  unfold c52
  refine ifW_neg (by omega) (ifW_neg (by omega) (ifW_neg (by omega) (ifW_neg (by omega) (ifW_neg (by omega) (ifW_neg (by omega) ?_)))))
  have hL := Hld.start noB S
  refine ⟨_, row169 (by omega), ?_⟩
  refine hL.new fun b1 S1 hL _ _ => ?_
  refine ⟨_, row84 (by omega), ?_⟩
  refine hL.new fun b2 S2 hL _ _ => ?_
  refine ⟨_, row169 (by omega), ⟨rfl, ?_⟩⟩
  refine ⟨_, row84 (by omega), ⟨rfl, ?_⟩⟩
  refine hL.new fun b3 S3 hL _ _ => ?_
  rw [Int.toNat_natCast, Int.toNat_natCast] at hL
  refine loopW_ind (fun q (n : Int) S' => ∃ (i : Nat) (es : List Ent), n = (i : Int) ∧ i ≤ N ∧ q = N - i ∧ es.length = N ∧ (∀ m (h : m < es.length), es[m] = if m < i then (-1, 0) else (0, 0)) ∧ Hld noB S S' [(b3, .cells (refC (H : Int) (R : Int) b1 b2 N R) none false none), (b2, .cells (List.replicate R (.int .i64 0)) none false none), (b1, .cells (es.flatMap entR) none false none)]) (m := N) ⟨0, List.replicate N (0, 0), rfl, by omega, rfl, by simp, fun m h => by simp, hL⟩ ?_
  rintro P q n S4 ⟨i, es, rfl, hi, rfl, hes, hev, hL⟩ hP
  refine ifW_dec (fun hlt => ?_) fun hlt => ?_
  · have hi' : i < es.length := by omega
    refine ptrW_of (ptrW_of ?_)
    refine hL.ld 0 rfl (by kernel_rfl) (⟨some ⟨b1, 0, none⟩, N, N⟩ : Sl) rfl ?_
    refine idx_lit (by omega) (by omega) ?_
    refine ptrW_of ?_
    refine hL.st 2 1 rfl (by kernel_rfl) rfl (by rw [len_entR]; omega) rfl (show _ = (es.set i (-1, 0)).flatMap entR from ?_) fun S5 hL _ => ?_
    · show (es.flatMap entR).take (0 + (i : Int).toNat * 3 + 0) ++ ([Value.int .i64 (-1)] ++ (es.flatMap entR).drop (0 + (i : Int).toNat * 3 + 0 + 1)) = _
      rw [show 0 + (i : Int).toNat * 3 + 0 = i * 3 + 0 from by omega]
      have h2 : es[i].2 = 0 := by rw [hev i hi', if_neg (by omega)]
      refine flat_set (m := i) (j := 0) (vs := [Value.int .i64 (-1)]) hi' (by simp) ?_
      show [Value.int .i64 (-1), .int .u32 es[i].2, .slice none 0 0] = _
      rw [h2]
    rw [wrap_succ (by omega)]
    refine hP _ _ _ (by omega) ⟨i + 1, es.set i (-1, 0), rfl, by omega, rfl, by simpa using hes, fun m h => ?_, hL⟩
    rw [List.getElem_set]
    have hm : m < es.length := by simpa using h
    by_cases him : i = m
    · subst him; rw [if_pos rfl, if_pos (by omega)]
    · rw [if_neg him, hev m hm]
      by_cases hmi : m < i
      · rw [if_pos hmi, if_pos (by omega)]
      · rw [if_neg hmi, if_neg (by omega)]
  · have hi' : i = N := by omega
    subst hi'
    have hes' : es = List.replicate es.length (-1, 0) := by
      refine List.eq_replicate_iff.2 ⟨rfl, fun x hx => ?_⟩
      obtain ⟨m, hm, rfl⟩ := List.getElem_of_mem hx
      rw [hev m hm, if_pos (by omega)]
    rw [hes] at hes'
    refine ptrW_of (ptrW_of ?_)
    refine hL.ld 0 rfl (by kernel_rfl) (⟨some ⟨b2, 0, none⟩, R, R⟩ : Sl) rfl ?_
    refine idx_lit (by omega) (by omega) ?_
    refine hL.st 1 1 rfl (by kernel_rfl) rfl (by rw [List.length_replicate]; omega) rfl rfl fun S6 hL _ => ?_
    rw [hes'] at hL
    exact hk b3 b1 b2 R _ S6 hL
theorem s53 {S : St} {b : Nat} {home robots : Int} {b1 b2 N R : Nat} (hat : At S b (.cells (refC home robots b1 b2 N R) none false none)) (h1 : 1 ≤ robots) {n : Int} {k : Value → St → Prop} (hk : k (.bool (decide (isL home robots (N : Int) n))) S) : WC E0 53 [.pointer (some ⟨b, 0, none⟩), .int .i64 n] S k := by
  refine w53 _ _ ?_
  unfold c53
  refine ifW_dec (fun h0 => ?_) fun h0 => ?_
  · refine ptrW_of (ptrW_of (evV_of (ty := tS) ⟨some ⟨b1, 0, none⟩, N, N⟩ (load_one hat (by kernel_rfl)) ?_))
    refine ifW_dec (fun hc => ?_) fun hc => ?_
    · refine ptrW_of (ptrW_of (evV_of (ty := tI) robots (load_one hat (by kernel_rfl)) ?_))
      refine ⟨by rw [decide_eq_false (by omega)]; rfl, ?_⟩
      refine ptrW_of (ptrW_of (evV_of (ty := tI) home (load_one hat (by kernel_rfl)) ?_))
      rw [eqI_eq, show decide (Int.tmod n robots = home) = decide (isL home robots (N : Int) n) from decide_eq_decide.2 ⟨fun h => ⟨h0, hc, h⟩, fun h => h.2.2⟩]
      exact hk
    · rw [show decide (isL home robots (N : Int) n) = false from decide_eq_false fun h => hc h.2.1] at hk
      exact hk
  · rw [show decide (isL home robots (N : Int) n) = false from decide_eq_false fun h => h0 h.1] at hk
    exact hk
theorem be4i {c0 c1 c2 c3 : UInt8} : wrapI .i64 (wrapI .i64 (wrapI .i64 (wrapI .i64 (wrapI .i64 (c0.toNat : Int) * 16777216) + wrapI .i64 (wrapI .i64 (c1.toNat : Int) * 65536)) + wrapI .i64 (wrapI .i64 (c2.toNat : Int) * 256)) + wrapI .i64 (c3.toNat : Int)) = (vl [c0, c1, c2, c3] : Int) := by
  have h0 := c0.toNat_lt
  have h1 := c1.toNat_lt
  have h2 := c2.toNat_lt
  have h3 := c3.toNat_lt
  rw [wrap_i64 (n := (c0.toNat : Int)) (by omega) (by omega), wrap_i64 (n := (c1.toNat : Int)) (by omega) (by omega), wrap_i64 (n := (c2.toNat : Int)) (by omega) (by omega), wrap_i64 (n := (c3.toNat : Int)) (by omega) (by omega)]
  rw [wrap_i64 (n := (c0.toNat : Int) * 16777216) (by omega) (by omega), wrap_i64 (n := (c1.toNat : Int) * 65536) (by omega) (by omega), wrap_i64 (n := (c2.toNat : Int) * 256) (by omega) (by omega)]
  rw [wrap_i64 (n := (c0.toNat : Int) * 16777216 + _) (by omega) (by omega)]
  rw [wrap_i64 (n := (c0.toNat : Int) * 16777216 + _ + _) (by omega) (by omega)]
  rw [wrap_i64 (by omega) (by omega)]
  simp only [vl, vlA, List.foldl_cons, List.foldl_nil]
  omega
end
end Go.Proofs.Ytgdijpcopdgapaa

/- Robots: ledgers out of records, the document's: load. -/
namespace Go.Proofs.Ytgdijpcopdgapaa
open Go Go.Proofs.Ytgdijpcopdgapaa.D
set_option linter.unusedVariables false
set_option linter.unusedSimpArgs false
noncomputable section

theorem es_sl {S : St} {b1 N : Nat} {es : List Ent} (h : At S b1 (.cells (es.flatMap entR) none false none)) (hn : es.length = N) : SlOf entR 3 S ⟨some ⟨b1, 0, none⟩, N, N⟩ es := by
  refine ⟨hn.symm, fun _ => ⟨b1, 0, _, _, _, _, rfl, h, ?_⟩⟩
  rw [List.drop_zero, List.take_of_length_le (by rw [len_entR]; exact Nat.le_refl _)]
set_option maxHeartbeats 2000000 in
theorem s26 {S : St} {s : Sl} {l : List Rc} {home robots : Int} {N : Nat} (hr : RecsAt S s l) (hlen : l.length ≤ 1000) (ha : argsL home robots (N : Int)) {k : Value → St → Prop}
    (hno : ¬ ledOk home robots (N : Int) l → ∀ S', Ext S S' → k (.tuple #[.pointer none, .int .i64 140]) S')
    (hok : ledOk home robots (N : Int) l → ∀ b S', Ext S S' → k (.tuple #[.pointer (some ⟨b, 0, none⟩), .int .i64 0]) S') : WC E0 26 [.int .i64 home, .int .i64 robots, .int .i64 (N : Int), .slice s.a s.len s.cap] S k := by
  refine w26 _ _ _ s ?_
  unfold c26
  have hsl := hr.sl.len
  refine evC_of (s52 ha fun bL b1 b2 R cs S1 hL => ⟨(some ⟨bL, 0, none⟩, 0), rfl, ?_⟩)
  refine ifW_ndec (fun h => (h rfl).elim) fun _ => ?_
  refine loopW_ind (fun q (n : Int) S' => ∃ (i : Nat) (es : List Ent), n = (i : Int) ∧ i ≤ l.length ∧ q = l.length - i ∧ es.length = N ∧ (∀ m (h : m < es.length), (es[m].1 = -1 ∧ es[m].2 = 0) ↔ ¬ seen3 l i (m : Int)) ∧ Hld noB S S' [(bL, .cells (refC home robots b1 b2 N R) none false none), (b2, .cells cs none false none), (b1, .cells (es.flatMap entR) none false none)] ∧ ∀ j (h : j < l.length), j < i → l[j].1 = 3 → ledAt home robots (N : Int) l j l[j]) (m := l.length) ⟨0, List.replicate N (-1, 0), rfl, by omega, rfl, by simp, fun m h => by simp [seen3], hL, fun j h h' => by omega⟩ ?_
  rintro P q n S2 ⟨i, es, rfl, hi, rfl, hes, hev, hL, hoks⟩ hP
  refine ifW_dec (fun hlt => ?_) fun hlt => ?_
  · have hi' : i < l.length := by omega
    have hr2 := hr.ext hL.mod
    have hmr := List.getElem_mem hi'
    have hss := fun n => seen3_succ (l := l) (i := i) hi' (n := n)
    have hokS : ∀ (P : Prop), (l[i].1 = 3 → ledAt home robots (N : Int) l i l[i]) → ∀ j (h : j < l.length), j < i + 1 → l[j].1 = 3 → ledAt home robots (N : Int) l j l[j] := fun _ h1 j h hj => by
      rcases Nat.lt_or_ge j i with h' | h'
      · exact hoks j h h'
      · have : j = i := by omega
        subst this; exact h1
    have hokS := hokS True
    have hbad : (l[i].1 = 3 ∧ ¬ ledAt home robots (N : Int) l i l[i]) → ¬ ledOk home robots (N : Int) l := fun h hk => h.2 (hk i hi' h.1)
    have rd : ∀ {S'} (e : Ext S S') {k : Nat → Nat → Prop}, (∀ b o, (∀ j t, j < 3 → ldOk E0 t = true → loadV E0 S' t (.pointer (some ⟨b, o + (i : Int).toNat * 3 + j, none⟩)) = (recC l[i])[j]?) → k b o) → idxW s.a s.len (i : Int) k := fun e k hk => rec_fld (hr.ext e) hi' hk
    generalize hri : l[i] = r at *
    obtain ⟨kd, nn, ds, dt⟩ := r
    dsimp only at *
    refine rd hL.mod fun b3 o3 hld => ?_
    refine ptrW_of (evV_of (ty := tI) kd (hld 0 3 (by omega) (by kernel_rfl)) ?_)
    refine ifW_ndec (fun h2 => ?_) fun h2 => ?_
    · have h2 : ¬ kd = 3 := h2
      rw [wrap_succ (by omega)]
      exact hP _ _ _ (by omega) ⟨i + 1, es, rfl, by omega, rfl, hes, fun m h => by rw [hev m h, hss]; exact not_congr ⟨.inl, fun h => h.elim id fun h => (h2 h.1).elim⟩, hL, hokS fun h => (h2 h).elim⟩
    have h2 : kd = 3 := h2
    subst h2
    refine rd hL.mod fun b5 o5 hld5 => ?_
    refine ptrW_of (evV_of (ty := tS) ds (hld5 2 64 (by omega) (by kernel_rfl)) ?_)
    have hbd : Bs S2 ds dt := hr2.dat _ hmr
    have hdl := hbd.len
    refine ifW_ndec (fun h5 => hno (hbad ⟨rfl, fun h => by have : dt.length = 5 := h.1.1; omega⟩) _ hL.mod) fun h5 => ?_
    have hd5 : dt.length = 5 := by omega
    refine rd hL.mod fun b9 o9 hld9 => ?_
    refine ptrW_of (evV_of (ty := tI) nn (hld9 1 3 (by omega) (by kernel_rfl)) ?_)
    refine evC_of (s53 (hL.at 0 rfl) ha.r1 ⟨_, rfl, ?_⟩)
    refine ifW_ndec (fun hil => hno (hbad ⟨rfl, fun h => hil h.2.2.1⟩) _ hL.mod) fun hil => ?_
    obtain ⟨m, rfl⟩ : ∃ m : Nat, nn = (m : Int) := ⟨nn.toNat, by have h0 : 0 ≤ nn := hil.1; omega⟩
    have hm : m < es.length := by have h1 : (m : Int) < (N : Int) := hil.2.1; omega
    have hsl2 := es_sl (hL.at 2 rfl) hes
    refine ptrW_of (ptrW_of ?_)
    refine hL.ld 0 rfl (by kernel_rfl) (⟨some ⟨b1, 0, none⟩, N, N⟩ : Sl) rfl ?_
    refine rd hL.mod fun b17 o17 hld17 => ?_
    refine ptrW_of (evV_of (ty := tI) ((m : Nat) : Int) (hld17 1 3 (by omega) (by kernel_rfl)) ?_)
    refine slOf_fld (f := entR) (sz := 3) (fun _ => rfl) hsl2 hm fun b21 o21 hldE => ?_
    refine ptrW_of (evV_of (ty := tI) es[m].1 (hldE 0 3 (by omega) (by kernel_rfl)) ?_)
    refine ifW_ndec (fun h1 => hno (hbad ⟨rfl, fun h => h1 ((hev m hm).2 h.2.2.2).1⟩) _ hL.mod) fun h1 => ?_
    have h1 : es[m].1 = -1 := h1
    refine ptrW_of (ptrW_of ?_)
    refine hL.ld 0 rfl (by kernel_rfl) (⟨some ⟨b1, 0, none⟩, N, N⟩ : Sl) rfl ?_
    refine rd hL.mod fun b29 o29 hld29 => ?_
    refine ptrW_of (evV_of (ty := tI) ((m : Nat) : Int) (hld29 1 3 (by omega) (by kernel_rfl)) ?_)
    refine slOf_fld (f := entR) (sz := 3) (fun _ => rfl) hsl2 hm fun b33 o33 hldE2 => ?_
    refine ptrW_of (evV_of (ty := tU32) es[m].2 (hldE2 1 27 (by omega) (by kernel_rfl)) ?_)
    refine ifW_ndec (fun h0 => hno (hbad ⟨rfl, fun h => h0 ((hev m hm).2 h.2.2.2).2⟩) _ hL.mod) fun h0 => ?_
    have h0 : es[m].2 = 0 := h0
    have hns : ¬ seen3 l i (m : Int) := (hev m hm).1 ⟨h1, h0⟩
    obtain ⟨d0, c0, c1, c2, c3, rfl⟩ : ∃ d0 c0 c1 c2 c3, dt = [d0, c0, c1, c2, c3] := by
      match dt, hd5 with
      | [x, a, b, c, d], _ => exact ⟨x, a, b, c, d, rfl⟩
    refine hbd.get1n (n := 0) (g := byV) inf5 agg5 (by simp) fun _ _ hld _ => evV_of (ty := tU8) _ (hld _ rfl) ?_
    have hd0 := d0.toNat_lt
    have hw : wrapI .i64 ((d0.toNat : Nat) : Int) = ((d0.toNat : Nat) : Int) := wrap_i64 (by omega) (by omega)
    have hg5 : gen5 [d0, c0, c1, c2, c3] = (vl [c0, c1, c2, c3] : Int) := rfl
    have hvl := vl_lt 4 [c0, c1, c2, c3] rfl
    refine join_of (fun (x : Int) S' => x = hol [d0, c0, c1, c2, c3] ∧ S' = S2) (fun x S4 hx => ?_) fun k2 hk2 => ?_
    rotate_left
    · have e255 : ((d0.toNat : Nat) : Int) = 255 ↔ d0 = 255 := by_eq (n := 255) (by omega)
      show ifW (eqI (wrapI .i64 ((d0.toNat : Nat) : Int)) 255) _ _
      rw [hw]
      refine ifW_dec (fun h => ?_) fun h => ?_
      · exact hk2 _ _ ⟨(if_pos (e255.1 h)).symm, rfl⟩
      · refine hk2 _ _ ⟨?_, rfl⟩
        show wrapI .i64 ((d0.toNat : Nat) : Int) = _
        rw [hw]
        exact (if_neg fun e => h (e255.2 e)).symm
    obtain ⟨rfl, rfl⟩ := hx
    refine hbd.get1n (n := 1) (g := byV) inf5 agg5 (by simp) fun _ _ hld _ => evV_of (ty := tU8) _ (hld _ rfl) ?_
    refine hbd.get1n (n := 2) (g := byV) inf5 agg5 (by simp) fun _ _ hld _ => evV_of (ty := tU8) _ (hld _ rfl) ?_
    refine hbd.get1n (n := 3) (g := byV) inf5 agg5 (by simp) fun _ _ hld _ => evV_of (ty := tU8) _ (hld _ rfl) ?_
    refine hbd.get1n (n := 4) (g := byV) inf5 agg5 (by simp) fun _ _ hld _ => evV_of (ty := tU8) _ (hld _ rfl) ?_
    refine ifW_dec (fun hh => hno (hbad ⟨rfl, fun h => by have : hol [d0, c0, c1, c2, c3] < robots := h.2.1; omega⟩) _ hL.mod) fun hh => ?_
    have hg : wrapI .i64 (wrapI .i64 (wrapI .i64 (wrapI .i64 (wrapI .i64 (c0.toNat : Int) * 16777216) + wrapI .i64 (wrapI .i64 (c1.toNat : Int) * 65536)) + wrapI .i64 (wrapI .i64 (c2.toNat : Int) * 256)) + wrapI .i64 (c3.toNat : Int)) = (vl [c0, c1, c2, c3] : Int) := be4i
    have hgw : wrapI .u32 (vl [c0, c1, c2, c3] : Int) = (vl [c0, c1, c2, c3] : Int) := wrap_u32 (by omega) (by omega)
    -- the entry is put
    have put : fine0 [d0, c0, c1, c2, c3] → ptrW (some ⟨bL, 0, none⟩) fun (b47 b48 : Nat) => ptrW (some ⟨b47, b48, none⟩) fun (b49 b50 : Nat) => evV tS (loadV E0 S4 169 (.pointer (some ⟨b49, b50 + 2, none⟩))) fun (s4 : Sl) => idxW s.a s.len (i : Int) fun (b51 b52 : Nat) => ptrW (some ⟨b51, b52 + Int.toNat (i : Int) * 3, none⟩) fun (b53 b54 : Nat) => evV tI (loadV E0 S4 3 (.pointer (some ⟨b53, b54 + 1, none⟩))) fun (n14 : Int) => idxW s4.a s4.len n14 fun (b55 b56 : Nat) =>
        evS (storeV E0 S4 168 (.pointer (some ⟨b55, b56 + Int.toNat n14 * 3, none⟩)) (.agg #[.int .i64 (hol [d0, c0, c1, c2, c3]), .int .u32 (wrapI .u32 (wrapI .i64 (wrapI .i64 (wrapI .i64 (wrapI .i64 (wrapI .i64 (c0.toNat : Int) * 16777216) + wrapI .i64 (wrapI .i64 (c1.toNat : Int) * 65536)) + wrapI .i64 (wrapI .i64 (c2.toNat : Int) * 256)) + wrapI .i64 (c3.toNat : Int)))), .slice none 0 0])) fun (S5 : St) => P (wrapI .i64 ((i : Int) + 1)) S5 := fun hfine => by
      rw [hg, hgw]
      refine ptrW_of (ptrW_of ?_)
      refine hL.ld 0 rfl (by kernel_rfl) (⟨some ⟨b1, 0, none⟩, N, N⟩ : Sl) rfl ?_
      refine rd hL.mod fun b51 o51 hld51 => ?_
      refine ptrW_of (evV_of (ty := tI) ((m : Nat) : Int) (hld51 1 3 (by omega) (by kernel_rfl)) ?_)
      refine idx_lit (by omega) (show (m : Int) < ((N : Nat) : Int) by omega) ?_
      refine hL.st 2 3 rfl (by kernel_rfl) rfl (by rw [len_entR]; omega) rfl (show _ = (es.set m (hol [d0, c0, c1, c2, c3], (vl [c0, c1, c2, c3] : Int))).flatMap entR from ?_) fun S5 hL _ => ?_
      · show (es.flatMap entR).take (0 + (m : Int).toNat * 3) ++ (entR (hol [d0, c0, c1, c2, c3], (vl [c0, c1, c2, c3] : Int)) ++ (es.flatMap entR).drop (0 + (m : Int).toNat * 3 + 3)) = _
        rw [show 0 + (m : Int).toNat * 3 = m * 3 + 0 from by omega]
        exact flat_set (m := m) (j := 0) (vs := entR (hol [d0, c0, c1, c2, c3], (vl [c0, c1, c2, c3] : Int))) hm (by simp) rfl
      rw [wrap_succ (by omega)]
      refine hP _ _ _ (by omega) ⟨i + 1, _, rfl, by omega, rfl, by simpa using hes, fun q h => ?_, hL, hokS fun _ => ⟨hfine, by show hol [d0, c0, c1, c2, c3] < robots; omega, hil, hns⟩⟩
      have hq : q < es.length := by simpa using h
      rw [hss]
      by_cases hqm : m = q
      · subst hqm
        rw [List.getElem_set_self]
        exact ⟨fun h => (hfine.2 h).elim, fun h => (h (.inr ⟨rfl, rfl⟩)).elim⟩
      · rw [List.getElem_set_ne hqm, hev q hq]
        exact not_congr ⟨.inl, fun h => h.elim id fun h => by have : (m : Int) = (q : Int) := h.2; omega⟩
    refine ifW_dec (fun hm1 => ?_) fun hm1 => ?_
    · refine ifW_dec (fun hz => ?_) fun hz => ?_
      · have hz : (vl [c0, c1, c2, c3] : Int) = 0 := hg ▸ hz
        exact hno (hbad ⟨rfl, fun h => h.1.2 ⟨hm1, hz⟩⟩) _ hL.mod
      · exact put ⟨rfl, fun h => hz (hg.trans h.2)⟩
    · exact put ⟨rfl, fun h => hm1 h.1⟩
  · have hi' : i = l.length := by omega
    subst hi'
    exact hok (fun j h => hoks j h h) bL S2 hL.mod
end
end Go.Proofs.Ytgdijpcopdgapaa

/- Robots: what a new robot has beside claims and ledger. -/
namespace Go.Proofs.Ytgdijpcopdgapaa
open Go Go.Proofs.Ytgdijpcopdgapaa.D
set_option linter.unusedVariables false
set_option linter.unusedSimpArgs false
noncomputable section

theorem s22 {S : St} {e : Int} {k : Value → St → Prop} (hk : ∀ b S', Ext S S' → k (.pointer (some ⟨b, 0, none⟩)) S') : WC E0 22 [.int .u32 e] S k := by
  refine w22 _ ?_
  unfold c22
  exact newW_of fun b S1 _ _ he _ => hk b S1 he
theorem s23 {S : St} {mb : Nat} {w : Int} (h1 : 1 ≤ w) (h2 : w ≤ 4) {k : Value → St → Prop} (hk : ∀ b S', Ext S S' → k (.tuple #[.pointer (some ⟨b, 0, none⟩), .int .i64 0]) S') : WC E0 23 [.pointer (some ⟨mb, 0, none⟩), .int .i64 w] S k := by
  refine w23 _ _ ?_
  unfold c23
  refine ⟨false, eq29, ?_⟩
  refine ifW_of (fun h => by cases h) fun _ => ?_
  refine ifW_neg (by omega) (ifW_neg (by omega) ?_)
  exact newW_of fun b S1 _ _ he _ => hk b S1 he
theorem eq105 {S : St} {b o : Nat} : eqD E0 S 6 105 (.pointer (some ⟨b, o, none⟩)) (.pointer none) = some false := by kernel_rfl
abbrev holC (p : Int) : List Value := [.int .i64 p, .map none]
theorem s67 {S : St} {hb : Nat} {p : Int} (hat : At S hb (.cells (holC p) none false none)) {k : Value → St → Prop} (hk : ∀ S', Ext S S' → k (.int .i64 p) S') : WC E0 67 [.pointer (some ⟨hb, 0, none⟩)] S k := by
  refine w67 _ ?_
  unfold c67
  refine ⟨false, eq105, ?_⟩
  refine ifW_of (fun h => by cases h) fun _ => ?_
  refine ptrW_of (ptrW_of (evV_of (ty := tI) p (load_one hat (by kernel_rfl)) ?_))
  refine ptrW_of (ptrW_of (evV_of (ty := tM) (none : Option Nat) (load_one hat (by kernel_rfl)) ?_))
  refine ⟨some ⟨S.next, 0, none⟩, (S.alloc (.iter none 0 [] 0)).2, ?_, ?_⟩
  · simp only [rangeD, und106]; rfl
  have hit : At (S.alloc (.iter none 0 [] 0)).2 S.next (.iter none 0 [] 0) := alloc_at
  have he : Ext S (S.alloc (.iter none 0 [] 0)).2 := alloc_ext
  generalize (S.alloc (.iter none 0 [] 0)).2 = S1 at hit he
  refine loopW_ind (fun q (n : Int) S' => n = p ∧ S' = S1) (m := 0) ⟨rfl, rfl⟩ ?_
  rintro P q n S2 ⟨rfl, rfl⟩ hP
  refine .inl ⟨S2, ?_, hk _ he⟩
  simp only [nextD, hit.get]
theorem s24 {S : St} {hb : Nat} {p0 p : Int} (hat : At S hb (.cells (holC p0) none false none)) (h1 : 0 ≤ p) (h2 : p ≤ 15) {k : Value → St → Prop} (hk : ∀ t S', D.Mod (fun c => c = hb) S S' → k (.tuple #[.bool t, .int .i64 0]) S') : WC E0 24 [.pointer (some ⟨hb, 0, none⟩), .int .i64 p] S k := by
  refine w24 _ _ ?_
  unfold c24
  have hL : Hld (fun c => c = hb) S S [(hb, .cells (holC p0) none false none)] := ⟨Mod.refl _ _, fun q hq => by simp at hq; subst hq; exact ⟨hat, .inr rfl⟩, by simp⟩
  refine hL.new fun b1 S1 hL _ _ => ?_
  refine hL.new fun b2 S2 hL _ _ => ?_
  refine hL.ld 1 rfl (by kernel_rfl) (some ⟨hb, 0, none⟩ : Option Addr) rfl ?_
  refine ⟨false, eq105, ?_⟩
  refine ifW_of (fun h => by cases h) fun _ => ?_
  refine hL.ld 0 rfl (by kernel_rfl) p rfl ?_
  refine evC_of (w48 _ ?_)
  unfold c48
  refine ifW_pos (by omega) ⟨true, by rw [leI_eq, decide_eq_true (by omega)]; rfl, ?_⟩
  refine ifW_of (fun h => by cases h) fun _ => ?_
  refine hL.ld 1 rfl (by kernel_rfl) (some ⟨hb, 0, none⟩ : Option Addr) rfl ?_
  refine evC_of (w49 _ _ ?_)
  unfold c49
  refine evC_of (s67 (hL.at 2 rfl) fun S3 e3 => ⟨_, rfl, ?_⟩)
  have hL := hL.ext e3
  refine evY_func (evC_of (show WC E0 50 [.pointer (some ⟨b2, 0, none⟩), .pointer (some ⟨b1, 0, none⟩)] S3 _ from w50 _ _ ?_))
  unfold c50
  refine hL.ld 1 rfl (by kernel_rfl) (some ⟨hb, 0, none⟩ : Option Addr) rfl ?_
  refine hL.ld 0 rfl (by kernel_rfl) p rfl ?_
  refine ptrW_of (ptrW_of ?_)
  refine hL.st 2 _ rfl (by kernel_rfl) rfl (Nat.le_of_ble_eq_true rfl) rfl rfl fun S4 hL _ => ?_
  refine ⟨PUnit.unit, rfl, ?_⟩
  have hat4 : At S4 hb (.cells (holC p) none false none) := hL.at 2 rfl
  refine evC_of (s67 hat4 fun S5 e5 => ⟨_, rfl, ?_⟩)
  have hL := hL.ext e5
  exact ⟨_, rfl, hk _ _ hL.mod⟩
/-! ### The document's holder -/
abbrev intsC (l : List Int) : List Value := l.map (Value.int .i64)
theorem ints_set {l : List Int} {n : Nat} {v : Int} (h : n < l.length) : (intsC l).take n ++ ([Value.int .i64 v] ++ (intsC l).drop (n + 1)) = intsC (l.set n v) := by
  rw [set_take (by simpa using h)]
  exact List.map_set.symm
theorem ints_get {l : List Int} {n : Nat} (h : n < l.length) : (intsC l)[n]? = some (.int .i64 l[n]) := by
  rw [List.getElem?_map, List.getElem?_eq_getElem h]; rfl
theorem s28 {S : St} {k : Value → St → Prop} (hk : ∀ b l S', Ext S S' → S.next ≤ b → l.length = 65 → At S' b (.cells (intsC l) none false none) → k (.pointer (some ⟨b, 0, none⟩)) S') : WC E0 28 [] S k := by
  refine w28 ?_
  unfold c28
  have hL := Hld.start noB S
  refine hL.new fun b S1 hL hb _ => ?_
  refine loopW_ind (fun q (n : Int) S' => ∃ (i : Nat) (l : List Int), n = (i : Int) ∧ i ≤ 64 ∧ q = 64 - i ∧ l.length = 65 ∧ Hld noB S S' [(b, .cells (intsC l) none false none)]) (m := 64) ⟨0, List.replicate 65 0, rfl, by omega, rfl, by simp, hL⟩ ?_
  rintro P q n S2 ⟨i, l, rfl, hi, rfl, hl, hL⟩ hP
  refine ifW_dec (fun hlt => ?_) fun hlt => ?_
  · refine ptrW_of (ptrW_of ?_)
    refine idx_lit (by omega) (by omega) ?_
    refine hL.st 0 1 rfl (by kernel_rfl) rfl (by simp; omega) rfl (show _ = intsC (l.set (i + 1) (-1)) from ?_) fun S3 hL _ => ?_
    · show (intsC l).take (0 + 1 + (i : Int).toNat * 1) ++ ([Value.int .i64 (-1)] ++ (intsC l).drop (0 + 1 + (i : Int).toNat * 1 + 1)) = _
      rw [show 0 + 1 + (i : Int).toNat * 1 = i + 1 from by omega]
      exact ints_set (by omega)
    rw [wrap_succ (by omega)]
    exact hP _ _ _ (by omega) ⟨i + 1, _, rfl, by omega, rfl, by simpa using hl, hL⟩
  · exact hk b l S2 hL.mod (by omega) hl (hL.at 0 rfl)
theorem s54 {S : St} {b : Nat} {l : List Int} (hat : At S b (.cells (intsC l) none false none)) (hl : l.length = 65) {k : Value → St → Prop} (hk : ∀ n, k (.int .i64 n) S) : WC E0 54 [.pointer (some ⟨b, 0, none⟩)] S k := by
  refine w54 _ ?_
  unfold c54
  refine ptrW_of (ptrW_of (evV_of (ty := tI) l[0] ((load_one hat (by kernel_rfl)).trans (ints_get (by omega))) ?_))
  refine loopW_ind (fun q (x : Int × Int) S' => ∃ (i : Nat) (v : Int), x = (v, (i : Int)) ∧ i ≤ 64 ∧ q = 64 - i ∧ S' = S) (m := 64) ⟨0, _, rfl, by omega, rfl, rfl⟩ ?_
  rintro P q x S1 ⟨i, v, rfl, hi, rfl, rfl⟩ hP
  dsimp only
  refine ifW_dec (fun hlt => ?_) fun hlt => hk v
  have hld : loadV E0 S1 3 (.pointer (some ⟨b, 0 + 1 + (i : Int).toNat * 1, none⟩)) = some (.int .i64 l[i + 1]) := by
    rw [load_one hat (by kernel_rfl), show 0 + 1 + (i : Int).toNat * 1 = i + 1 from by omega]
    exact ints_get (by omega)
  refine ptrW_of (ptrW_of ?_)
  refine idx_lit (by omega) (by omega) (evV_of (ty := tI) l[i + 1] hld ?_)
  rw [wrap_succ (by omega)]
  refine ifW_of (fun _ => ?_) fun _ => ?_
  · refine ptrW_of (ptrW_of ?_)
    refine idx_lit (by omega) (by omega) (evV_of (ty := tI) l[i + 1] hld ?_)
    exact hP _ _ _ (by omega) ⟨i + 1, _, rfl, by omega, rfl, rfl⟩
  · exact hP _ _ _ (by omega) ⟨i + 1, _, rfl, by omega, rfl, rfl⟩
theorem s29 {S : St} {b : Nat} {l : List Int} (hat : At S b (.cells (intsC l) none false none)) (hl : l.length = 65) {p : Int} (h1 : 0 ≤ p) (h2 : p ≤ 15) {k : Value → St → Prop} (hk : ∀ t S', D.Mod (fun c => c = b) S S' → k (.tuple #[.bool t, .int .i64 0]) S') : WC E0 29 [.pointer (some ⟨b, 0, none⟩), .int .i64 p] S k := by
  refine w29 _ _ ?_
  unfold c29
  refine ifW_neg (by omega) (ifW_neg (by omega) ?_)
  refine evC_of (s54 hat hl fun n1 => ⟨n1, rfl, ?_⟩)
  refine ptrW_of (ptrW_of ?_)
  have hL : Hld (fun c => c = b) S S [(b, .cells (intsC l) none false none)] := ⟨Mod.refl _ _, fun q hq => by simp at hq; subst hq; exact ⟨hat, .inr rfl⟩, by simp⟩
  refine hL.st 0 1 rfl (by kernel_rfl) rfl (by simp; omega) rfl (show _ = intsC (l.set 0 p) from ints_set (n := 0) (by omega)) fun S2 hL _ => ?_
  have hat2 : At S2 b (.cells (intsC (l.set 0 p)) none false none) := hL.at 0 rfl
  exact evC_of (s54 hat2 (by simpa using hl) fun n2 => ⟨n2, rfl, hk _ _ hL.mod⟩)
end
end Go.Proofs.Ytgdijpcopdgapaa

/- Robots: the law. -/
namespace Go.Proofs.Ytgdijpcopdgapaa
open Go Go.Proofs.Ytgdijpcopdgapaa.D
set_option linter.unusedVariables false
set_option linter.unusedSimpArgs false
noncomputable section

def okN (c : Cfg) (self epoch : Int) : Prop := cfgOk c ∧ 0 ≤ self ∧ self < c.1 ∧ epoch ≠ 0
open Classical in
def newE (c : Cfg) (self epoch : Int) (N : Nat) (l : List Rc) : Int := if ¬ okN c self epoch then 200 else if ¬ clmOk l then 130 else if 16 < cntC l then 151 else if ¬ ledOk self c.1 (N : Int) l then 140 else 0
section
variable {c : Cfg} {self epoch : Int} {N : Nat} {l : List Rc}
theorem newE1 (h : ¬ okN c self epoch) : newE c self epoch N l = 200 := if_pos h
theorem newE2 (h : okN c self epoch) (h2 : ¬ clmOk l) : newE c self epoch N l = 130 := by unfold newE; rw [if_neg (not_not_intro h), if_pos h2]
theorem newE3 (h : okN c self epoch) (h2 : clmOk l) (h3 : 16 < cntC l) : newE c self epoch N l = 151 := by unfold newE; rw [if_neg (not_not_intro h), if_neg (not_not_intro h2), if_pos h3]
theorem newE4 (h : okN c self epoch) (h2 : clmOk l) (h3 : ¬ 16 < cntC l) (h4 : ¬ ledOk self c.1 (N : Int) l) : newE c self epoch N l = 140 := by unfold newE; rw [if_neg (not_not_intro h), if_neg (not_not_intro h2), if_neg h3, if_pos h4]
theorem newE0 (h : okN c self epoch) (h2 : clmOk l) (h3 : ¬ 16 < cntC l) (h4 : ledOk self c.1 (N : Int) l) : newE c self epoch N l = 0 := by unfold newE; rw [if_neg (not_not_intro h), if_neg (not_not_intro h2), if_neg h3, if_neg (not_not_intro h4)]
end
set_option maxHeartbeats 2000000 in
theorem s7 {S : St} {mb n cc : Nat} {sm s : Sl} {c : Cfg} {self epoch : Int} {l : List Rc} (hm : MapAt S mb n cc sm) (hn1 : 1 ≤ n) (hn2 : n ≤ 32) (hc1 : 1 ≤ cc) (hc2 : cc ≤ 32) (hr : RecsAt S s l) (hlen : l.length ≤ 1000) {k : Value → St → Prop}
    (hno : newE c self epoch (n * cc) l ≠ 0 → ∀ S', Ext S S' → k (.tuple #[.pointer none, .int .i64 (newE c self epoch (n * cc) l)]) S')
    (hok : newE c self epoch (n * cc) l = 0 → ∀ b cb bk st mp gl bn pr ak ps sl acc S', Ext S S' → At S' b (.cells (robC c (some ⟨mb, 0, none⟩) self epoch cb bk st mp gl bn pr ak ps) none false none) → At S' cb (.cells [.slice sl.a sl.len sl.cap] none false none) → OwC S' sl acc → sortC acc → (∀ x, x ∈ acc ↔ clmIn l x) → acc.length ≤ 16 → k (.tuple #[.pointer (some ⟨b, 0, none⟩), .int .i64 0]) S') :
    WC E0 7 [.int .i64 self, .pointer (some ⟨mb, 0, none⟩), sv G25 c, .int .u32 epoch, .slice s.a s.len s.cap] S k := by
  refine w7 _ _ _ _ s ?_
  unfold c7
  have hL := Hld.start noB S
  refine hL.new fun b1 S1 hL _ _ => ?_
  refine ⟨false, eq29, ?_⟩
  refine ifW_of (fun h => by cases h) fun _ => ?_
  refine hL.lda 0 rfl (by kernel_rfl) c rfl ?_
  refine evC_of (s6 fun n1 S2 e2 hcfg => ⟨n1, rfl, ?_⟩)
  have hL := hL.ext e2
  have no200 : ¬ okN c self epoch → ∀ S', Ext S S' → k (.tuple #[.pointer none, .int .i64 200]) S' := fun h S' e => by
    have := hno (by rw [newE1 h]; decide) S' e
    rw [newE1 h] at this
    exact this
  refine ifW_ndec (fun h => no200 (fun hh => h (hcfg.2 hh.1)) _ hL.mod) fun h => ?_
  have hc := hcfg.1 h
  refine ifW_dec (fun h => no200 (fun hh => by have := hh.2.1; omega) _ hL.mod) fun h0 => ?_
  refine ptrW_of ?_
  refine hL.ld 0 rfl (by kernel_rfl) c.1 rfl ?_
  refine ifW_dec (fun h => no200 (fun hh => by have := hh.2.2.1; omega) _ hL.mod) fun h1 => ?_
  refine ifW_dec (fun h => no200 (fun hh => hh.2.2.2 h) _ hL.mod) fun h2 => ?_
  have hokN : okN c self epoch := ⟨hc, by omega, by omega, h2⟩
  have hat1 : At S2 b1 (.cells (cfgC c) none false none) := hL.at 0 rfl
  refine evC_of (s19 (hr.ext hL.mod) hlen (fun hh S3 e3 => ⟨(none, 130), rfl, ?_⟩) (fun hh h16 S3 e3 => ⟨(none, 151), rfl, ?_⟩) fun hh h16 cb sl acc S3 e3 hatc how hso hmem hacc => ⟨(some ⟨cb, 0, none⟩, 0), rfl, ?_⟩)
  · refine ifW_ndec (fun _ => ?_) fun h => absurd h (by decide)
    have := hno (by rw [newE2 hokN hh]; decide) S3 (hL.mod.tr e3)
    rw [newE2 hokN hh] at this
    exact this
  · refine ifW_ndec (fun _ => ?_) fun h => absurd h (by decide)
    have := hno (by rw [newE3 hokN hh h16]; decide) S3 (hL.mod.tr e3)
    rw [newE3 hokN hh h16] at this
    exact this
  refine ifW_ndec (fun h => absurd rfl h) fun _ => ?_
  have he3 : Ext S S3 := hL.mod.tr e3
  have hat1 := e3.at hat1
  have hm3 := he3.at hm
  refine ptrW_of (evV_of (ty := tI) c.1 (load_one hat1 (by kernel_rfl)) ?_)
  refine evC_of (s21 hm3 hn1 hn2 hc2 ⟨_, rfl, ?_⟩)
  refine evV_of (ty := tI) c.1 (load_one hat1 (by kernel_rfl)) ?_
  refine sameV_of ?_
  have hmul := mul_le_1024 hn2 hc2
  have hmul1 : 1 ≤ n * cc := Nat.mul_pos hn1 hc1
  have hargs : argsL self c.1 ((n * cc : Nat) : Int) := ⟨hc.1, hc.2.1, by omega, by omega, by omega, by omega⟩
  refine evC_of (s20 (hr.ext he3) hlen hargs (fun hled S4 e4 => ⟨(none, 140), rfl, ?_⟩) fun hled bk S5 e5 => ⟨(some ⟨bk, 0, none⟩, 0), rfl, ?_⟩)
  · refine ifW_ndec (fun _ => ?_) fun h => absurd h (by decide)
    have := hno (by rw [newE4 hokN hh h16 hled]; decide) S4 (he3.tr e4)
    rw [newE4 hokN hh h16 hled] at this
    exact this
  refine ifW_ndec (fun h => absurd rfl h) fun _ => ?_
  have hM := (Hld.start noB S3).ext e5
  refine hM.new fun b6 S6 hM _ _ => ?_
  refine hM.new fun b7 S7 hM _ _ => ?_
  refine hM.new fun b8 S8 hM hb8 _ => ?_
  refine hM.new fun b9 S9 hM _ _ => ?_
  refine hM.new fun b10 S10 hM _ _ => ?_
  refine evV_of (ty := .one (.agg G25)) c (load_agg (n := 6) (Ext.at hM.mod hat1) (by kernel_rfl) rfl rfl) ?_
  refine evC_of (s22 fun st S11 e11 => ⟨_, rfl, ?_⟩)
  have hM := hM.ext e11
  refine evV_of (ty := .one (.agg G25)) c (load_agg (n := 6) (Ext.at hM.mod hat1) (by kernel_rfl) rfl rfl) ?_
  refine sameV_of ⟨rfl, ⟨rfl, ?_⟩⟩
  have h8lt : b8 < S11.next := (show At S11 b8 (.cells (holC 0) none false none) from hM.at 2 rfl).lt
  refine hM.new fun b11 S12 hM hb11 _ => ?_
  refine ptrW_of (evV_of (ty := tI) c.2.1 (load_one (Ext.at hM.mod hat1) (by kernel_rfl)) ?_)
  refine evC_of (s23 hc.2.2.1 hc.2.2.2.1 fun gl S13 e13 => ⟨(some ⟨gl, 0, none⟩, 0), rfl, ?_⟩)
  have hM := hM.ext e13
  refine ptrW_of (ptrW_of ?_)
  refine hM.st 0 1 rfl (by kernel_rfl) rfl (Nat.le_of_ble_eq_true rfl) rfl rfl fun S14 hM _ => ?_
  refine ptrW_of (ptrW_of ?_)
  refine hM.ld 0 rfl (by kernel_rfl) (some ⟨b8, 0, none⟩ : Option Addr) rfl ?_
  refine ptrW_of (evV_of (ty := tI) c.2.2.1 (load_one (Ext.at hM.mod hat1) (by kernel_rfl)) ?_)
  have hat8 : At S14 b8 (.cells (holC 0) none false none) := hM.at 3 rfl
  refine evC_of (s24 hat8 hc.2.2.2.2.1 hc.2.2.2.2.2.1 fun t S15 m15 => ⟨(t, 0), rfl, ?_⟩)
  have hb8n : S3.next ≤ b8 := (hM.all _ (List.mem_of_getElem? (show _ = some (b8, _) from rfl : ([_, _, _, (b8, _), _, _] : List (Nat × DObj))[3]? = some (b8, _)))).2.elim id fun h => h.elim
  have he15 : Ext S3 S15 := Mod.ext hM.mod m15 fun c hc => by subst hc; exact hb8n
  have hat11 : At S14 b11 (.cells (robC c (some ⟨mb, 0, none⟩) self epoch cb bk st b6 (some ⟨gl, 0, none⟩) b7 b8 b9 b10) none false none) := hM.at 0 rfl
  refine hok (newE0 hokN hh h16 hled) b11 cb bk st b6 (some ⟨gl, 0, none⟩) b7 b8 b9 b10 sl acc S15 (he3.tr he15) (m15.at hat11 ?_) (he15.at hatc) (OwC.frm _ _ _ he15.kp (fun _ _ h => h) how) hso hmem hacc
  intro h
  omega
set_option maxHeartbeats 2000000 in
theorem s8 {S : St} {mb : Nat} {sm s : Sl} {rows : List (List UInt8)} {c : Cfg} {self epoch : Int} {l : List Rc} (hatm : At S mb (.cells [.slice sm.a sm.len sm.cap] none false none)) (hsm : SlOf strC 1 S sm rows) (hmo : mapOk rows) (hr : RecsAt S s l) (hlen : l.length ≤ 1000) (hc0 : 0 ≤ c.2.2.2.1) {k : Value → St → Prop}
    (hno : newE c self epoch (rows.length * hdL rows) l ≠ 0 → ∀ S', Ext S S' → k (.tuple #[.pointer none, .int .i64 (newE c self epoch (rows.length * hdL rows) l)]) S')
    (hok : newE c self epoch (rows.length * hdL rows) l = 0 → ∀ b cb cs F G S', Ext S S' → At S' b (.cells cs none false none) → cs[9]? = some (.pointer (some ⟨cb, 0, none⟩)) → At S' cb (.cells (kC F G) none false none) → (∀ x, rowIn F G x ↔ clmIn l x) → k (.tuple #[.pointer (some ⟨b, 0, none⟩), .int .i64 0]) S') :
    WC E0 8 [.int .i64 self, .pointer (some ⟨mb, 0, none⟩), sv G25 c, .int .u32 epoch, .slice s.a s.len s.cap] S k := by
  refine w8 _ _ _ _ s ?_
  unfold c8
  have hL := Hld.start noB S
  refine hL.new fun b1 S1 hL _ _ => ?_
  refine hL.lda 0 rfl (by kernel_rfl) c rfl ?_
  refine evC_of (s9 hc0 fun t1 S2 e2 hcfg => ⟨t1, rfl, ?_⟩)
  have hL := hL.ext e2
  have no200 : ¬ okN c self epoch → ∀ S', Ext S S' → k (.tuple #[.pointer none, .int .i64 200]) S' := fun h S' e => by
    have := hno (by rw [newE1 h]; decide) S' e
    rw [newE1 h] at this
    exact this
  refine ifW_of (fun h => no200 (fun hh => by rw [hcfg.2 hh.1] at h; cases h) _ hL.mod) fun h => ?_
  have hc := hcfg.1 (by simpa using h)
  refine ifW_dec (fun h => no200 (fun hh => by have := hh.2.1; omega) _ hL.mod) fun h0 => ?_
  refine ptrW_of ?_
  refine hL.ld 0 rfl (by kernel_rfl) c.1 rfl ?_
  refine ifW_dec (fun h => no200 (fun hh => by have := hh.2.2.1; omega) _ hL.mod) fun h1 => ?_
  refine ifW_dec (fun h => no200 (fun hh => hh.2.2.2 h) _ hL.mod) fun h2 => ?_
  have hokN : okN c self epoch := ⟨hc, by omega, by omega, h2⟩
  have hat1 : At S2 b1 (.cells (cfgC c) none false none) := hL.at 0 rfl
  refine evC_of (s25 (hr.ext hL.mod) hlen (fun hh S3 e3 => ⟨(none, 130), rfl, ?_⟩) (fun hh h16 S3 e3 => ⟨(none, 151), rfl, ?_⟩) fun hh h16 cb F G S3 e3 hatc hmem => ⟨(some ⟨cb, 0, none⟩, 0), rfl, ?_⟩)
  · refine ifW_ndec (fun _ => ?_) fun h => absurd h (by decide)
    have := hno (by rw [newE2 hokN hh]; decide) S3 (hL.mod.tr e3)
    rw [newE2 hokN hh] at this
    exact this
  · refine ifW_ndec (fun _ => ?_) fun h => absurd h (by decide)
    have := hno (by rw [newE3 hokN hh h16]; decide) S3 (hL.mod.tr e3)
    rw [newE3 hokN hh h16] at this
    exact this
  refine ifW_ndec (fun h => absurd rfl h) fun _ => ?_
  have he3 : Ext S S3 := hL.mod.tr e3
  have hat1 := e3.at hat1
  refine ptrW_of (evV_of (ty := tI) c.1 (load_one hat1 (by kernel_rfl)) ?_)
  refine evC_of (s27 (he3.at hatm) (he3.slOf hsm) hmo ⟨_, rfl, ?_⟩)
  refine evV_of (ty := tI) c.1 (load_one hat1 (by kernel_rfl)) ?_
  refine sameV_of ?_
  have hmul := mul_le_1024 hmo.2.1 hmo.2.2.2
  have hmul1 : 1 ≤ rows.length * hdL rows := Nat.mul_pos (List.length_pos_iff.2 hmo.1) hmo.2.2.1
  have hargs : argsL self c.1 ((rows.length * hdL rows : Nat) : Int) := ⟨hc.1, hc.2.1, by omega, by omega, by omega, by omega⟩
  refine evC_of (s26 (hr.ext he3) hlen hargs (fun hled S4 e4 => ⟨(none, 140), rfl, ?_⟩) fun hled bk S5 e5 => ⟨(some ⟨bk, 0, none⟩, 0), rfl, ?_⟩)
  · refine ifW_ndec (fun _ => ?_) fun h => absurd h (by decide)
    have := hno (by rw [newE4 hokN hh h16 hled]; decide) S4 (he3.tr e4)
    rw [newE4 hokN hh h16 hled] at this
    exact this
  refine ifW_ndec (fun h => absurd rfl h) fun _ => ?_
  refine evC_of (s28 fun pb pl S6 e6 hpb hpl hatp => ⟨_, rfl, ?_⟩)
  have he6 : Ext S3 S6 := e5.tr e6
  refine ptrW_of (evV_of (ty := tI) c.2.2.1 (load_one (he6.at hat1) (by kernel_rfl)) ?_)
  refine evC_of (s29 hatp hpl hc.2.2.2.2.1 hc.2.2.2.2.2.1 fun t S7 m7 => ⟨(t, 0), rfl, ?_⟩)
  have he7 : Ext S3 S7 := he6.ext m7 fun q hq => by have := e5.next; omega
  have hM := (Hld.start noB S3).ext he7
  refine evV_of (ty := .one (.agg G25)) c (load_agg (n := 6) (Ext.at hM.mod hat1) (by kernel_rfl) rfl rfl) ?_
  refine hM.new fun b8 S8 hM _ _ => ?_
  refine ptrW_of (evV_of (ty := tI) c.2.1 (load_one (Ext.at hM.mod hat1) (by kernel_rfl)) ?_)
  refine hM.new fun b11 S9 hM _ _ => ?_
  refine hM.new fun b12 S10 hM _ _ => ?_
  refine hM.new fun b13 S11 hM _ _ => ?_
  exact hok (newE0 hokN hh h16 hled) b13 cb _ F G S11 (he3.tr hM.mod) (hM.at 0 rfl) rfl (Ext.at hM.mod hatc) hmem
/-- Both lists of claims are the same. -/
theorem claims_same {l : List Rc} {acc acc' : List Clm} {F : Nat → Bool} {G : Nat → Int} (h1 : sortC acc) (h2 : ∀ x, x ∈ acc ↔ clmIn l x) (h3 : ∀ x, rowIn F G x ↔ clmIn l x) (h4 : sortC acc') (h5 : ∀ x, x ∈ acc' ↔ rowIn F G x) : acc' = acc :=
  sort_same h4 h1 fun c => by rw [h5, h3, h2]
set_option maxHeartbeats 2000000 in
theorem s3 {S : St} {s : Sl} {t : List UInt8} {c : Cfg} {self epoch : Int} {l : List Rc} (hr : RecsAt S s l) (hc0 : 0 ≤ c.2.2.2.1) {k : Value → St → Prop} (hk : ∀ S', k (.bool true) S') :
    WC E0 3 [.int .i64 self, strV t, sv G25 c, .int .u32 epoch, .slice s.a s.len s.cap] S k := by
  refine w3 _ _ _ _ s ?_
  unfold c3
  have hsl := hr.sl.len
  have hL := Hld.start noB S
  refine hL.new fun b1 S1 hL _ _ => ?_
  refine ifW_dec (fun _ => hk _) fun h100 => ?_
  refine ifW_dec (fun _ => hk _) fun h60 => ?_
  have ht : t.length ≤ 100000 := by omega
  have hlen : l.length ≤ 1000 := by omega
  refine evC_of (s4 ht (fun hp n1 n2 S2 e2 => ⟨(none, n1, n2, 10), rfl, ?_⟩) fun rows hp mb sm S2 e2 hm => ⟨(some ⟨mb, 0, none⟩, 0, 0, 0), rfl, ?_⟩)
  · refine evC_of (s5 ht (fun hp' m1 m2 S3 e3 => ⟨(none, m1, m2, 10), rfl, ?_⟩) fun rows hp' => by rw [hp] at hp'; cases hp')
    refine ifW_ndec (fun _ => ?_) fun h => absurd h (by dsimp only; decide)
    show k (.bool (eqI 10 10)) S3
    rw [eqI_eq, decide_eq_true rfl]
    exact hk _
  refine evC_of (s5 ht (fun hp' => by rw [hp] at hp'; cases hp') fun rows' hp' db ds S3 e3 hatd hsd => ⟨(some ⟨db, 0, none⟩, 0, 0, 0), rfl, ?_⟩)
  rw [hp] at hp'
  cases hp'
  have hmo := parP_ok hp
  refine ifW_ndec (fun h => absurd rfl h) fun _ => ?_
  refine ifW_ndec (fun h => absurd rfl h) fun _ => ?_
  have hL := (hL.ext e2).ext e3
  have hm3 := e3.at hm
  refine ptrW_of ?_
  refine hL.ld 0 rfl (by kernel_rfl) c.1 rfl ?_
  refine ptrW_of ?_
  refine hL.ld 0 rfl (by kernel_rfl) c.2.1 rfl ?_
  refine ptrW_of ?_
  refine hL.ld 0 rfl (by kernel_rfl) c.2.2.1 rfl ?_
  refine ptrW_of (ptrW_of ?_)
  refine hL.ld 0 rfl (by kernel_rfl) c.2.2.2.1 rfl ?_
  refine ptrW_of (ptrW_of ?_)
  refine hL.ld 0 rfl (by kernel_rfl) c.2.2.2.2.1 rfl ?_
  refine ptrW_of ?_
  refine hL.ld 0 rfl (by kernel_rfl) c.2.2.2.2.2 rfl ?_
  have hS3 : Ext S S3 := hL.mod
  have hM := Hld.start noB S3
  have hat1 : At S3 b1 (.cells (cfgC c) none false none) := hL.at 0 rfl
  refine hM.new fun b18 S4 hM _ _ => ?_
  refine hM.st 0 6 rfl (by kernel_rfl) rfl (Nat.le_of_ble_eq_true rfl) rfl rfl fun S5 hM _ => ?_
  have hat18 : At S5 b18 (.cells (cfgC c) none false none) := hM.at 0 rfl
  have he5 : Ext S3 S5 := hM.mod
  refine evV_of (ty := .one (.agg G25)) c (load_agg (n := 6) (he5.at hat1) (by kernel_rfl) rfl rfl) ?_
  refine evC_of (s6 fun g S6 e6 hg => ⟨g, rfl, ?_⟩)
  have he6 : Ext S3 S6 := he5.tr e6
  refine evV_of (ty := .one (.agg G25)) c (load_agg (n := 6) (he6.at hat1) (by kernel_rfl) rfl rfl) ?_
  have hle := hmo.2.1
  have he9 : ∀ {g t1} {S9 : St}, (g = 0 ↔ cfgOk c) → (t1 = true ↔ cfgOk c) → eqD E0 S9 6 4 (.bool (eqI g 0)) (.bool t1) = some true := fun {g t1 S9} h1 h2 => by
    have e : eqD E0 S9 6 4 (.bool (eqI g 0)) (.bool t1) = some (eqI g 0 == t1) := by kernel_rfl
    rw [e, eqI_eq]
    by_cases hc : cfgOk c
    · rw [decide_eq_true (h1.2 hc), h2.2 hc]; rfl
    · have : t1 = false := by
        cases t1 with
        | false => rfl
        | true => exact (hc (h2.1 rfl)).elim
      rw [decide_eq_false fun h => hc (h1.1 h), this]; rfl
  have hmm : MapAt S6 mb rows.length (hdL rows) sm := (e3.tr he6).at hm
  refine evC_of (s7 (self := self) (epoch := epoch) hmm (List.length_pos_iff.2 hmo.1) hmo.2.1 hmo.2.2.1 hmo.2.2.2 (hr.ext (hS3.tr he6)) hlen (fun hE S7 e7 => ⟨(none, newE c self epoch (rows.length * hdL rows) l), rfl, ?_⟩) fun hE rb cb bk st mp gl bn pr ak ps sl acc S7 e7 hatr hatc how hso hmem hacc => ⟨(some ⟨rb, 0, none⟩, 0), rfl, ?_⟩)
  · refine evV_of (ty := .one (.agg G25)) c (load_agg (n := 6) ((e6.tr e7).at hat18) (by kernel_rfl) rfl rfl) ?_
    refine evC_of (s8 (self := self) (epoch := epoch) ((he6.tr e7).at hatd) ((he6.tr e7).slOf hsd) hmo (hr.ext ((hS3.tr he6).tr e7)) hlen hc0 (fun _ S8 e8 => ⟨(none, newE c self epoch (rows.length * hdL rows) l), rfl, ?_⟩) fun hE' => (hE hE').elim)
    refine evV_of (ty := .one (.agg G25)) c (load_agg (n := 6) (((e6.tr e7).tr e8).at hat18) (by kernel_rfl) rfl rfl) ?_
    refine evC_of (s9 hc0 fun t1 S9 e9 ht1 => ⟨t1, rfl, ?_⟩)
    refine ⟨true, he9 hg ht1, ?_⟩
    refine ifW_of (fun h => by cases h) fun _ => ?_
    refine ifW_ndec (fun h => absurd rfl h) fun _ => ?_
    refine ⟨true, by kernel_rfl, ?_⟩
    generalize newE c self epoch (rows.length * hdL rows) l = E at hE ⊢
    have e4 : eqI E 0 = false := by rw [eqI_eq]; exact decide_eq_false hE
    dsimp only
    rw [e4]
    refine ⟨true, by kernel_rfl, ?_⟩
    refine ifW_of (fun h => by cases h) fun _ => ?_
    refine ifW_of (fun _ => hk _) fun h => by cases h
  · refine evV_of (ty := .one (.agg G25)) c (load_agg (n := 6) ((e6.tr e7).at hat18) (by kernel_rfl) rfl rfl) ?_
    refine evC_of (s8 (self := self) (epoch := epoch) ((he6.tr e7).at hatd) ((he6.tr e7).slOf hsd) hmo (hr.ext ((hS3.tr he6).tr e7)) hlen hc0 (fun hE' => (hE' hE).elim) fun _ rb2 cb2 cs2 F G S8 e8 hatr2 hcs2 hatc2 hmem2 => ⟨(some ⟨rb2, 0, none⟩, 0), rfl, ?_⟩)
    refine evV_of (ty := .one (.agg G25)) c (load_agg (n := 6) (((e6.tr e7).tr e8).at hat18) (by kernel_rfl) rfl rfl) ?_
    refine evC_of (s9 hc0 fun t1 S9 e9 ht1 => ⟨t1, rfl, ?_⟩)
    refine ⟨true, he9 hg ht1, ?_⟩
    refine ifW_of (fun h => by cases h) fun _ => ?_
    refine ifW_ndec (fun h => absurd rfl h) fun _ => ?_
    refine ⟨false, eq39, ?_⟩
    have e0 : eqI 0 0 = true := by rw [eqI_eq]; exact decide_eq_true rfl
    dsimp only
    rw [e0]
    refine ⟨true, by kernel_rfl, ?_⟩
    refine ifW_of (fun h => by cases h) fun _ => ?_
    refine ifW_of (fun h => by cases h) fun _ => ?_
    have e79 : Ext S7 S9 := e8.tr e9
    refine evC_of (s11 (e79.at hatr) (e79.at hatc) (OwC.frm _ _ _ e79.kp (fun _ _ h => h) how) (by omega) fun s1 S10 e10 hs1 => ⟨s1, rfl, ?_⟩)
    refine ptrW_of (ptrW_of ?_)
    refine evV_of (ty := tP) (some ⟨cb2, 0, none⟩) ((load_one ((e9.tr e10).at hatr2) (by kernel_rfl)).trans hcs2) ?_
    refine evV_of (ty := tP) (some ⟨cb2, 0, none⟩) ((load_one (e9.at hatr2) (by kernel_rfl)).trans hcs2) ?_
    refine sameV_of ?_
    refine evC_of (s12 ((e9.tr e10).at hatc2) fun s2 acc2 S11 e11 hs2 hl2 hso2 hm2 => ⟨s2, rfl, ?_⟩)
    have hsame := claims_same hso hmem hmem2 hso2 hm2
    subst hsame
    exact evC_of (s10 (e11.slOf hs1) hs2 (by omega) ⟨true, rfl, hk _⟩)
end
end Go.Proofs.Ytgdijpcopdgapaa
