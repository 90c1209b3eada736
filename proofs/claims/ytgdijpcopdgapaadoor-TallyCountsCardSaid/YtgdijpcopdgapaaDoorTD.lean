/- Parts of the proof, put together. -/
import Derived.Test.YtgdijpcopdgapaaDoorTC
import Derived.Test.YtgdijpcopdgapaaDoorCC
import Derived.Test.YtgdijpcopdgapaaDoorCB
/- Tally: a packet's bytes, as the document writes them. -/
namespace Go.Proofs.YtgdijpcopdgapaaDoor
open Go Go.Proofs.YtgdijpcopdgapaaDoor.D
set_option linter.unusedVariables false
set_option linter.unusedSimpArgs false
noncomputable section

def hdB (h : Hd) : List UInt8 := [UInt8.ofNat h.1.toNat, UInt8.ofNat h.2.1.toNat] ++ nb h.2.2.1.toNat 4 ++ nb h.2.2.2.1.toNat 4 ++ nb h.2.2.2.2.1.toNat 4 ++ nb h.2.2.2.2.2.toNat 4
def clB (c : Clm) : List UInt8 := nb c.1.toNat 2 ++ nb c.2.toNat 4
def fb (m : Ms) (cl : List Clm) (f : Int) : List UInt8 :=
  if f = 1 then nb m.2.1.toNat 2 else if f = 2 then nb m.2.2.1.toNat 4 else if f = 3 then nb m.2.2.2.1.toNat 8 else if f = 4 then [UInt8.ofNat m.2.2.2.2.1.toNat] else if f = 5 then [UInt8.ofNat m.2.2.2.2.2.1.toNat]
  else if f = 6 then [UInt8.ofNat m.2.2.2.2.2.2.1.toNat] else if f = 7 then [UInt8.ofNat ((m.2.2.2.2.2.2.2 + 256) % 256).toNat] else UInt8.ofNat cl.length :: cl.flatMap clB
def encP (h : Hd) (m : Ms) (cl : List Clm) : List UInt8 := hdB h ++ [UInt8.ofNat m.1.toNat] ++ (fldK m.1).flatMap (fb m cl)
def wdH (h : Hd) : Prop := (0 ≤ h.2.2.1 ∧ h.2.2.1 < 4294967296) ∧ (0 ≤ h.2.2.2.1 ∧ h.2.2.2.1 < 4294967296) ∧ (0 ≤ h.2.2.2.2.1 ∧ h.2.2.2.2.1 < 4294967296) ∧ (0 ≤ h.2.2.2.2.2 ∧ h.2.2.2.2.2 < 4294967296)
def wdM (m : Ms) (cl : List Clm) : Prop := (0 ≤ m.2.2.1 ∧ m.2.2.1 < 4294967296) ∧ (0 ≤ m.2.2.2.1 ∧ m.2.2.2.1 < 18446744073709551616) ∧ ∀ c ∈ cl, 0 ≤ c.2 ∧ c.2 < 4294967296
/-- Boxes, and own bytes that grow. -/
structure CB (S0 S : St) (L : List (Nat × DObj)) (s : Sl) (l : List UInt8) : Prop where
  cx : Cx noB S0 S L (slO s) (fun S' => GB S' s l)
  own : ∀ c, slO s c → S0.next ≤ c
theorem CB.start {S : St} : CB S S [] ⟨none, 0, 0⟩ [] := ⟨Cx.start noB GB.nil GB.frm fun c hc => GB.lt (GB.nil (S := S)) hc, fun c hc => by obtain ⟨o, hc⟩ := hc; cases hc⟩
section
variable {S0 S : St} {L : List (Nat × DObj)} {s : Sl} {l : List UInt8}
theorem CB.ext (h : CB S0 S L s l) {S' : St} (e : Ext S S') : CB S0 S' L s l := ⟨h.cx.ext e, h.own⟩
theorem CB.tl (h : CB S0 S L s l) (n : Nat) : CB S0 S (L.drop n) s l := ⟨h.cx.tl n, h.own⟩
theorem CB.new (h : CB S0 S L s l) {o : DObj} {k : Nat → St → Prop} (hk : ∀ b S', CB S0 S' ((b, o) :: L) s l → k b S') : newW S o k := h.cx.new fun b S' hL _ _ => hk b S' ⟨hL, h.own⟩
theorem CB.app (h : CB S0 S L s l) {x : Value} {v : List UInt8} (hn : lenOfD x = some v.length) (hx : firstD S 1 v.length x = some (v.map byV)) (hv : v ≠ []) (hl : l.length + v.length ≤ 1000000)
    {k : Sl → St → Prop} (hk : ∀ s' S', CB S0 S' L s' (l ++ v) → k s' S') : evP tS (appendD E0 S 36 36 (.slice s.a s.len s.cap) x) k :=
  h.cx.p.append und36 rfl hn hx hv (by omega) fun s' S' g m hs => hk s' S' ⟨h.cx.op m (fun _ h => h) (fun c hc hlt => by have := h.own c hc; omega) g GB.frm hs fun c hc => g.lt hc, fun c hc => by
    rcases hs c hc with hc | hc
    · exact h.own c hc
    · exact Nat.le_trans h.cx.mod.next hc⟩
theorem CB.num (h : CB S0 S L s l) {n mi : Int} {m : Nat} (hmi : mi = (m : Int)) (hm : m = 2 ∨ m = 4 ∨ m = 8) (h0 : 0 ≤ n) (h1 : n < 18446744073709551616) (hl : l.length ≤ 100000)
    {k : Sl → St → Prop} (hk : ∀ s' S', CB S0 S' L s' (l ++ nb n.toNat m) → k s' S') : evC E0 tS 44 [.int .u64 n, .int .i64 mi] S fun s1 S4 => evP tS (appendD E0 S4 36 36 (.slice s.a s.len s.cap) (.slice s1.a s1.len s1.cap)) k := by
  subst hmi
  have := s44 (n := n.toNat) (m := m) (S := S) (k := fun v S' => ∃ x : Sl, v = tS.enc x ∧ evP tS (appendD E0 S' 36 36 (.slice s.a s.len s.cap) (.slice x.a x.len x.cap)) k) hm (by omega) fun s1 S1 e hb hlen hsp => ⟨s1, rfl, ?_⟩
  · rw [show ((n.toNat : Nat) : Int) = n from by omega] at this
    exact evC_of this
  · refine (h.ext e).app (v := nb n.toNat m) (by show some s1.len = _; rw [nb_len, hlen]) (first_nb hb hsp) (fun hh => ?_) (by rw [nb_len]; omega) hk
    have := congrArg List.length hh
    rw [nb_len] at this
    simp at this
    omega
theorem CB.numw (h : CB S0 S L s l) {n mi : Int} {m : Nat} (hmi : mi = (m : Int)) (hm : m = 2 ∨ m = 4 ∨ m = 8) (h0 : 0 ≤ n) (h1 : n < 18446744073709551616) (hl : l.length ≤ 100000)
    {k : Sl → St → Prop} (hk : ∀ s' S', CB S0 S' L s' (l ++ nb n.toNat m) → k s' S') : evC E0 tS 44 [.int .u64 (wrapI .u64 n), .int .i64 mi] S fun s1 S4 => evP tS (appendD E0 S4 36 36 (.slice s.a s.len s.cap) (.slice s1.a s1.len s1.cap)) k := by
  rw [wrap_u64 h0 h1]
  exact h.num hmi hm h0 h1 hl hk
theorem CB.byte (h : CB S0 S L s l) {n : Int} (h0 : 0 ≤ n) (h1 : n < 256) (hl : l.length ≤ 100000)
    {k : Sl → St → Prop} (hk : ∀ s' S', CB S0 S' L s' (l ++ [UInt8.ofNat n.toNat]) → k s' S') : newW S (.cells [.int .u8 (wrapI .u8 n)] none false none) fun b S1 => evP tS (appendD E0 S1 36 36 (.slice s.a s.len s.cap) (.slice (some ⟨b, 0, none⟩) 1 1)) k := by
  have e : Value.int .u8 (wrapI .u8 n) = byV (UInt8.ofNat n.toNat) := by
    rw [wrap_u8 h0 h1, ← by_ofNat (n := n.toNat) (by omega), show ((n.toNat : Nat) : Int) = n from by omega]
  rw [e]
  refine h.new fun b S1 hB => ?_
  exact hB.app (v := [UInt8.ofNat n.toNat]) rfl (first_box (hB.cx.at 0 rfl)) (by simp) (by simp; omega) fun s' S' hB => hk s' S' (hB.tl 1)
end
theorem hdB_len (h : Hd) : (hdB h).length = 18 := by simp [hdB, nb_len]
theorem clB_len (cl : List Clm) : (cl.flatMap clB).length = 6 * cl.length := by
  induction cl with
  | nil => rfl
  | cons c cl ih => rw [List.flatMap_cons, List.length_append, ih]; simp [clB, nb_len]; omega
theorem fb_len {m : Ms} {cl : List Clm} {f : Int} : (fb m cl f).length ≤ 8 + 6 * cl.length := by
  unfold fb
  repeat' split
  all_goals simp only [List.length_cons, List.length_nil, nb_len, clB_len]
  all_goals omega
theorem fbs_len {m : Ms} {cl : List Clm} (hl : cl.length ≤ 1000) : ∀ L : List Int, L.length ≤ 5 → (L.flatMap (fb m cl)).length ≤ L.length * 6008 := by
  intro L
  induction L with
  | nil => intro _; simp
  | cons f L ih =>
    intro h
    have h1 := ih (by simp at h; omega)
    have := fb_len (m := m) (cl := cl) (f := f)
    rw [List.flatMap_cons, List.length_append, List.length_cons]
    omega
theorem fld_len (k : Int) (h : 1 ≤ k ∧ k ≤ 11) : (fldK k).length ≤ 5 := by
  rcases kind_case h.1 h.2 with rfl | rfl | rfl | rfl | rfl | rfl | rfl | rfl | rfl | rfl | rfl <;> decide
theorem cells_pv (h : Hd) (m : Ms) (s : Sl) : cellsH h ++ cellsM m s = cellsH h ++ cellsM m s := rfl
/-- Bytes and their complements, one by one. -/
theorem dbl_loop {S : St} {b : Sl} {B : List UInt8} (hb : Bs S b B) (hl : B.length ≤ 100000) {k : Value → St → Prop} (hk : ∀ s S', Ext S S' → GB S' s (dbl B) → k (.tuple #[.slice s.a s.len s.cap, .int .i64 0]) S') :
    loopW
      (fun (k3 : Sl × Int → St → Prop) (x5 : Sl × Int) (S39 : St) =>
        ifW (ltI x5.2 (↑b.len : Int))
          (idxW b.a b.len x5.2 fun (b58 b59 : Nat) =>
            evV tU8 (loadV E0 S39 5 (.pointer (some ⟨b58, b59 + Int.toNat x5.2 * 1, none⟩))) fun (n19 : Int) =>
              idxW b.a b.len x5.2 fun (b60 b61 : Nat) =>
                evV tU8 (loadV E0 S39 5 (.pointer (some ⟨b60, b61 + Int.toNat x5.2 * 1, none⟩))) fun (n20 : Int) =>
                  newW S39 (.cells [.int .u8 n19, .int .u8 (wrapI .u8 (255 - n20))] none false none)
                    fun (b62 : Nat) (S40 : St) =>
                    evP tS (appendD E0 S40 36 36 (.slice x5.1.a x5.1.len x5.1.cap) (.slice (some ⟨b62, 0, none⟩) 2 2))
                      fun (s29 : Sl) (S41 : St) => k3 ({ a := s29.a, len := s29.len, cap := s29.cap }, wrapI .i64 (x5.2 + 1)) S41)
          (k (.tuple #[.slice x5.1.a x5.1.len x5.1.cap, .int .i64 0]) S39))
      ({ a := none, len := 0, cap := 0 }, 0) S := by
  have hbl := hb.len
  refine loopW_ind (fun q (x : Sl × Int) S' => ∃ (s : Sl) (i : Nat), x = (s, (i : Int)) ∧ i ≤ B.length ∧ q = B.length - i ∧ CB S S' [] s (dbl (B.take i))) (m := B.length) ⟨⟨none, 0, 0⟩, 0, rfl, by omega, rfl, CB.start⟩ ?_
  rintro Pk q x S1 ⟨s, i, rfl, hi, rfl, hB⟩ hP
  dsimp only
  have hb1 : Bs S1 b B := Ext.slOf hB.cx.mod hb
  refine ifW_dec (fun hlt => ?_) fun hlt => ?_
  · have hi' : i < B.length := by omega
    refine hb1.get1n (n := i) (g := byV) inf5 agg5 hi' fun b1 o1 hld _ => evV_of _ (hld _ rfl) ?_
    refine hb1.get1n (n := i) (g := byV) inf5 agg5 hi' fun b2 o2 hld2 _ => evV_of _ (hld2 _ rfl) ?_
    have e : Value.int .u8 (wrapI .u8 (255 - (B[i].toNat : Int))) = byV (cp B[i]) := by
      have := B[i].toNat_lt
      rw [wrap_u8 (by omega) (by omega), byV, cp_toNat]
      congr 1
      omega
    rw [e]
    refine hB.new fun b3 S2 hB => ?_
    have hbx : Bs S2 ⟨some ⟨b3, 0, none⟩, 2, 2⟩ [B[i], cp B[i]] := ⟨rfl, fun _ => ⟨b3, 0, _, _, _, _, rfl, hB.cx.at 0 rfl, rfl⟩⟩
    refine hB.app (v := [B[i], cp B[i]]) rfl (first_nb hbx fun a h => by cases h; rfl) (by simp) (by rw [dbl_len, List.length_take]; simp; omega) fun s' S' hB => ?_
    rw [wrap_succ (by omega)]
    refine hP _ _ _ (by omega) ⟨s', i + 1, rfl, by omega, rfl, ?_⟩
    rw [List.take_succ_eq_append_getElem hi', dbl_app]
    exact hB.tl 1
  · have := hB.cx.p
    rw [List.take_of_length_le (by omega)] at this
    exact hk s S1 hB.cx.mod this
end
end Go.Proofs.YtgdijpcopdgapaaDoor

/- Tally: a packet's bytes, as the document writes them (2). -/
namespace Go.Proofs.YtgdijpcopdgapaaDoor
open Go Go.Proofs.YtgdijpcopdgapaaDoor.D
set_option linter.unusedVariables false
set_option linter.unusedSimpArgs false
noncomputable section

theorem byw {n : Int} (h0 : 0 ≤ n) (h1 : n < 256) : Value.int .u8 (wrapI .u8 n) = byV (UInt8.ofNat n.toNat) := by
  rw [wrap_u8 h0 h1, ← by_ofNat (n := n.toNat) (by omega), show ((n.toNat : Nat) : Int) = n from by omega]
theorem CB.lit {S0 S : St} {L : List (Nat × DObj)} (h : CB S0 S L ⟨none, 0, 0⟩ []) (i : Nat) {b : Nat} {x y : UInt8} (hi : L[i]? = some (b, .cells [byV x, byV y] none false none)) {n mi : Int} {m : Nat} (hmi : mi = (m : Int)) (hm : m = 2 ∨ m = 4 ∨ m = 8) (h0 : 0 ≤ n) (h1 : n < 18446744073709551616)
    {k : Sl → St → Prop} (hk : ∀ s' S', CB S0 S' L s' ([x, y] ++ nb n.toNat m) → k s' S') : evC E0 tS 44 [.int .u64 (wrapI .u64 n), .int .i64 mi] S fun s1 S4 => evP tS (appendD E0 S4 36 36 (.slice (some ⟨b, 0, none⟩) 2 2) (.slice s1.a s1.len s1.cap)) k := by
  rw [wrap_u64 h0 h1]
  subst hmi
  have := s44 (n := n.toNat) (m := m) (S := S) (k := fun v S' => ∃ q : Sl, v = tS.enc q ∧ evP tS (appendD E0 S' 36 36 (.slice (some ⟨b, 0, none⟩) 2 2) (.slice q.a q.len q.cap)) k) hm (by omega) fun s1 S1 e hb hlen hsp => ⟨s1, rfl, ?_⟩
  · rw [show ((n.toNat : Nat) : Int) = n from by omega] at this
    exact evC_of this
  · have hB := h.ext e
    refine app_lit (l := [x, y]) (v := nb n.toNat m) (hB.cx.at i hi) (by simp) rfl (by show some s1.len = _; rw [nb_len, hlen]) (first_nb hb hsp) (fun hh => ?_) (by rw [nb_len]; simp; omega) fun s' S' g e2 hs => ?_
    · have := congrArg List.length hh
      rw [nb_len] at this
      simp at this
      omega
    · exact hk s' S' ⟨hB.cx.op e2 (fun _ h => h.elim) (fun _ h => h.elim) g GB.frm (fun c hc => .inr (hs c hc)) (fun c hc => g.lt hc), fun c hc => Nat.le_trans hB.cx.mod.next (hs c hc)⟩
theorem CB.numz {S0 S : St} {L : List (Nat × DObj)} {s : Sl} {l : List UInt8} (h : CB S0 S L s l) {n mi : Int} {m : Nat} (hmi : mi = (m : Int)) (hm : m = 2 ∨ m = 4 ∨ m = 8) (h0 : 0 ≤ n) (h1 : n < 18446744073709551616) (hl : l.length ≤ 100000) {v : List UInt8} (hv : v = nb n.toNat m)
    {k : Sl → St → Prop} (hk : ∀ s' S', CB S0 S' L s' (l ++ v) → k s' S') : evC E0 tS 44 [.int .u64 (wrapI .u64 n), .int .i64 mi] S fun s1 S4 => evP tS (appendD E0 S4 36 36 (.slice s.a s.len s.cap) (.slice s1.a s1.len s1.cap)) k := by
  subst hv
  exact h.numw hmi hm h0 h1 hl hk
theorem CB.bytz {S0 S : St} {L : List (Nat × DObj)} {s : Sl} {l : List UInt8} (h : CB S0 S L s l) {n : Int} (h0 : 0 ≤ n) (h1 : n < 256) (hl : l.length ≤ 100000) {v : List UInt8} (hv : v = [UInt8.ofNat n.toNat])
    {k : Sl → St → Prop} (hk : ∀ s' S', CB S0 S' L s' (l ++ v) → k s' S') : newW S (.cells [.int .u8 (wrapI .u8 n)] none false none) fun b S1 => evP tS (appendD E0 S1 36 36 (.slice s.a s.len s.cap) (.slice (some ⟨b, 0, none⟩) 1 1)) k := by
  subst hv
  exact h.byte h0 h1 hl hk
/-- Claims' bytes. -/
theorem cls_loop {S0 S : St} {L : List (Nat × DObj)} {s0 : Sl} {X : List UInt8} (hB : CB S0 S L s0 X) {b : Nat} {m : Ms} {s : Sl} {cl : List Clm} (i0 : Nat) (hi0 : L[i0]? = some (b, .cells (cellsM m s) none false none)) (hc : SlOf encC 2 S0 s cl) (hl : cl.length ≤ 1000) (hX : X.length ≤ 60000)
    (hcl : ∀ c ∈ cl, (0 ≤ c.1 ∧ c.1 ≤ 1023) ∧ 0 ≤ c.2 ∧ c.2 < 4294967296) {K : Sl → St → Prop} (hK : ∀ s' S', CB S0 S' L s' (X ++ cl.flatMap clB) → K s' S') :
    loopW
      (fun (k2 : Sl × Int → St → Prop) (x4 : Sl × Int) (S34 : St) =>
        ptrW (some ⟨b, 0, none⟩) fun (b44 b45 : Nat) =>
          evV tS (loadV E0 S34 52 (.pointer (some ⟨b44, b45 + 8, none⟩))) fun (s22 : Sl) =>
            ifW (ltI x4.2 (↑s22.len : Int))
              (ptrW (some ⟨b, 0, none⟩) fun (b46 b47 : Nat) =>
                evV tS (loadV E0 S34 52 (.pointer (some ⟨b46, b47 + 8, none⟩))) fun (s23 : Sl) =>
                  idxW s23.a s23.len x4.2 fun (b48 b49 : Nat) =>
                    ptrW (some ⟨b48, b49 + Int.toNat x4.2 * 2, none⟩) fun (b50 b51 : Nat) =>
                      evV tI (loadV E0 S34 3 (.pointer (some ⟨b50, b51 + 0, none⟩))) fun (n17 : Int) =>
                        evC E0 tS 44 [.int .u64 (wrapI .u64 n17), .int .i64 2] S34
                          fun (s24 : Sl) (S35 : St) =>
                          evP tS
                            (appendD E0 S35 36 36 (.slice x4.1.a x4.1.len x4.1.cap)
                              (.slice s24.a s24.len s24.cap))
                            fun (s25 : Sl) (S36 : St) =>
                            ptrW (some ⟨b, 0, none⟩) fun (b52 b53 : Nat) =>
                              evV tS (loadV E0 S36 52 (.pointer (some ⟨b52, b53 + 8, none⟩)))
                                fun (s26 : Sl) =>
                                idxW s26.a s26.len x4.2 fun (b54 b55 : Nat) =>
                                  ptrW (some ⟨b54, b55 + Int.toNat x4.2 * 2, none⟩) fun (b56 b57 : Nat) =>
                                    evV tU32 (loadV E0 S36 51 (.pointer (some ⟨b56, b57 + 1, none⟩)))
                                      fun (n18 : Int) =>
                                      evC E0 tS 44
                                        [.int .u64 (wrapI .u64 n18), .int .i64 4] S36
                                        fun (s27 : Sl) (S37 : St) =>
                                        evP tS
                                          (appendD E0 S37 36 36 (.slice s25.a s25.len s25.cap)
                                            (.slice s27.a s27.len s27.cap))
                                          fun (s28 : Sl) (S38 : St) =>
                                          k2
                                            ({ a := s28.a, len := s28.len, cap := s28.cap },
                                              wrapI .i64 (x4.2 + 1))
                                            S38)
              (K { a := x4.1.a, len := x4.1.len, cap := x4.1.cap } S34))
      (s0, 0) S := by
  have hlc := hc.len
  refine loopW_ind (fun q (x : Sl × Int) S' => ∃ (s : Sl) (i : Nat), x = (s, (i : Int)) ∧ i ≤ cl.length ∧ q = cl.length - i ∧ CB S0 S' L s (X ++ (cl.take i).flatMap clB)) (m := cl.length) ⟨s0, 0, rfl, by omega, rfl, by simpa using hB⟩ ?_
  rintro Pk q x S1 ⟨s1, i, rfl, hi, rfl, hB⟩ hP
  dsimp only
  refine ptrW_of ?_
  refine hB.cx.ld i0 hi0 (by kernel_rfl) s rfl ?_
  refine ifW_dec (fun hlt => ?_) fun hlt => ?_
  · have hi' : i < cl.length := by omega
    obtain ⟨⟨q1, q2⟩, q3, q4⟩ := hcl _ (List.getElem_mem hi')
    refine ptrW_of ?_
    refine hB.cx.ld i0 hi0 (by kernel_rfl) s rfl ?_
    refine (Ext.slOf hB.cx.mod hc).idxL (f := encC) (sz := 2) (fun _ => rfl) hlc hi' fun b6 o6 cs mm ro fz hat _ hv => ?_
    refine ptrW_of ?_
    refine evV_of (ty := tI) cl[i].1 ((load_one hat (by kernel_rfl)).trans ((at_take hv (j := 0) (by omega)).trans rfl)) ?_
    have hL1 : (X ++ (cl.take i).flatMap clB).length ≤ 70000 := by rw [List.length_append, clB_len, List.length_take]; omega
    refine hB.numw (m := 2) rfl (.inl rfl) (by omega) (by omega) (by omega) fun s2 S2 hB => ?_
    refine ptrW_of ?_
    refine hB.cx.ld i0 hi0 (by kernel_rfl) s rfl ?_
    refine (Ext.slOf hB.cx.mod hc).idxL (f := encC) (sz := 2) (fun _ => rfl) hlc hi' fun b7 o7 cs7 mm7 ro7 fz7 hat7 _ hv7 => ?_
    refine ptrW_of ?_
    refine evV_of (ty := tU32) cl[i].2 ((load_one hat7 (by kernel_rfl)).trans ((at_take hv7 (j := 1) (by omega)).trans rfl)) ?_
    refine hB.numw (m := 4) rfl (.inr (.inl rfl)) (by omega) (by omega) (by rw [List.length_append, nb_len]; omega) fun s3 S3 hB => ?_
    rw [wrap_succ (by omega)]
    refine hP _ _ _ (by omega) ⟨s3, i + 1, rfl, by omega, rfl, ?_⟩
    rw [List.take_succ_eq_append_getElem hi', List.flatMap_append]
    have e : X ++ (cl.take i).flatMap clB ++ nb cl[i].1.toNat 2 ++ nb cl[i].2.toNat 4 = X ++ ((cl.take i).flatMap clB ++ [cl[i]].flatMap clB) := by simp [clB]
    rw [← e]
    exact hB
  · rw [List.take_of_length_le (by omega)] at hB
    exact hK s1 S1 hB
theorem ltrs_eq {k : Int} (h : 1 ≤ k ∧ k ≤ 11) : ltrs k = (fldK k).map ltr := if_pos h
set_option maxHeartbeats 2000000 in
theorem s33 {h : Hd} {m : Ms} {s : Sl} {cl : List Clm} {S : St} (hc : SlOf encC 2 S s cl) (hl : cl.length ≤ 1000) (hz : 1 ≤ m.1 ∧ m.1 ≤ 11 → zok m cl) (wh : wdH h) (wm : wdM m cl) {k : Value → St → Prop}
    (hk1 : mayK h m cl → ∀ s' S', Ext S S' → GB S' s' (dbl (encP h m cl)) → k (.tuple #[.slice s'.a s'.len s'.cap, .int .i64 0]) S')
    (hk2 : ¬ mayK h m cl → ∀ S', Ext S S' → k (.tuple #[.slice none 0 0, .int .i64 71]) S') : WC E0 33 [sv G55 (pv h m s)] S k := by
  refine w33 (pv h m s) ?_
  unfold c33
  have hB := CB.start (S := S)
  refine hB.new fun b1 S1 hB => ?_
  refine hB.cx.lda 0 rfl (by kernel_rfl) (pv h m s) rfl ?_
  refine evC_of (s43 (Ext.slOf hB.cx.mod hc) hl hz fun S2 e2 => ⟨_, rfl, ?_⟩)
  have hB := hB.ext e2
  refine ifW_of (fun a => hk2 (by simpa using a) S2 hB.cx.mod) fun a => ?_
  have hm : mayK h m cl := by simpa using a
  have hk1 := hk1 hm
  obtain ⟨⟨⟨f1, f2⟩, ⟨f3, f4⟩, _⟩, hkd, ⟨⟨⟨n1, n2⟩, ⟨n3, n4⟩, ⟨n5, n6⟩, ⟨n7, n8⟩, ⟨n9, n10⟩, n11⟩, hcls⟩⟩ := hm
  obtain ⟨⟨w1, w2⟩, ⟨w3, w4⟩, ⟨w5, w6⟩, ⟨w7, w8⟩⟩ := wh
  obtain ⟨⟨w9, w10⟩, ⟨w11, w12⟩, w13⟩ := wm
  have hcl : ∀ c ∈ cl, (0 ≤ c.1 ∧ c.1 ≤ 1023) ∧ 0 ≤ c.2 ∧ c.2 < 4294967296 := by
    intro c hcm
    refine ⟨?_, w13 c hcm⟩
    obtain ⟨i, hi, rfl⟩ := List.getElem_of_mem hcm
    have := (hcls i hi).1
    rw [getD_at hi] at this
    exact this
  refine ptrW_of ?_
  refine hB.cx.ld 0 rfl (by kernel_rfl) h.1 rfl ?_
  refine ptrW_of ?_
  refine hB.cx.ld 0 rfl (by kernel_rfl) h.2.1 rfl ?_
  rw [byw f1 (by omega), byw f3 (by omega)]
  refine hB.new fun b6 S3 hB => ?_
  refine ptrW_of ?_
  refine hB.cx.ld 1 rfl (by kernel_rfl) h.2.2.1 rfl ?_
  refine hB.lit (m := 4) 0 rfl rfl (.inr (.inl rfl)) w1 (by omega) fun s2 S5 hB => ?_
  refine ptrW_of ?_
  refine hB.cx.ld 1 rfl (by kernel_rfl) h.2.2.2.1 rfl ?_
  refine hB.numw (m := 4) rfl (.inr (.inl rfl)) w3 (by omega) (by simp [nb_len]) fun s3 S7 hB => ?_
  refine ptrW_of ?_
  refine hB.cx.ld 1 rfl (by kernel_rfl) h.2.2.2.2.1 rfl ?_
  refine hB.numw (m := 4) rfl (.inr (.inl rfl)) w5 (by omega) (by simp [nb_len]) fun s4 S9 hB => ?_
  refine ptrW_of ?_
  refine hB.cx.ld 1 rfl (by kernel_rfl) h.2.2.2.2.2 rfl ?_
  refine hB.numw (m := 4) rfl (.inr (.inl rfl)) w7 (by omega) (by simp [nb_len]) fun s5 S11 hB => ?_
  have hB : CB S S11 _ s5 (hdB h) := hB
  have hhl := hdB_len h
  refine ptrW_of ?_
  refine hB.cx.lda 1 rfl (by kernel_rfl) (mv m s) rfl ?_
  refine hB.new fun b17 S12 hB => ?_
  refine hB.cx.st 0 9 rfl (by kernel_rfl) rfl (Nat.le_of_ble_eq_true rfl) rfl rfl fun S13 hL _ => ?_
  have hB : CB S S13 ((b17, .cells (cellsM m s) none false none) :: _) s5 (hdB h) := ⟨hL, hB.own⟩
  generalize hLs : ((b17, DObj.cells (cellsM m s) none false none) :: _ : List (Nat × DObj)) = Ls at hB
  have h0 : Ls[0]? = some (b17, .cells (cellsM m s) none false none) := by rw [← hLs]; rfl
  clear hLs hL
  refine ptrW_of ?_
  refine hB.cx.ld 0 h0 (by kernel_rfl) m.1 rfl ?_
  refine hB.byte (by omega) (by omega) (by omega) fun s6 S15 hB => ?_
  refine ptrW_of ?_
  refine hB.cx.ld 0 h0 (by kernel_rfl) m.1 rfl ?_
  refine evC_of (s42 ⟨_, rfl, ?_⟩)
  have hlt := ltrs_eq hkd
  have hfl := fld_len m.1 hkd
  have hfr := fld_range hkd.1 hkd.2
  have henc : ∀ {S'} {s'}, GB S' s' (hdB h ++ [UInt8.ofNat m.1.toNat] ++ (fldK m.1).flatMap (fb m cl)) → GB S' s' (encP h m cl) := fun h => h
  generalize hF : fldK m.1 = F at hlt hfl hfr henc
  rw [hlt]
  generalize hH : hdB h ++ [UInt8.ofNat m.1.toNat] = H at hB henc
  have hHl : H.length = 19 := by rw [← hH, List.length_append, hhl]; rfl
  refine loopW_ind (fun q (x : Sl × Int) S' => ∃ (s' : Sl) (i : Nat), x = (s', (i : Int)) ∧ i ≤ F.length ∧ q = F.length - i ∧ CB S S' Ls s' (H ++ (F.take i).flatMap (fb m cl))) (m := F.length) ⟨s6, 0, rfl, by omega, rfl, by simpa using hB⟩ ?_
  rintro Pk q x S1 ⟨s1, i, rfl, hi, rfl, hB⟩ hP
  dsimp only
  have hml : (F.map ltr).length = F.length := List.length_map ..
  have hXl : (H ++ (F.take i).flatMap (fb m cl)).length ≤ 50000 := by
    have := fbs_len (m := m) (cl := cl) hl (F.take i) (by rw [List.length_take]; omega)
    have : (F.take i).length ≤ 5 := by rw [List.length_take]; omega
    rw [List.length_append]
    omega
  rw [hml]
  refine ifW_dec (fun hlt => ?_) fun hlt => ?_
  · have hi' : i < F.length := by omega
    refine evV_of (ty := tU8) _ (indexD_str und9 (by rw [hml]; exact hi')) ?_
    rw [List.getElem_map]
    have hstep : ∀ s' S', CB S S' Ls s' (H ++ (F.take i).flatMap (fb m cl) ++ fb m cl F[i]) → Pk (s', wrapI .i64 ((i : Int) + 1)) S' := by
      intro s' S' hB
      rw [wrap_succ (by omega)]
      refine hP _ _ _ (by omega) ⟨s', i + 1, rfl, by omega, rfl, ?_⟩
      rw [List.take_succ_eq_append_getElem hi', List.flatMap_append]
      have e : H ++ (F.take i).flatMap (fb m cl) ++ fb m cl F[i] = H ++ ((F.take i).flatMap (fb m cl) ++ [F[i]].flatMap (fb m cl)) := by simp
      rw [← e]
      exact hB
    have hf := hfr _ (List.getElem_mem hi')
    generalize F[i] = f at hstep hf ⊢
    generalize H ++ (F.take i).flatMap (fb m cl) = X at hB hstep hXl
    have hf8 : f = 1 ∨ f = 2 ∨ f = 3 ∨ f = 4 ∨ f = 5 ∨ f = 6 ∨ f = 7 ∨ f = 8 := by omega
    rcases hf8 with rfl | rfl | rfl | rfl | rfl | rfl | rfl | rfl
    · refine ifW_pos (by decide) ?_
      refine ptrW_of ?_
      refine hB.cx.ld 0 h0 (by kernel_rfl) m.2.1 rfl ?_
      exact hB.numz (m := 2) rfl (.inl rfl) (by omega) (by omega) (by omega) (v := fb m cl 1) rfl hstep
    · refine ifW_neg (by decide) (ifW_pos (by decide) ?_)
      refine ptrW_of ?_
      refine hB.cx.ld 0 h0 (by kernel_rfl) m.2.2.1 rfl ?_
      exact hB.numz (m := 4) rfl (.inr (.inl rfl)) (by omega) (by omega) (by omega) (v := fb m cl 2) rfl hstep
    · refine ifW_neg (by decide) (ifW_neg (by decide) (ifW_pos (by decide) ?_))
      refine ptrW_of ?_
      refine hB.cx.ld 0 h0 (by kernel_rfl) m.2.2.2.1 rfl ?_
      exact hB.num (m := 8) rfl (.inr (.inr rfl)) (by omega) (by omega) (by omega) fun s' S' hB => hstep s' S' hB
    · refine ifW_neg (by decide) (ifW_neg (by decide) (ifW_neg (by decide) (ifW_pos (by decide) ?_)))
      refine ptrW_of ?_
      refine hB.cx.ld 0 h0 (by kernel_rfl) m.2.2.2.2.1 rfl ?_
      exact hB.bytz (by omega) (by omega) (by omega) (v := fb m cl 4) rfl hstep
    · refine ifW_neg (by decide) (ifW_neg (by decide) (ifW_neg (by decide) (ifW_neg (by decide) (ifW_pos (by decide) ?_))))
      refine ptrW_of ?_
      refine hB.cx.ld 0 h0 (by kernel_rfl) m.2.2.2.2.2.1 rfl ?_
      exact hB.bytz (by omega) (by omega) (by omega) (v := fb m cl 5) rfl hstep
    · refine ifW_neg (by decide) (ifW_neg (by decide) (ifW_neg (by decide) (ifW_neg (by decide) (ifW_neg (by decide) (ifW_pos (by decide) ?_)))))
      refine ptrW_of ?_
      refine hB.cx.ld 0 h0 (by kernel_rfl) m.2.2.2.2.2.2.1 rfl ?_
      exact hB.bytz (by omega) (by omega) (by omega) (v := fb m cl 6) rfl hstep
    · refine ifW_neg (by decide) (ifW_neg (by decide) (ifW_neg (by decide) (ifW_neg (by decide) (ifW_neg (by decide) (ifW_neg (by decide) (ifW_pos (by decide) ?_))))))
      refine ptrW_of ?_
      refine hB.cx.ld 0 h0 (by kernel_rfl) m.2.2.2.2.2.2.2 rfl ?_
      refine ⟨rfl, ?_⟩
      rw [wrap_i64 (n := m.2.2.2.2.2.2.2 + 256) (by omega) (by omega), Int.tmod_eq_emod_of_nonneg (by omega)]
      exact hB.bytz (by omega) (by omega) (by omega) (v := fb m cl 7) rfl hstep
    · refine ifW_neg (by decide) (ifW_neg (by decide) (ifW_neg (by decide) (ifW_neg (by decide) (ifW_neg (by decide) (ifW_neg (by decide) (ifW_neg (by decide) (ifW_pos (by decide) ?_)))))))
      refine ptrW_of ?_
      refine hB.cx.ld 0 h0 (by kernel_rfl) s rfl ?_
      have hlc := hc.len
      refine hB.byte (by omega) (by omega) (by omega) fun s3 S3 hB => ?_
      refine cls_loop hB 0 h0 hc hl (by rw [List.length_append, List.length_singleton]; omega) hcl (K := fun s' S' => Pk (s', wrapI .i64 ((i : Int) + 1)) S') fun s' S' hB => hstep s' S' ?_
      have e : fb m cl 8 = [UInt8.ofNat ((s.len : Int)).toNat] ++ cl.flatMap clB := by rw [hlc]; rfl
      rw [e, ← List.append_assoc]
      exact hB
  · rw [List.take_of_length_le (by omega)] at hB
    have hg := henc hB.cx.p
    have hbs := hg.of
    have hel : (encP h m cl).length ≤ 100000 := by
      have := hg.len
      have h2 := hB.cx.p.len
      rw [List.take_of_length_le (by omega)] at hXl
      omega
    exact dbl_loop hbs hel fun s' S' e g => hk1 s' S' (hB.cx.mod.tr e) g
end
end Go.Proofs.YtgdijpcopdgapaaDoor

/- Tally: what bytes say is the same, read either way. -/
namespace Go.Proofs.YtgdijpcopdgapaaDoor
open Go Go.Proofs.YtgdijpcopdgapaaDoor.D
set_option linter.unusedVariables false
set_option linter.unusedSimpArgs false
noncomputable section

theorem nb_vl : ∀ (n : Nat) (l : List UInt8), l.length = n → nb (vl l) n = l := by
  intro n
  induction n with
  | zero => intro l h; rw [List.length_eq_zero_iff.1 h]; rfl
  | succ n ih =>
    intro l h
    rcases List.eq_nil_or_concat l with rfl | ⟨t, c, rfl⟩
    · simp at h
    rw [List.concat_eq_append] at h ⊢
    have hc := c.toNat_lt
    rw [vl_snoc]
    show nb ((vl t * 256 + c.toNat) / 256) n ++ [UInt8.ofNat ((vl t * 256 + c.toNat) % 256)] = _
    rw [show (vl t * 256 + c.toNat) / 256 = vl t from by omega, show (vl t * 256 + c.toNat) % 256 = c.toNat from by omega, ih t (by simpa using h)]
    congr 2
    exact UInt8.toNat_inj.1 (ofNat_toNat (by omega))
theorem vl_nb : ∀ (n v : Nat), v < 256 ^ n → vl (nb v n) = v := by
  intro n
  induction n with
  | zero => intro v h; simp at h; subst h; rfl
  | succ n ih =>
    intro v h
    show vl (nb (v / 256) n ++ [UInt8.ofNat (v % 256)]) = v
    rw [Nat.pow_succ] at h
    rw [vl_snoc, ih _ (Nat.div_lt_of_lt_mul (by rw [Nat.mul_comm]; exact h)), ofNat_toNat (Nat.mod_lt _ (by omega))]
    omega
theorem nb_one {v : Nat} (h : v < 256) : nb v 1 = [UInt8.ofNat v] := by
  show nb (v / 256) 0 ++ [UInt8.ofNat (v % 256)] = _
  rw [Nat.mod_eq_of_lt h]; rfl
theorem tv_nb {n v : Nat} {R : List UInt8} (h : v < 256 ^ n) : tvR n (some (nb v n ++ R)) = v := by
  show (if n ≤ (nb v n ++ R).length then vl ((nb v n ++ R).take n) else 0) = v
  rw [if_pos (by rw [List.length_append, nb_len]; omega), List.take_append_of_le_length (by rw [nb_len]; omega), List.take_of_length_le (by rw [nb_len]; omega), vl_nb n v h]
theorem tk_nb {n v : Nat} {R : List UInt8} : tkR n (some (nb v n ++ R)) = some R := by
  show (if n ≤ (nb v n ++ R).length then some ((nb v n ++ R).drop n) else none) = _
  rw [if_pos (by rw [List.length_append, nb_len]; omega), List.drop_append_of_le_length (by rw [nb_len]; omega), List.drop_of_length_le (by rw [nb_len]; omega)]
  rfl
theorem tk_some {n : Nat} {r : Rd} {Y : List UInt8} (h : tkR n r = some Y) : ∃ X, r = some X ∧ X = nb (tvR n r) n ++ Y := by
  cases r with
  | none => cases h
  | some X =>
    refine ⟨X, rfl, ?_⟩
    replace h : (if n ≤ X.length then some (X.drop n) else none) = some Y := h
    show X = nb (if n ≤ X.length then vl (X.take n) else 0) n ++ Y
    split at h
    · rename_i hn
      cases h
      rw [if_pos hn, nb_vl n _ (by rw [List.length_take]; omega), List.take_append_drop]
    · cases h
theorem gv_of {P R : List UInt8} {a n v : Nat} (h : P.drop a = nb v n ++ R) (hv : v < 256 ^ n) : gvR P n a = v := by
  unfold gvR
  rw [h, List.take_append_of_le_length (by rw [nb_len]; omega), List.take_of_length_le (by rw [nb_len]; omega), vl_nb n v hv]
theorem drop_of {P A R : List UInt8} {a n : Nat} (h : P.drop a = A ++ R) (hn : A.length = n) : P.drop (a + n) = R := by
  rw [← List.drop_drop, h, List.drop_append_of_le_length (by omega), List.drop_of_length_le (by omega)]
  rfl
def getF (f : Int) (m : Ms) : Int :=
  if f = 0 then m.1 else if f = 1 then m.2.1 else if f = 2 then m.2.2.1 else if f = 3 then m.2.2.2.1 else if f = 4 then m.2.2.2.2.1 else if f = 5 then m.2.2.2.2.2.1 else if f = 6 then m.2.2.2.2.2.2.1 else m.2.2.2.2.2.2.2
def putF (f : Int) (v : Int) (m : Ms) : Ms :=
  if f = 1 then (m.1, v, m.2.2) else if f = 2 then (m.1, m.2.1, v, m.2.2.2) else if f = 3 then (m.1, m.2.1, m.2.2.1, v, m.2.2.2.2) else if f = 4 then (m.1, m.2.1, m.2.2.1, m.2.2.2.1, v, m.2.2.2.2.2)
  else if f = 5 then (m.1, m.2.1, m.2.2.1, m.2.2.2.1, m.2.2.2.2.1, v, m.2.2.2.2.2.2) else if f = 6 then (m.1, m.2.1, m.2.2.1, m.2.2.2.1, m.2.2.2.2.1, m.2.2.2.2.2.1, v, m.2.2.2.2.2.2.2)
  else if f = 7 then (m.1, m.2.1, m.2.2.1, m.2.2.2.1, m.2.2.2.2.1, m.2.2.2.2.2.1, m.2.2.2.2.2.2.1, v) else m
theorem f_case {f : Int} (h : 1 ≤ f ∧ f ≤ 8) : f = 1 ∨ f = 2 ∨ f = 3 ∨ f = 4 ∨ f = 5 ∨ f = 6 ∨ f = 7 ∨ f = 8 := by omega
theorem g_case {f : Int} (h : 0 ≤ f ∧ f ≤ 7) : f = 0 ∨ f = 1 ∨ f = 2 ∨ f = 3 ∨ f = 4 ∨ f = 5 ∨ f = 6 ∨ f = 7 := by omega
theorem get_put {f g v : Int} {m : Ms} (hf : 1 ≤ f ∧ f ≤ 7) (hg : 0 ≤ g ∧ g ≤ 7) : getF g (putF f v m) = if g = f then v else getF g m := by
  rcases f_case ⟨hf.1, by omega⟩ with rfl | rfl | rfl | rfl | rfl | rfl | rfl | rfl
  all_goals first | omega | (rcases g_case hg with rfl | rfl | rfl | rfl | rfl | rfl | rfl | rfl <;> rfl)
def rdV (f : Int) (x : Nat) : Int := if f = 7 then sx x else x
def gdV (f : Int) (x : Nat) : Int := if f = 7 then (if x = 255 then -1 else x) else x
def enV (f v : Int) : Nat := if f = 7 then ((v + 256) % 256).toNat else v.toNat
def okF (f v : Int) : Prop := if f = 7 then -1 ≤ v ∧ v ≤ 63 else 0 ≤ v ∧ v < ((256 ^ wdF f : Nat) : Int)
theorem setM_put {f : Int} {x : Nat} {m : Ms} (hf : 1 ≤ f ∧ f ≤ 7) : setM f x m = putF f (rdV f x) m := by
  rcases f_case ⟨hf.1, by omega⟩ with rfl | rfl | rfl | rfl | rfl | rfl | rfl | rfl
  all_goals first | omega | rfl
theorem pow_wd : (256 ^ wdF 1 : Nat) = 65536 ∧ (256 ^ wdF 2 : Nat) = 4294967296 ∧ (256 ^ wdF 3 : Nat) = 18446744073709551616 ∧ (256 ^ wdF 4 : Nat) = 256 ∧ (256 ^ wdF 5 : Nat) = 256 ∧ (256 ^ wdF 6 : Nat) = 256 ∧ (256 ^ wdF 7 : Nat) = 256 := by decide
theorem en_lt {f v : Int} (hf : 1 ≤ f ∧ f ≤ 7) (h : okF f v) : enV f v < 256 ^ wdF f := by
  unfold okF at h
  unfold enV
  split
  · rename_i hf7
    subst hf7
    show _ < 256
    omega
  · rename_i hf7
    rw [if_neg hf7] at h
    omega
theorem rd_en {f v : Int} (h : okF f v) : rdV f (enV f v) = v ∧ gdV f (enV f v) = v := by
  unfold okF at h
  unfold rdV gdV enV
  split
  · rename_i hf7
    rw [if_pos hf7] at h
    constructor
    · unfold sx; split <;> omega
    · split <;> omega
  · rename_i hf7
    rw [if_neg hf7] at h
    constructor <;> omega
theorem fb_en {m : Ms} {cl : List Clm} {f : Int} (hf : 1 ≤ f ∧ f ≤ 7) (h : okF f (getF f m)) : fb m cl f = nb (enV f (getF f m)) (wdF f) := by
  rcases f_case ⟨hf.1, by omega⟩ with rfl | rfl | rfl | rfl | rfl | rfl | rfl | rfl
  · rfl
  · rfl
  · rfl
  · have := en_lt (f := 4) (by omega) h; exact (nb_one this).symm
  · have := en_lt (f := 5) (by omega) h; exact (nb_one this).symm
  · have := en_lt (f := 6) (by omega) h; exact (nb_one this).symm
  · have := en_lt (f := 7) (by omega) h; exact (nb_one this).symm
  · omega
theorem fb_rd {m : Ms} {cl : List Clm} {f : Int} (hf : 1 ≤ f ∧ f ≤ 7) {x : Nat} (hx : x < 256 ^ wdF f) (h : getF f m = rdV f x) : fb m cl f = nb x (wdF f) := by
  have e : ∀ x : Nat, x < 256 → ((sx x + 256) % 256).toNat = x := by intro x hx; unfold sx; split <;> omega
  rcases f_case ⟨hf.1, by omega⟩ with rfl | rfl | rfl | rfl | rfl | rfl | rfl | rfl
  · show nb (getF 1 m).toNat 2 = _; rw [h]; rfl
  · show nb (getF 2 m).toNat 4 = _; rw [h]; rfl
  · show nb (getF 3 m).toNat 8 = _; rw [h]; rfl
  · show [UInt8.ofNat (getF 4 m).toNat] = _; rw [h]; exact (nb_one hx).symm
  · show [UInt8.ofNat (getF 5 m).toNat] = _; rw [h]; exact (nb_one hx).symm
  · show [UInt8.ofNat (getF 6 m).toNat] = _; rw [h]; exact (nb_one hx).symm
  · show [UInt8.ofNat ((getF 7 m + 256) % 256).toNat] = _; rw [h]
    show [UInt8.ofNat ((sx x + 256) % 256).toNat] = _
    rw [e x hx]; exact (nb_one hx).symm
  · omega
/-! ### Claims -/
def okC (c : Clm) : Prop := (0 ≤ c.1 ∧ c.1 < 65536) ∧ (0 ≤ c.2 ∧ c.2 < 4294967296)
theorem clB_app (c : Clm) (R : List UInt8) : clB c ++ R = nb c.1.toNat 2 ++ (nb c.2.toNat 4 ++ R) := by simp [clB]
theorem cls_rd {cl : List Clm} {R : List UInt8} (h : ∀ c ∈ cl, okC c) : ∀ n, n ≤ cl.length → clsP n (some (cl.flatMap clB ++ R)) = (cl.take n, some ((cl.drop n).flatMap clB ++ R)) := by
  intro n
  induction n with
  | zero => intro _; rfl
  | succ n ih =>
    intro hn
    have hn' : n < cl.length := by omega
    obtain ⟨h1, h2⟩ := h _ (List.getElem_mem hn')
    have ih := ih (by omega)
    show ((clsP n _).1 ++ [((tvR 2 (clsP n _).2 : Int), (tvR 4 (tkR 2 (clsP n _).2) : Int))], tkR 4 (tkR 2 (clsP n _).2)) = _
    rw [ih, List.drop_eq_getElem_cons hn', List.flatMap_cons, List.append_assoc, clB_app]
    dsimp only
    rw [tv_nb (by show _ < 65536; omega), tk_nb, tv_nb (by show _ < 4294967296; omega), tk_nb, List.take_succ_eq_append_getElem hn']
    rw [show ((cl[n].1.toNat : Nat) : Int) = cl[n].1 from by omega, show ((cl[n].2.toNat : Nat) : Int) = cl[n].2 from by omega]
theorem cls_wr : ∀ (n : Nat) (r : Rd) (Y : List UInt8), (clsP n r).2 = some Y → ∃ X, r = some X ∧ X = (clsP n r).1.flatMap clB ++ Y := by
  intro n
  induction n with
  | zero => intro r Y h; exact ⟨Y, h, rfl⟩
  | succ n ih =>
    intro r Y h
    obtain ⟨X1, h1, e1⟩ := tk_some (n := 4) (r := tkR 2 (clsP n r).2) h
    obtain ⟨X2, h2, e2⟩ := tk_some h1
    obtain ⟨X, h3, e3⟩ := ih r X2 h2
    refine ⟨X, h3, ?_⟩
    show X = ((clsP n r).1 ++ [((tvR 2 (clsP n r).2 : Int), (tvR 4 (tkR 2 (clsP n r).2) : Int))]).flatMap clB ++ Y
    rw [e3, e2, e1, List.flatMap_append]
    simp [clB]
theorem cls_ok : ∀ (n : Nat) (r : Rd), ∀ c ∈ (clsP n r).1, okC c := by
  intro n
  induction n with
  | zero => intro r c h; cases h
  | succ n ih =>
    intro r c h
    rcases List.mem_append.1 h with h | h
    · exact ih r c h
    · rw [List.mem_singleton] at h
      subst h
      have := tvR_lt 2 (clsP n r).2
      have := tvR_lt 4 (tkR 2 (clsP n r).2)
      unfold okC
      dsimp only
      omega
def gcl (P : List UInt8) (a : Nat) : Nat → List Clm
  | 0 => []
  | n + 1 => gcl P a n ++ [((gvR P 2 (a + 6 * n) : Int), (gvR P 4 (a + 6 * n + 2) : Int))]
theorem gcl_len (P : List UInt8) (a n : Nat) : (gcl P a n).length = n := by
  induction n with
  | zero => rfl
  | succ n ih => show (gcl P a n ++ [_]).length = _; rw [List.length_append, ih]; rfl
theorem gcl_ok (P : List UInt8) (a n : Nat) : ∀ c ∈ gcl P a n, okC c := by
  induction n with
  | zero => intro c h; cases h
  | succ n ih =>
    intro c h
    rcases List.mem_append.1 h with h | h
    · exact ih c h
    · rw [List.mem_singleton] at h
      subst h
      have := gvR_lt P 2 (a + 6 * n)
      have := gvR_lt P 4 (a + 6 * n + 2)
      unfold okC
      dsimp only
      omega
theorem clB_len1 (c : Clm) : (clB c).length = 6 := by simp [clB, nb_len]
theorem gcl_rd {P : List UInt8} {a : Nat} {cl : List Clm} {R : List UInt8} (hP : P.drop a = cl.flatMap clB ++ R) (h : ∀ c ∈ cl, okC c) : ∀ n, n ≤ cl.length → gcl P a n = cl.take n ∧ P.drop (a + 6 * n) = (cl.drop n).flatMap clB ++ R := by
  intro n
  induction n with
  | zero => intro _; exact ⟨rfl, hP⟩
  | succ n ih =>
    intro hn
    have hn' : n < cl.length := by omega
    obtain ⟨h1, h2⟩ := h _ (List.getElem_mem hn')
    obtain ⟨i1, i2⟩ := ih (by omega)
    rw [List.drop_eq_getElem_cons hn', List.flatMap_cons, List.append_assoc, clB_app] at i2
    have e1 := gv_of i2 (by show _ < 65536; omega)
    have i3 := drop_of i2 (nb_len _ _)
    have e2 := gv_of i3 (by show _ < 4294967296; omega)
    have i4 := drop_of i3 (nb_len _ _)
    constructor
    · show gcl P a n ++ [_] = _
      rw [i1, e1, e2, List.take_succ_eq_append_getElem hn', show ((cl[n].1.toNat : Nat) : Int) = cl[n].1 from by omega, show ((cl[n].2.toNat : Nat) : Int) = cl[n].2 from by omega]
    · rw [show a + 6 * (n + 1) = a + 6 * n + 2 + 4 from by omega]
      exact i4
end
end Go.Proofs.YtgdijpcopdgapaaDoor

/- Tally: what bytes say is the same, read either way (2). -/
namespace Go.Proofs.YtgdijpcopdgapaaDoor
open Go Go.Proofs.YtgdijpcopdgapaaDoor.D
set_option linter.unusedVariables false
set_option linter.unusedSimpArgs false
noncomputable section

/-- One field, as the document's reader takes it. -/
def stG (P : List UInt8) (x : Ms × List Clm × Nat) (f : Int) : Ms × List Clm × Nat :=
  if f = 8 then (x.1, x.2.1 ++ gcl P (x.2.2 + 1) (gvR P 1 x.2.2), x.2.2 + 1 + 6 * gvR P 1 x.2.2)
  else (putF f (gdV f (gvR P (wdF f) x.2.2)) x.1, x.2.1, x.2.2 + wdF f)
def fldZ (k : Int) : List Int := if 1 ≤ k ∧ k ≤ 11 then fldK k else []
def guH (P : List UInt8) : Hd := ((gvR P 1 0 : Int), (gvR P 1 1 : Int), (gvR P 4 2 : Int), (gvR P 4 6 : Int), (gvR P 4 10 : Int), (gvR P 4 14 : Int))
def guM (P : List UInt8) : Ms × List Clm × Nat := (fldZ (gvR P 1 18 : Int)).foldl (stG P) (((gvR P 1 18 : Int), 0, 0, 0, 0, 0, 0, 0), [], 19)
def okG (P : List UInt8) : Prop := mayK (guH P) (guM P).1 (guM P).2.1 ∧ encP (guH P) (guM P).1 (guM P).2.1 = P
/-- Fields set, one by one. -/
def finM (m : Ms) (fs : List Int) (m0 : Ms) : Ms := fs.foldl (fun a f => if f = 8 then a else putF f (getF f m) a) m0
def finC (cl : List Clm) (fs : List Int) (c0 : List Clm) : List Clm := fs.foldl (fun c f => if f = 8 then c ++ cl else c) c0
theorem rd_fold {m : Ms} {cl : List Clm} {R : List UInt8} (hcl : ∀ c ∈ cl, okC c) (hlen : cl.length < 256) : ∀ (fs : List Int) (m0 : Ms) (c0 : List Clm), (∀ f ∈ fs, 1 ≤ f ∧ f ≤ 8) → (∀ f ∈ fs, f ≠ 8 → okF f (getF f m)) →
    fs.foldl stP (m0, c0, some (fs.flatMap (fb m cl) ++ R)) = (finM m fs m0, finC cl fs c0, some R) := by
  intro fs
  induction fs with
  | nil => intro m0 c0 _ _; rfl
  | cons f fs ih =>
    intro m0 c0 hr hok
    have hf := hr f (by simp)
    rw [List.flatMap_cons, List.append_assoc, List.foldl_cons]
    have e : stP (m0, c0, some (fb m cl f ++ (fs.flatMap (fb m cl) ++ R))) f = (if f = 8 then m0 else putF f (getF f m) m0, if f = 8 then c0 ++ cl else c0, some (fs.flatMap (fb m cl) ++ R)) := by
      unfold stP
      by_cases h8 : f = 8
      · subst h8
        rw [if_pos rfl, if_pos rfl, if_pos rfl]
        have e8 : fb m cl 8 ++ (fs.flatMap (fb m cl) ++ R) = nb cl.length 1 ++ (cl.flatMap clB ++ (fs.flatMap (fb m cl) ++ R)) := by rw [nb_one hlen]; rfl
        dsimp only
        rw [e8, tv_nb hlen, tk_nb, cls_rd hcl _ (Nat.le_refl _)]
        dsimp only
        rw [List.take_length, List.drop_length]
        rfl
      · rw [if_neg h8, if_neg h8, if_neg h8]
        have h17 : 1 ≤ f ∧ f ≤ 7 := by omega
        have ho := hok f (by simp) h8
        dsimp only
        rw [fb_en h17 ho, tv_nb (en_lt h17 ho), tk_nb, setM_put h17, (rd_en ho).1]
    rw [e, ih _ _ (fun g hg => hr g (by simp [hg])) fun g hg => hok g (by simp [hg])]
    rfl
theorem gu_fold {P : List UInt8} {m : Ms} {cl : List Clm} {R : List UInt8} (hcl : ∀ c ∈ cl, okC c) (hlen : cl.length < 256) : ∀ (fs : List Int) (m0 : Ms) (c0 : List Clm) (a : Nat), (∀ f ∈ fs, 1 ≤ f ∧ f ≤ 8) → (∀ f ∈ fs, f ≠ 8 → okF f (getF f m)) →
    P.drop a = fs.flatMap (fb m cl) ++ R → (fs.foldl (stG P) (m0, c0, a)).1 = finM m fs m0 ∧ (fs.foldl (stG P) (m0, c0, a)).2.1 = finC cl fs c0 := by
  intro fs
  induction fs with
  | nil => intro m0 c0 a _ _ _; exact ⟨rfl, rfl⟩
  | cons f fs ih =>
    intro m0 c0 a hr hok hP
    have hf := hr f (by simp)
    rw [List.flatMap_cons, List.append_assoc] at hP
    rw [List.foldl_cons]
    have e : ∃ a', stG P (m0, c0, a) f = (if f = 8 then m0 else putF f (getF f m) m0, if f = 8 then c0 ++ cl else c0, a') ∧ P.drop a' = fs.flatMap (fb m cl) ++ R := by
      unfold stG
      by_cases h8 : f = 8
      · subst h8
        rw [if_pos rfl, if_pos rfl, if_pos rfl]
        have e8 : fb m cl 8 ++ (fs.flatMap (fb m cl) ++ R) = nb cl.length 1 ++ (cl.flatMap clB ++ (fs.flatMap (fb m cl) ++ R)) := by rw [nb_one hlen]; rfl
        rw [e8] at hP
        have e1 := gv_of hP hlen
        have h2 := drop_of hP (nb_len _ _)
        obtain ⟨g1, g2⟩ := gcl_rd h2 hcl _ (Nat.le_refl _)
        rw [List.take_length] at g1
        rw [List.drop_length] at g2
        dsimp only
        rw [e1, g1]
        exact ⟨_, rfl, g2⟩
      · rw [if_neg h8, if_neg h8, if_neg h8]
        have h17 : 1 ≤ f ∧ f ≤ 7 := by omega
        have ho := hok f (by simp) h8
        rw [fb_en h17 ho] at hP
        have e1 := gv_of hP (en_lt h17 ho)
        have h2 := drop_of hP (nb_len _ _)
        dsimp only
        rw [e1, (rd_en ho).2]
        exact ⟨_, rfl, h2⟩
    obtain ⟨a', e, h2⟩ := e
    rw [e]
    exact ih _ _ _ (fun g hg => hr g (by simp [hg])) (fun g hg => hok g (by simp [hg])) h2
/-- Reading undone. -/
theorem wr_fold {Y : List UInt8} : ∀ (fs : List Int), fs.Nodup → (∀ f ∈ fs, 1 ≤ f ∧ f ≤ 8) → ∀ (m0 : Ms) (c0 : List Clm) (r : Rd) (m' : Ms) (cl' : List Clm), fs.foldl stP (m0, c0, r) = (m', cl', some Y) → ((8 : Int) ∈ fs → c0 = []) →
    (∃ X, r = some X ∧ X = fs.flatMap (fb m' cl') ++ Y) ∧ (∀ g, 0 ≤ g → g ≤ 7 → g ∉ fs → getF g m' = getF g m0) ∧ ((8 : Int) ∉ fs → cl' = c0) := by
  intro fs
  induction fs with
  | nil =>
    intro _ _ m0 c0 r m' cl' h _
    cases h
    exact ⟨⟨Y, rfl, rfl⟩, fun _ _ _ _ => rfl, fun _ => rfl⟩
  | cons f fs ih =>
    intro hnd hr m0 c0 r m' cl' h hc0
    rw [List.nodup_cons] at hnd
    have hf := hr f (by simp)
    rw [List.foldl_cons] at h
    unfold stP at h
    by_cases h8 : f = 8
    · subst h8
      rw [if_pos rfl] at h
      dsimp only at h
      obtain ⟨⟨X1, hx1, ex1⟩, hg, hcl⟩ := ih hnd.2 (fun g hg => hr g (by simp [hg])) _ _ _ _ _ h fun h => (hnd.1 h).elim
      obtain ⟨X2, hx2, ex2⟩ := cls_wr _ _ _ hx1
      obtain ⟨X, hx, ex⟩ := tk_some hx2
      have hcl := hcl hnd.1
      rw [hc0 (by simp), List.nil_append] at hcl
      refine ⟨⟨X, hx, ?_⟩, fun g g0 g7 hgn => hg g g0 g7 fun h => hgn (by simp [h]), fun h => (h (by simp)).elim⟩
      have hl : cl'.length = tvR 1 r := by rw [hcl, clsP_len]
      have hv := tvR_lt 1 r
      rw [ex, ex2, ex1, List.flatMap_cons]
      show _ = (UInt8.ofNat cl'.length :: cl'.flatMap clB) ++ _ ++ _
      rw [hl, nb_one hv, ← hcl]
      simp
    · rw [if_neg h8] at h
      dsimp only at h
      have h17 : 1 ≤ f ∧ f ≤ 7 := by omega
      obtain ⟨⟨X1, hx1, ex1⟩, hg, hcl⟩ := ih hnd.2 (fun g hg => hr g (by simp [hg])) _ _ _ _ _ h fun h => hc0 (by simp [h])
      obtain ⟨X, hx, ex⟩ := tk_some hx1
      have hgf := hg f (by omega) (by omega) hnd.1
      rw [setM_put h17, get_put h17 (by omega), if_pos rfl] at hgf
      refine ⟨⟨X, hx, ?_⟩, fun g g0 g7 hgn => ?_, fun h => hcl fun h2 => h (by simp [h2])⟩
      · rw [ex, ex1, List.flatMap_cons, fb_rd h17 (tvR_lt _ _) hgf, List.append_assoc]
      · have := hg g g0 g7 fun h => hgn (by simp [h])
        rw [setM_put h17, get_put h17 ⟨g0, g7⟩, if_neg fun e => hgn (by simp [e])] at this
        exact this
theorem fld_nodup {k : Int} (h : 1 ≤ k ∧ k ≤ 11) : (fldK k).Nodup := by
  rcases kind_case h.1 h.2 with rfl | rfl | rfl | rfl | rfl | rfl | rfl | rfl | rfl | rfl | rfl <;> decide
theorem zok_of {m : Ms} {cl : List Clm} (h : 1 ≤ m.1 ∧ m.1 ≤ 11) (hg : ∀ g, 1 ≤ g → g ≤ 7 → g ∉ fldK m.1 → getF g m = 0) (hc : (8 : Int) ∉ fldK m.1 → cl = []) : zok m cl := by
  obtain ⟨k, a1, a2, a3, a4, a5, a6, a7⟩ := m
  dsimp only at h hg hc
  rcases kind_case h.1 h.2 with rfl | rfl | rfl | rfl | rfl | rfl | rfl | rfl | rfl | rfl | rfl
  all_goals
    unfold zok
    dsimp only
    refine ⟨?_, ?_, ?_, ?_, ?_, ?_, ?_, ?_⟩
    · first | exact .inl (by decide) | exact .inr (hg 1 (by decide) (by decide) (by decide))
    · first | exact .inl (by decide) | exact .inr (hg 2 (by decide) (by decide) (by decide))
    · first | exact .inl (by decide) | exact .inr (hg 3 (by decide) (by decide) (by decide))
    · first | exact .inl (by decide) | exact .inr (hg 4 (by decide) (by decide) (by decide))
    · first | exact .inl (by decide) | exact .inr (hg 5 (by decide) (by decide) (by decide))
    · first | exact .inl (by decide) | exact .inr (hg 6 (by decide) (by decide) (by decide))
    · first | exact .inl (by decide) | exact .inr (hg 7 (by decide) (by decide) (by decide))
    · first | exact .inl (by decide) | exact .inr (hc (by decide))
theorem fin_eq {m : Ms} {cl : List Clm} (h : 1 ≤ m.1 ∧ m.1 ≤ 11) (hz : zok m cl) : finM m (fldK m.1) (m.1, 0, 0, 0, 0, 0, 0, 0) = m ∧ finC cl (fldK m.1) [] = cl := by
  obtain ⟨k, a1, a2, a3, a4, a5, a6, a7⟩ := m
  obtain ⟨z1, z2, z3, z4, z5, z6, z7, z8⟩ := hz
  dsimp only at h z1 z2 z3 z4 z5 z6 z7 z8
  rcases kind_case h.1 h.2 with rfl | rfl | rfl | rfl | rfl | rfl | rfl | rfl | rfl | rfl | rfl
  all_goals
    try (have e := z1.resolve_left (by decide); subst e)
    try (have e := z2.resolve_left (by decide); subst e)
    try (have e := z3.resolve_left (by decide); subst e)
    try (have e := z4.resolve_left (by decide); subst e)
    try (have e := z5.resolve_left (by decide); subst e)
    try (have e := z6.resolve_left (by decide); subst e)
    try (have e := z7.resolve_left (by decide); subst e)
    try (have e := z8.resolve_left (by decide); subst e)
    exact ⟨rfl, rfl⟩
/-! ### Heads -/
def okH (h : Hd) : Prop := (0 ≤ h.1 ∧ h.1 < 256) ∧ (0 ≤ h.2.1 ∧ h.2.1 < 256)
theorem hdB_nb {h : Hd} (ho : okH h) (R : List UInt8) : hdB h ++ R = nb h.1.toNat 1 ++ (nb h.2.1.toNat 1 ++ (nb h.2.2.1.toNat 4 ++ (nb h.2.2.2.1.toNat 4 ++ (nb h.2.2.2.2.1.toNat 4 ++ (nb h.2.2.2.2.2.toNat 4 ++ R))))) := by
  obtain ⟨h1, h2⟩ := ho
  rw [nb_one (by omega), nb_one (by omega)]
  simp [hdB]
theorem hd_rd {h : Hd} (ho : okH h) (hw : wdH h) (R : List UInt8) : hdP (some (hdB h ++ R)) = h ∧ hdR (some (hdB h ++ R)) = some R := by
  obtain ⟨⟨w1, w2⟩, ⟨w3, w4⟩, ⟨w5, w6⟩, ⟨w7, w8⟩⟩ := hw
  have ho' := ho
  obtain ⟨⟨o1, o2⟩, ⟨o3, o4⟩⟩ := ho'
  rw [hdB_nb ho]
  unfold hdP hdR
  simp only [tk_nb]
  rw [tv_nb (show _ < 256 from by omega), tv_nb (show _ < 256 from by omega), tv_nb (show _ < 4294967296 from by omega), tv_nb (show _ < 4294967296 from by omega), tv_nb (show _ < 4294967296 from by omega), tv_nb (show _ < 4294967296 from by omega)]
  refine ⟨?_, trivial⟩
  obtain ⟨a, b, c, d, e, f⟩ := h
  dsimp only at *
  rw [Int.toNat_of_nonneg o1, Int.toNat_of_nonneg o3, Int.toNat_of_nonneg w1, Int.toNat_of_nonneg w3, Int.toNat_of_nonneg w5, Int.toNat_of_nonneg w7]
theorem hd_gu {h : Hd} (ho : okH h) (hw : wdH h) {P R : List UInt8} (hP : P = hdB h ++ R) : guH P = h ∧ P.drop 18 = R := by
  obtain ⟨⟨w1, w2⟩, ⟨w3, w4⟩, ⟨w5, w6⟩, ⟨w7, w8⟩⟩ := hw
  have ho' := ho
  obtain ⟨⟨o1, o2⟩, ⟨o3, o4⟩⟩ := ho'
  rw [hdB_nb ho] at hP
  have p0 : P.drop 0 = _ := hP
  have p1 := drop_of p0 (nb_len _ _)
  have p2 := drop_of p1 (nb_len _ _)
  have p3 := drop_of p2 (nb_len _ _)
  have p4 := drop_of p3 (nb_len _ _)
  have p5 := drop_of p4 (nb_len _ _)
  have p6 := drop_of p5 (nb_len _ _)
  refine ⟨?_, p6⟩
  unfold guH
  rw [gv_of p0 (show _ < 256 from by omega), gv_of p1 (show _ < 256 from by omega), gv_of p2 (show _ < 4294967296 from by omega), gv_of p3 (show _ < 4294967296 from by omega), gv_of p4 (show _ < 4294967296 from by omega), gv_of p5 (show _ < 4294967296 from by omega)]
  obtain ⟨a, b, c, d, e, f⟩ := h
  dsimp only at *
  rw [Int.toNat_of_nonneg o1, Int.toNat_of_nonneg o3, Int.toNat_of_nonneg w1, Int.toNat_of_nonneg w3, Int.toNat_of_nonneg w5, Int.toNat_of_nonneg w7]
theorem hd_wr {r : Rd} {X : List UInt8} (h : hdR r = some X) : ∃ P, r = some P ∧ P = hdB (hdP r) ++ X := by
  obtain ⟨X5, h5, e5⟩ := tk_some h
  obtain ⟨X4, h4, e4⟩ := tk_some h5
  obtain ⟨X3, h3, e3⟩ := tk_some h4
  obtain ⟨X2, h2, e2⟩ := tk_some h3
  obtain ⟨X1, h1, e1⟩ := tk_some h2
  obtain ⟨P, h0, e0⟩ := tk_some h1
  have q1 := tvR_lt 1 r
  have q2 := tvR_lt 1 (tkR 1 r)
  refine ⟨P, h0, ?_⟩
  rw [hdB_nb (h := hdP r) (by unfold okH hdP; dsimp only; omega)]
  unfold hdP
  dsimp only
  simp only [Int.toNat_natCast]
  rw [e0, e1, e2, e3, e4, e5]
theorem hdP_wd (r : Rd) : wdH (hdP r) ∧ okH (hdP r) := by
  have q1 := tvR_lt 1 r
  have q2 := tvR_lt 1 (tkR 1 r)
  have q3 := tvR_lt 4 (tkR 1 (tkR 1 r))
  have q4 := tvR_lt 4 (tkR 4 (tkR 1 (tkR 1 r)))
  have q5 := tvR_lt 4 (tkR 4 (tkR 4 (tkR 1 (tkR 1 r))))
  have q6 := tvR_lt 4 (tkR 4 (tkR 4 (tkR 4 (tkR 1 (tkR 1 r)))))
  unfold wdH okH hdP
  dsimp only
  omega
theorem guH_wd (P : List UInt8) : wdH (guH P) ∧ okH (guH P) := by
  have q1 := gvR_lt P 1 0
  have q2 := gvR_lt P 1 1
  have q3 := gvR_lt P 4 2
  have q4 := gvR_lt P 4 6
  have q5 := gvR_lt P 4 10
  have q6 := gvR_lt P 4 14
  unfold wdH okH guH
  dsimp only
  omega
end
end Go.Proofs.YtgdijpcopdgapaaDoor

/- Tally: what bytes say is the same, read either way (3). -/
namespace Go.Proofs.YtgdijpcopdgapaaDoor
open Go Go.Proofs.YtgdijpcopdgapaaDoor.D
set_option linter.unusedVariables false
set_option linter.unusedSimpArgs false
noncomputable section

theorem kd_nb {k : Int} (h : 1 ≤ k ∧ k ≤ 11) (R : List UInt8) : [UInt8.ofNat k.toNat] ++ R = nb k.toNat 1 ++ R := by rw [nb_one (by omega)]
theorem ok_of_enc {h : Hd} {m : Ms} {cl : List Clm} {P : List UInt8} (hk : mayK h m cl) (hz : zok m cl) (hw : wdH h) (wm : wdM m cl) (hP : P = encP h m cl) :
    (hdP (some P) = h ∧ bodyR (some P) = (m, cl, some []) ∧ (kdR (some P) : Int) = m.1) ∧ guH P = h ∧ (guM P).1 = m ∧ (guM P).2.1 = cl := by
  obtain ⟨⟨⟨f1, f2⟩, ⟨f3, f4⟩, _⟩, hkd, ⟨⟨⟨n1, n2⟩, ⟨n3, n4⟩, ⟨n5, n6⟩, ⟨n7, n8⟩, ⟨n9, n10⟩, n11⟩, hcls⟩⟩ := hk
  have ho : okH h := by unfold okH; omega
  obtain ⟨⟨w9, w10⟩, ⟨w11, w12⟩, w13⟩ := wm
  have hcl : ∀ c ∈ cl, okC c := by
    intro c hcm
    refine ⟨?_, w13 c hcm⟩
    obtain ⟨i, hi, rfl⟩ := List.getElem_of_mem hcm
    have := (hcls i hi).1
    rw [getD_at hi] at this
    omega
  have hok : ∀ f ∈ fldK m.1, f ≠ 8 → okF f (getF f m) := by
    intro f hf h8
    have := fld_range hkd.1 hkd.2 f hf
    rcases f_case this with rfl | rfl | rfl | rfl | rfl | rfl | rfl | rfl
    · show 0 ≤ m.2.1 ∧ m.2.1 < 65536; omega
    · show 0 ≤ m.2.2.1 ∧ m.2.2.1 < 4294967296; omega
    · show 0 ≤ m.2.2.2.1 ∧ m.2.2.2.1 < 18446744073709551616; omega
    · show 0 ≤ m.2.2.2.2.1 ∧ m.2.2.2.2.1 < 256; omega
    · show 0 ≤ m.2.2.2.2.2.1 ∧ m.2.2.2.2.2.1 < 256; omega
    · show 0 ≤ m.2.2.2.2.2.2.1 ∧ m.2.2.2.2.2.2.1 < 256; omega
    · show -1 ≤ m.2.2.2.2.2.2.2 ∧ m.2.2.2.2.2.2.2 ≤ 63; omega
    · exact (h8 rfl).elim
  have hP1 : P = hdB h ++ (nb m.1.toNat 1 ++ ((fldK m.1).flatMap (fb m cl) ++ [])) := by
    rw [hP, ← kd_nb hkd]
    unfold encP
    simp
  obtain ⟨fe1, fe2⟩ := fin_eq hkd hz
  have hkt : ((m.1.toNat : Nat) : Int) = m.1 := by omega
  constructor
  · obtain ⟨r1, r2⟩ := hd_rd ho hw (nb m.1.toNat 1 ++ ((fldK m.1).flatMap (fb m cl) ++ []))
    rw [← hP1] at r1 r2
    have hkr : kdR (some P) = m.1.toNat := by unfold kdR; rw [r2, tv_nb (show _ < 256 from by omega)]
    refine ⟨r1, ?_, by rw [hkr]; exact hkt⟩
    unfold bodyR
    rw [if_pos (by rw [hkr]; omega), hkr, hkt, r2, tk_nb]
    unfold msgP
    rw [rd_fold hcl (by omega) _ _ _ (fld_range hkd.1 hkd.2) hok, fe1, fe2]
  · obtain ⟨r1, r2⟩ := hd_gu ho hw hP1
    have hgk := gv_of r2 (show _ < 256 from by omega)
    have r3 := drop_of r2 (nb_len _ _)
    refine ⟨r1, ?_⟩
    unfold guM
    rw [hgk, hkt]
    unfold fldZ
    rw [if_pos hkd]
    obtain ⟨g1, g2⟩ := gu_fold hcl (by omega) (fldK m.1) (m.1, 0, 0, 0, 0, 0, 0, 0) [] 19 (fld_range hkd.1 hkd.2) hok r3
    rw [g1, g2, fe1, fe2]
    exact ⟨rfl, rfl⟩
theorem wdM_put {f v : Int} {m : Ms} {c : List Clm} (h : wdM m c) (h2 : f = 2 → 0 ≤ v ∧ v < 4294967296) (h3 : f = 3 → 0 ≤ v ∧ v < 18446744073709551616) : wdM (putF f v m) c := by
  obtain ⟨a, b, d⟩ := h
  refine ⟨?_, ?_, d⟩
  · unfold putF
    repeat' split
    all_goals first | exact a | exact h2 (by assumption)
  · unfold putF
    repeat' split
    all_goals first | exact b | exact h3 (by assumption)
theorem wdM_app {m : Ms} {c d : List Clm} (h : wdM m c) (hd : ∀ x ∈ d, okC x) : wdM m (c ++ d) := by
  obtain ⟨a, b, e⟩ := h
  refine ⟨a, b, fun x hx => ?_⟩
  rcases List.mem_append.1 hx with hx | hx
  · exact e x hx
  · exact (hd x hx).2
theorem gu_keep {P : List UInt8} : ∀ (fs : List Int) (m0 : Ms) (c0 : List Clm) (a : Nat), (∀ f ∈ fs, 1 ≤ f ∧ f ≤ 8) →
    (∀ g, 0 ≤ g → g ≤ 7 → g ∉ fs → getF g (fs.foldl (stG P) (m0, c0, a)).1 = getF g m0) ∧ ((8 : Int) ∉ fs → (fs.foldl (stG P) (m0, c0, a)).2.1 = c0) ∧ (wdM m0 c0 → wdM (fs.foldl (stG P) (m0, c0, a)).1 (fs.foldl (stG P) (m0, c0, a)).2.1) ∧
      (fs.foldl (stG P) (m0, c0, a)).2.1.length ≤ c0.length + 255 * fs.count 8 ∧ (fs.foldl (stG P) (m0, c0, a)).2.2 ≤ a + 1600 * fs.length := by
  intro fs
  induction fs with
  | nil => intro m0 c0 a _; exact ⟨fun _ _ _ _ => rfl, fun _ => rfl, fun h => h, by simp, by simp⟩
  | cons f fs ih =>
    intro m0 c0 a hr
    have hf := hr f (by simp)
    rw [List.foldl_cons]
    by_cases h8 : f = 8
    · subst h8
      have e : stG P (m0, c0, a) 8 = (m0, c0 ++ gcl P (a + 1) (gvR P 1 a), a + 1 + 6 * gvR P 1 a) := rfl
      rw [e]
      obtain ⟨i1, i2, i3, i4, i5⟩ := ih m0 (c0 ++ gcl P (a + 1) (gvR P 1 a)) (a + 1 + 6 * gvR P 1 a) fun g hg => hr g (by simp [hg])
      have hv := gvR_lt P 1 a
      refine ⟨fun g g0 g7 hg => i1 g g0 g7 fun h => hg (by simp [h]), fun h => (h (by simp)).elim, fun hw => i3 (wdM_app hw (gcl_ok _ _ _)), ?_, ?_⟩
      · rw [List.length_append, gcl_len] at i4
        rw [List.count_cons_self]
        omega
      · rw [List.length_cons]
        omega
    · have h17 : 1 ≤ f ∧ f ≤ 7 := by omega
      have e : stG P (m0, c0, a) f = (putF f (gdV f (gvR P (wdF f) a)) m0, c0, a + wdF f) := if_neg h8
      rw [e]
      obtain ⟨i1, i2, i3, i4, i5⟩ := ih (putF f (gdV f (gvR P (wdF f) a)) m0) c0 (a + wdF f) fun g hg => hr g (by simp [hg])
      refine ⟨fun g g0 g7 hg => ?_, fun h => i2 fun h2 => h (by simp [h2]), fun hw => i3 (wdM_put hw (fun h => ?_) fun h => ?_), ?_, ?_⟩
      · rw [i1 g g0 g7 fun h => hg (by simp [h]), get_put h17 ⟨g0, g7⟩, if_neg fun h => hg (by simp [h])]
      · subst h
        have := gvR_lt P 4 a
        show (0 : Int) ≤ (gvR P 4 a : Int) ∧ (gvR P 4 a : Int) < _
        omega
      · subst h
        have := gvR_lt P 8 a
        show (0 : Int) ≤ (gvR P 8 a : Int) ∧ (gvR P 8 a : Int) < _
        omega
      · have := List.count_cons (a := (8 : Int)) (b := f) (l := fs)
        omega
      · have hw : wdF f ≤ 8 := by unfold wdF; repeat' split
                                  all_goals omega
        rw [List.length_cons]
        omega
theorem rd_wd : ∀ (fs : List Int) (m0 : Ms) (c0 : List Clm) (r : Rd), (∀ f ∈ fs, 1 ≤ f ∧ f ≤ 8) → wdM m0 c0 → wdM (fs.foldl stP (m0, c0, r)).1 (fs.foldl stP (m0, c0, r)).2.1 := by
  intro fs
  induction fs with
  | nil => intro m0 c0 r _ h; exact h
  | cons f fs ih =>
    intro m0 c0 r hr h
    have hf := hr f (by simp)
    rw [List.foldl_cons]
    by_cases h8 : f = 8
    · subst h8
      have e : stP (m0, c0, r) 8 = (m0, c0 ++ (clsP (tvR 1 r) (tkR 1 r)).1, (clsP (tvR 1 r) (tkR 1 r)).2) := rfl
      rw [e]
      exact ih _ _ _ (fun g hg => hr g (by simp [hg])) (wdM_app h (cls_ok _ _))
    · have h17 : 1 ≤ f ∧ f ≤ 7 := by omega
      have e : stP (m0, c0, r) f = (setM f (tvR (wdF f) r) m0, c0, tkR (wdF f) r) := if_neg h8
      rw [e, setM_put h17]
      refine ih _ _ _ (fun g hg => hr g (by simp [hg])) (wdM_put h (fun h => ?_) fun h => ?_)
      · subst h
        have := tvR_lt 4 r
        show (0 : Int) ≤ (tvR 4 r : Int) ∧ (tvR 4 r : Int) < _
        omega
      · subst h
        have := tvR_lt 8 r
        show (0 : Int) ≤ (tvR 8 r : Int) ∧ (tvR 8 r : Int) < _
        omega
theorem wdM_0 (k : Int) : wdM (k, 0, 0, 0, 0, 0, 0, 0) [] := ⟨⟨by show (0 : Int) ≤ 0; omega, by show (0 : Int) < _; omega⟩, ⟨by show (0 : Int) ≤ 0; omega, by show (0 : Int) < _; omega⟩, fun c h => by cases h⟩
theorem get_zero {g k : Int} (h1 : 1 ≤ g) (h7 : g ≤ 7) : getF g (k, 0, 0, 0, 0, 0, 0, 0) = 0 := by
  rcases f_case ⟨h1, by omega⟩ with rfl | rfl | rfl | rfl | rfl | rfl | rfl | rfl <;> rfl
theorem fld8 {k : Int} (h : 1 ≤ k ∧ k ≤ 11) : (fldK k).count 8 ≤ 1 := by
  rcases kind_case h.1 h.2 with rfl | rfl | rfl | rfl | rfl | rfl | rfl | rfl | rfl | rfl | rfl <;> decide
theorem fldZ_range (k : Int) : ∀ f ∈ fldZ k, 1 ≤ f ∧ f ≤ 8 := by
  unfold fldZ
  split
  · rename_i h; exact fld_range h.1 h.2
  · intro f h; cases h
theorem not0 {k : Int} : (0 : Int) ∉ fldZ k := fun h => by have := fldZ_range k 0 h; omega
/-- What is guessed out of bytes. -/
theorem gu_facts (P : List UInt8) : (guM P).1.1 = (gvR P 1 18 : Int) ∧ wdM (guM P).1 (guM P).2.1 ∧ (guM P).2.1.length ≤ 255 ∧ (1 ≤ (guM P).1.1 ∧ (guM P).1.1 ≤ 11 → zok (guM P).1 (guM P).2.1) := by
  obtain ⟨i1, i2, i3, i4, i5⟩ := gu_keep (P := P) (fldZ (gvR P 1 18 : Int)) ((gvR P 1 18 : Int), 0, 0, 0, 0, 0, 0, 0) [] 19 (fldZ_range _)
  have hk : (guM P).1.1 = (gvR P 1 18 : Int) := i1 0 (by omega) (by omega) not0
  refine ⟨hk, i3 (wdM_0 _), ?_, fun h => ?_⟩
  · have hc : (fldZ (gvR P 1 18 : Int)).count 8 ≤ 1 := by
      unfold fldZ
      split
      · rename_i h; exact fld8 h
      · simp
    have : (guM P).2.1.length ≤ ([] : List Clm).length + 255 * (fldZ (gvR P 1 18 : Int)).count 8 := i4
    simp at this
    omega
  · have hz : fldZ (gvR P 1 18 : Int) = fldK (gvR P 1 18 : Int) := if_pos (by rw [← hk]; exact h)
    refine zok_of h (fun g g1 g7 hg => ?_) fun h8 => ?_
    · rw [hk, ← hz] at hg
      rw [show getF g (guM P).1 = _ from i1 g (by omega) g7 hg, get_zero g1 g7]
    · rw [hk, ← hz] at h8
      exact i2 h8
theorem okR_enc {P : List UInt8} (h : okR (some P)) : P = encP (hdP (some P)) (bodyR (some P)).1 (bodyR (some P)).2.1 ∧ zok (bodyR (some P)).1 (bodyR (some P)).2.1 ∧ wdM (bodyR (some P)).1 (bodyR (some P)).2.1 := by
  obtain ⟨h1, h2⟩ := h
  by_cases hk : 1 ≤ kdR (some P) ∧ kdR (some P) ≤ 11
  · have hb : bodyR (some P) = msgP (kdR (some P)) (tkR 1 (hdR (some P))) := if_pos hk
    rw [hb] at h1 ⊢
    have hki : 1 ≤ ((kdR (some P) : Nat) : Int) ∧ ((kdR (some P) : Nat) : Int) ≤ 11 := by omega
    obtain ⟨⟨X, hx, ex⟩, hg, hc⟩ := wr_fold (Y := []) (fldK ((kdR (some P) : Nat) : Int)) (fld_nodup hki) (fld_range hki.1 hki.2) (((kdR (some P) : Nat) : Int), 0, 0, 0, 0, 0, 0, 0) [] (tkR 1 (hdR (some P))) (msgP (kdR (some P)) (tkR 1 (hdR (some P)))).1 (msgP (kdR (some P)) (tkR 1 (hdR (some P)))).2.1
      (by rw [← h1]; rfl) (fun _ => rfl)
    have h0 : (msgP (kdR (some P)) (tkR 1 (hdR (some P)))).1.1 = ((kdR (some P) : Nat) : Int) := hg 0 (by omega) (by omega) fun h => by have := fld_range hki.1 hki.2 0 h; omega
    have hwd : wdM (msgP (kdR (some P)) (tkR 1 (hdR (some P)))).1 (msgP (kdR (some P)) (tkR 1 (hdR (some P)))).2.1 := rd_wd _ _ _ _ (fld_range hki.1 hki.2) (wdM_0 _)
    obtain ⟨X2, hx2, ex2⟩ := tk_some hx
    obtain ⟨P', hp, ep⟩ := hd_wr hx2
    cases hp
    refine ⟨?_, zok_of (by rw [h0]; exact hki) (fun g g1 g7 hgn => ?_) fun h8 => ?_, hwd⟩
    · generalize hm : (msgP (kdR (some P)) (tkR 1 (hdR (some P)))) = x at h0 ex ⊢
      have hkd : kdR (some P) = tvR 1 (hdR (some P)) := rfl
      unfold encP
      have hk256 : kdR (some P) < 256 := by omega
      rw [h0, Int.toNat_natCast, ← nb_one hk256]
      rw [ex2, ex, ← hkd] at ep
      rw [List.append_nil] at ep
      rw [List.append_assoc]
      exact ep
    · rw [h0] at hgn
      rw [hg g (by omega) g7 hgn, get_zero g1 g7]
    · rw [h0] at h8
      exact hc h8
  · have hb : bodyR (some P) = (zM, [], tkR 1 (hdR (some P))) := if_neg hk
    rw [hb] at h2
    have := h2.2.1.1
    simp at this
theorem ok_iff (P : List UInt8) : okR (some P) ↔ okG P := by
  constructor
  · intro h
    obtain ⟨e1, e2, e3⟩ := okR_enc h
    obtain ⟨-, g1, g2, g3⟩ := ok_of_enc h.2 e2 (hdP_wd _).1 e3 e1
    refine ⟨?_, ?_⟩
    · rw [g1, g2, g3]; exact h.2
    · rw [g1, g2, g3]; exact e1.symm
  · intro h
    obtain ⟨k1, k2, k3, k4⟩ := gu_facts P
    obtain ⟨⟨p1, p2, p3⟩, -⟩ := ok_of_enc h.1 (k4 h.1.2.1) (guH_wd P).1 k2 h.2.symm
    refine ⟨by rw [p2], ?_⟩
    rw [p1, p2]
    exact h.1
theorem ok_kind {P : List UInt8} (h : okR (some P)) : (guM P).1.1 = (kdR (some P) : Int) := by
  have hg := (ok_iff P).1 h
  obtain ⟨k1, k2, k3, k4⟩ := gu_facts P
  obtain ⟨⟨p1, p2, p3⟩, -⟩ := ok_of_enc hg.1 (k4 hg.1.2.1) (guH_wd P).1 k2 hg.2.symm
  exact p3.symm
theorem ok_none : ¬ okR none := by
  intro h
  have := h.1
  revert this
  decide
/-- Every second byte. -/
def evn : List UInt8 → List UInt8
  | [] => []
  | [a] => [a]
  | a :: _ :: r => a :: evn r
theorem evn_len : ∀ l : List UInt8, (evn l).length = (l.length + 1) / 2
  | [] => by simp [evn]
  | [a] => by simp [evn]
  | a :: b :: r => by
    have := evn_len r
    simp only [evn, List.length_cons, this]
    omega
theorem evn_at : ∀ (l : List UInt8) (i : Nat) (h : 2 * i < l.length), ∃ h' : i < (evn l).length, (evn l)[i] = l[2 * i]
  | [], i, h => by simp at h
  | [a], i, h => by
    have : i = 0 := by simp at h; omega
    subst this
    exact ⟨by simp [evn], rfl⟩
  | a :: b :: r, 0, h => ⟨by simp [evn], rfl⟩
  | a :: b :: r, i + 1, h => by
    obtain ⟨h', e⟩ := evn_at r i (by simp at h; omega)
    exact ⟨by simp [evn]; exact h', by simpa [evn, show 2 * (i + 1) = 2 * i + 1 + 1 from by omega] using e⟩
theorem evn_dbl : ∀ P : List UInt8, evn (dbl P) = P
  | [] => rfl
  | a :: r => by simp [dbl, evn, evn_dbl r]
/-- The document's reader finds a packet just where the program does. -/
theorem ref_iff (l : List UInt8) : (mayK (guH (evn l)) (guM (evn l)).1 (guM (evn l)).2.1 ∧ dbl (encP (guH (evn l)) (guM (evn l)).1 (guM (evn l)).2.1) = l) ↔ okR (unD l) := by
  constructor
  · rintro ⟨h1, h2⟩
    generalize hQ : encP (guH (evn l)) (guM (evn l)).1 (guM (evn l)).2.1 = Q at h2
    have he : evn l = Q := by rw [← h2, evn_dbl]
    rw [he] at h1 hQ
    rw [← h2, unD_dbl, ok_iff]
    exact ⟨h1, hQ⟩
  · intro h
    cases hu : unD l with
    | none => rw [hu] at h; exact (ok_none h).elim
    | some Q =>
      rw [hu] at h
      have hl := unD_some hu
      subst hl
      rw [evn_dbl]
      obtain ⟨h1, h2⟩ := (ok_iff Q).1 h
      exact ⟨h1, by rw [h2]⟩
end
end Go.Proofs.YtgdijpcopdgapaaDoor

/- Tally: a packet guessed out of bytes. -/
namespace Go.Proofs.YtgdijpcopdgapaaDoor
open Go Go.Proofs.YtgdijpcopdgapaaDoor.D
set_option linter.unusedVariables false
set_option linter.unusedSimpArgs false
noncomputable section

/-- Boxes, and own claims that grow. -/
structure CC (S0 S : St) (L : List (Nat × DObj)) (s : Sl) (l : List Clm) : Prop where
  cx : Cx noB S0 S L (slO s) (fun S' => GrX encC 2 0 S' s l)
  own : ∀ c, slO s c → S0.next ≤ c
theorem CC.start {S : St} : CC S S [] ⟨none, 0, 0⟩ [] := ⟨Cx.start noB nil_grX grX_frm fun c hc => grX_lt (nil_grX (S := S)) hc, fun c hc => by obtain ⟨o, hc⟩ := hc; cases hc⟩
section
variable {S0 S : St} {L : List (Nat × DObj)} {s : Sl} {l : List Clm}
theorem CC.ext (h : CC S0 S L s l) {S' : St} (e : Ext S S') : CC S0 S' L s l := ⟨h.cx.ext e, h.own⟩
theorem CC.tl (h : CC S0 S L s l) (n : Nat) : CC S0 S (L.drop n) s l := ⟨h.cx.tl n, h.own⟩
theorem CC.new (h : CC S0 S L s l) {o : DObj} {k : Nat → St → Prop} (hk : ∀ b S', CC S0 S' ((b, o) :: L) s l → k b S') : newW S o k := h.cx.new fun b S' hL _ _ => hk b S' ⟨hL, h.own⟩
theorem CC.st (h : CC S0 S L s l) (i : Nat) {b o t : Nat} (n : Nat) {cs cs' : List Value} {more : Option Nat} {v : Value} {k : St → Prop} (hi : L[i]? = some (b, .cells cs more false none)) (ht : stOk E0 t n = true) (hn : (cellsOf v).length = n) (ho : o + n ≤ cs.length)
    (hone : (cellsOf v).all St.one = true) (hcs : cs.take o ++ (cellsOf v ++ cs.drop (o + n)) = cs') (hk : ∀ S', CC S0 S' (L.set i (b, .cells cs' more false none)) s l → k S') : evS (storeV E0 S t (.pointer (some ⟨b, o, none⟩)) v) k :=
  h.cx.st i n hi ht hn ho hone hcs fun S' hL _ => hk S' ⟨hL, h.own⟩
theorem CC.app (h : CC S0 S L s l) (i : Nat) {b : Nat} {x : Clm} (hi : L[i]? = some (b, .cells (encC x) none false none)) (hl : l.length ≤ 100000)
    {k : Sl → St → Prop} (hk : ∀ s' S', CC S0 S' L s' (l ++ [x]) → k s' S') : evP tS (appendD E0 S 52 52 (.slice s.a s.len s.cap) (.slice (some ⟨b, 0, none⟩) 1 1)) k :=
  app_clm h.cx.p (h.cx.at i hi) (by omega) fun s' S' g m hs => hk s' S' ⟨h.cx.op m (fun _ h => h) (fun c hc hlt => by have := h.own c hc; omega) g grX_frm hs fun c hc => grX_lt g hc, fun c hc => by
    rcases hs c hc with hc | hc
    · exact h.own c hc
    · exact Nat.le_trans h.cx.mod.next hc⟩
end
theorem ltrs_Z (k : Int) : ltrs k = (fldZ k).map ltr := by
  unfold ltrs fldZ
  split <;> rfl
theorem fldZ_len (k : Int) : (fldZ k).length ≤ 5 := by
  unfold fldZ
  split
  · rename_i h; exact fld_len k h
  · simp
def guI (P : List UInt8) (i : Nat) : Ms × List Clm × Nat := ((fldZ (gvR P 1 18 : Int)).take i).foldl (stG P) (((gvR P 1 18 : Int), 0, 0, 0, 0, 0, 0, 0), [], 19)
theorem guI_succ {P : List UInt8} {i : Nat} (hi : i < (fldZ (gvR P 1 18 : Int)).length) : guI P (i + 1) = stG P (guI P i) (fldZ (gvR P 1 18 : Int))[i] := by
  unfold guI
  rw [List.take_succ_eq_append_getElem hi, List.foldl_append]
  rfl
theorem guI_all (P : List UInt8) : guI P (fldZ (gvR P 1 18 : Int)).length = guM P := by unfold guI guM; rw [List.take_length]
theorem guI_at (P : List UInt8) (i : Nat) : (guI P i).2.2 ≤ 19 + 1600 * 5 ∧ (guI P i).2.1.length ≤ 255 * 5 := by
  obtain ⟨_, _, _, h1, h2⟩ := gu_keep (P := P) ((fldZ (gvR P 1 18 : Int)).take i) ((gvR P 1 18 : Int), 0, 0, 0, 0, 0, 0, 0) [] 19 fun f hf => fldZ_range _ f (List.mem_of_mem_take hf)
  have hl := fldZ_len (gvR P 1 18 : Int)
  have h3 : ((fldZ (gvR P 1 18 : Int)).take i).length ≤ 5 := by rw [List.length_take]; omega
  have h4 := List.count_le_length (a := (8 : Int)) (l := (fldZ (gvR P 1 18 : Int)).take i)
  have h1 : (guI P i).2.1.length ≤ ([] : List Clm).length + 255 * ((fldZ (gvR P 1 18 : Int)).take i).count 8 := h1
  have h2 : (guI P i).2.2 ≤ 19 + 1600 * ((fldZ (gvR P 1 18 : Int)).take i).length := h2
  simp at h1
  omega
theorem wadd {a n : Nat} {z : Int} (hz : z = (n : Int)) (ha : a ≤ 1000000) (hn : n ≤ 1000000) : wrapI .i64 ((a : Int) + z) = ((a + n : Nat) : Int) := by
  subst hz
  rw [wrap_i64 (by omega) (by omega)]
  omega
theorem gd7 {v : Nat} (h : v ≠ 255) : gdV 7 v = (v : Int) := by unfold gdV; rw [if_pos rfl, if_neg h]
set_option maxHeartbeats 4000000 in
theorem s32 {b : Sl} {P : List UInt8} {S : St} (hb : Bs S b P) {k : Value → St → Prop} (hk : ∀ sc S', Ext S S' → SlOf encC 2 S' sc (guM P).2.1 → k (sv G55 (pv (guH P) (guM P).1 sc)) S') : WC E0 32 [.slice b.a b.len b.cap] S k := by
  refine w32 b ?_
  unfold c32
  have hB := CC.start (S := S)
  have q1 := gvR_lt P 1 0
  have q2 := gvR_lt P 1 1
  have q3 := gvR_lt P 4 2
  have q4 := gvR_lt P 4 6
  have q5 := gvR_lt P 4 10
  have q6 := gvR_lt P 4 14
  have q7 := gvR_lt P 1 18
  refine hB.new fun b1 S1 hB => ?_
  have hb1 := Ext.slOf hB.cx.mod hb
  refine evC_of (s41 (a := 0) (n := 1) hb1 (by omega) (by omega) ⟨_, rfl, ?_⟩)
  refine evC_of (s41 (a := 1) (n := 1) hb1 (by omega) (by omega) ⟨_, rfl, ?_⟩)
  refine evC_of (s41 (a := 2) (n := 4) hb1 (by omega) (by omega) ⟨_, rfl, ?_⟩)
  refine evC_of (s41 (a := 6) (n := 4) hb1 (by omega) (by omega) ⟨_, rfl, ?_⟩)
  refine evC_of (s41 (a := 10) (n := 4) hb1 (by omega) (by omega) ⟨_, rfl, ?_⟩)
  refine evC_of (s41 (a := 14) (n := 4) hb1 (by omega) (by omega) ⟨_, rfl, ?_⟩)
  rw [wrap_i64 (n := (gvR P 1 0 : Int)) (by omega) (by omega), wrap_i64 (n := (gvR P 1 1 : Int)) (by omega) (by omega), wrap_u32 (n := (gvR P 4 2 : Int)) (by omega) (by omega), wrap_u32 (n := (gvR P 4 6 : Int)) (by omega) (by omega),
    wrap_u32 (n := (gvR P 4 10 : Int)) (by omega) (by omega), wrap_u32 (n := (gvR P 4 14 : Int)) (by omega) (by omega)]
  refine hB.new fun b2 S8 hB => ?_
  refine hB.st 0 15 rfl (by kernel_rfl) rfl (Nat.le_of_ble_eq_true rfl) rfl rfl fun S9 hB => ?_
  refine evC_of (s41 (a := 18) (n := 1) (Ext.slOf hB.cx.mod hb) (by omega) (by omega) ⟨_, rfl, ?_⟩)
  rw [wrap_i64 (n := (gvR P 1 18 : Int)) (by omega) (by omega)]
  refine hB.new fun b3 S11 hB => ?_
  refine hB.st 0 9 rfl (by kernel_rfl) rfl (Nat.le_of_ble_eq_true rfl) rfl rfl fun S12 hB => ?_
  have hB : CC S S12 [(b3, .cells (cellsM (guI P 0).1 ⟨none, 0, 0⟩) none false none), (b2, .cells (cellsH (guH P) ++ cellsM zM zS) none false none), (b1, .cells (cellsH (0, 0, 0, 0, 0, 0) ++ cellsM zM zS) none false none)] ⟨none, 0, 0⟩ (guI P 0).2.1 := hB
  refine ptrW_of ?_
  refine hB.cx.ld 0 rfl (by kernel_rfl) ((gvR P 1 18 : Nat) : Int) rfl ?_
  refine evC_of (s42 ⟨_, rfl, ?_⟩)
  rw [ltrs_Z]
  have hfr := fldZ_range (gvR P 1 18 : Int)
  have hsucc := @guI_succ P
  have hall := guI_all P
  have hfl := fldZ_len (gvR P 1 18 : Int)
  generalize fldZ (gvR P 1 18 : Int) = F at hfr hsucc hall hfl ⊢
  have hml : (F.map ltr).length = F.length := List.length_map ..
  refine loopW_ind (fun q (x : Int × Int) S' => ∃ (i : Nat) (sc : Sl), x = (((guI P i).2.2 : Int), (i : Int)) ∧ i ≤ F.length ∧ q = F.length - i ∧
    CC S S' [(b3, .cells (cellsM (guI P i).1 sc) none false none), (b2, .cells (cellsH (guH P) ++ cellsM zM zS) none false none), (b1, .cells (cellsH (0, 0, 0, 0, 0, 0) ++ cellsM zM zS) none false none)] sc (guI P i).2.1) (m := F.length) ⟨0, ⟨none, 0, 0⟩, rfl, by omega, rfl, hB⟩ ?_
  rintro Pk q x S14 ⟨i, sc, rfl, hi, rfl, hB⟩ hP
  dsimp only
  rw [hml]
  refine ifW_dec (fun hlt => ?_) fun hlt => ?_
  · have hi' : i < F.length := by omega
    refine evV_of (ty := tU8) _ (indexD_str und9 (by rw [hml]; exact hi')) ?_
    rw [List.getElem_map]
    have hf := hfr _ (List.getElem_mem hi')
    have hsu := hsucc hi'
    have hat := guI_at P i
    have hb1 := Ext.slOf hB.cx.mod hb
    generalize F[i] = f at hf hsu ⊢
    generalize guI P i = x at hsu hat hB ⊢
    obtain ⟨m, cl, a⟩ := x
    dsimp only at hB hat ⊢
    have hstep : ∀ (a' : Nat) sc' S' m' cl', stG P (m, cl, a) f = (m', cl', a') →
        CC S S' [(b3, .cells (cellsM m' sc') none false none), (b2, .cells (cellsH (guH P) ++ cellsM zM zS) none false none), (b1, .cells (cellsH (0, 0, 0, 0, 0, 0) ++ cellsM zM zS) none false none)] sc' cl' → Pk ((a' : Int), wrapI .i64 ((i : Int) + 1)) S' := by
      intro a' sc' S' m' cl' hs hB
      rw [hs] at hsu
      rw [wrap_succ (by omega)]
      refine hP _ _ _ (by omega) ⟨i + 1, sc', by rw [hsu], by omega, rfl, ?_⟩
      rw [hsu]
      exact hB
    rcases f_case hf with rfl | rfl | rfl | rfl | rfl | rfl | rfl | rfl
    · refine ifW_pos (by decide) ?_
      refine evC_of (s41 (a := a) (n := 2) hb1 (by omega) (by omega) ⟨_, rfl, ?_⟩)
      have hv := gvR_lt P 2 a
      rw [wrap_i64 (n := (gvR P 2 a : Int)) (by omega) (by omega), wadd (a := a) (n := 2) (z := 2) rfl (by omega) (by omega)]
      refine ptrW_of ?_
      refine hB.st 0 1 rfl (by kernel_rfl) rfl (Nat.le_of_ble_eq_true rfl) rfl rfl fun S16 hB => ?_
      exact hstep _ _ _ _ _ rfl hB
    · refine ifW_neg (by decide) (ifW_pos (by decide) ?_)
      refine evC_of (s41 (a := a) (n := 4) hb1 (by omega) (by omega) ⟨_, rfl, ?_⟩)
      have hv := gvR_lt P 4 a
      rw [wrap_u32 (n := (gvR P 4 a : Int)) (by omega) (by omega), wadd (a := a) (n := 4) (z := 4) rfl (by omega) (by omega)]
      refine ptrW_of ?_
      refine hB.st 0 1 rfl (by kernel_rfl) rfl (Nat.le_of_ble_eq_true rfl) rfl rfl fun S16 hB => ?_
      exact hstep _ _ _ _ _ rfl hB
    · refine ifW_neg (by decide) (ifW_neg (by decide) (ifW_pos (by decide) ?_))
      refine evC_of (s41 (a := a) (n := 8) hb1 (by omega) (by omega) ⟨_, rfl, ?_⟩)
      rw [wadd (a := a) (n := 8) (z := 8) rfl (by omega) (by omega)]
      refine ptrW_of ?_
      refine hB.st 0 1 rfl (by kernel_rfl) rfl (Nat.le_of_ble_eq_true rfl) rfl rfl fun S16 hB => ?_
      exact hstep _ _ _ _ _ rfl hB
    · refine ifW_neg (by decide) (ifW_neg (by decide) (ifW_neg (by decide) (ifW_pos (by decide) ?_)))
      refine evC_of (s41 (a := a) (n := 1) hb1 (by omega) (by omega) ⟨_, rfl, ?_⟩)
      have hv := gvR_lt P 1 a
      rw [wrap_i64 (n := (gvR P 1 a : Int)) (by omega) (by omega), wadd (a := a) (n := 1) (z := 1) rfl (by omega) (by omega)]
      refine ptrW_of ?_
      refine hB.st 0 1 rfl (by kernel_rfl) rfl (Nat.le_of_ble_eq_true rfl) rfl rfl fun S16 hB => ?_
      exact hstep _ _ _ _ _ rfl hB
    · refine ifW_neg (by decide) (ifW_neg (by decide) (ifW_neg (by decide) (ifW_neg (by decide) (ifW_pos (by decide) ?_))))
      refine evC_of (s41 (a := a) (n := 1) hb1 (by omega) (by omega) ⟨_, rfl, ?_⟩)
      have hv := gvR_lt P 1 a
      rw [wrap_i64 (n := (gvR P 1 a : Int)) (by omega) (by omega), wadd (a := a) (n := 1) (z := 1) rfl (by omega) (by omega)]
      refine ptrW_of ?_
      refine hB.st 0 1 rfl (by kernel_rfl) rfl (Nat.le_of_ble_eq_true rfl) rfl rfl fun S16 hB => ?_
      exact hstep _ _ _ _ _ rfl hB
    · refine ifW_neg (by decide) (ifW_neg (by decide) (ifW_neg (by decide) (ifW_neg (by decide) (ifW_neg (by decide) (ifW_pos (by decide) ?_)))))
      refine evC_of (s41 (a := a) (n := 1) hb1 (by omega) (by omega) ⟨_, rfl, ?_⟩)
      have hv := gvR_lt P 1 a
      rw [wrap_i64 (n := (gvR P 1 a : Int)) (by omega) (by omega), wadd (a := a) (n := 1) (z := 1) rfl (by omega) (by omega)]
      refine ptrW_of ?_
      refine hB.st 0 1 rfl (by kernel_rfl) rfl (Nat.le_of_ble_eq_true rfl) rfl rfl fun S16 hB => ?_
      exact hstep _ _ _ _ _ rfl hB
    · refine ifW_neg (by decide) (ifW_neg (by decide) (ifW_neg (by decide) (ifW_neg (by decide) (ifW_neg (by decide) (ifW_neg (by decide) (ifW_pos (by decide) ?_))))))
      refine evC_of (s41 (a := a) (n := 1) hb1 (by omega) (by omega) ⟨_, rfl, ?_⟩)
      have hv := gvR_lt P 1 a
      rw [wrap_i64 (n := (gvR P 1 a : Int)) (by omega) (by omega), wadd (a := a) (n := 1) (z := 1) rfl (by omega) (by omega)]
      refine ptrW_of ?_
      refine hB.st 0 1 rfl (by kernel_rfl) rfl (Nat.le_of_ble_eq_true rfl) rfl rfl fun S16 hB => ?_
      refine ptrW_of ?_
      refine hB.cx.ld 0 rfl (by kernel_rfl) ((gvR P 1 a : Nat) : Int) rfl ?_
      refine ifW_dec (fun h => ?_) fun h => ?_
      · refine ptrW_of ?_
        refine hB.st 0 1 rfl (by kernel_rfl) rfl (Nat.le_of_ble_eq_true rfl) rfl rfl fun S17 hB => ?_
        refine hstep (a + 1) sc S17 (putF 7 (-1) m) cl ?_ hB
        show (putF 7 (gdV 7 (gvR P 1 a)) m, cl, a + 1) = _
        rw [show gvR P 1 a = 255 from by omega]
        rfl
      · refine hstep (a + 1) sc S16 (putF 7 ((gvR P 1 a : Nat) : Int) m) cl ?_ hB
        show (putF 7 (gdV 7 (gvR P 1 a)) m, cl, a + 1) = _
        rw [gd7 (by omega)]
    · refine ifW_neg (by decide) (ifW_neg (by decide) (ifW_neg (by decide) (ifW_neg (by decide) (ifW_neg (by decide) (ifW_neg (by decide) (ifW_neg (by decide) (ifW_pos (by decide) ?_)))))))
      refine evC_of (s41 (a := a) (n := 1) hb1 (by omega) (by omega) ⟨_, rfl, ?_⟩)
      have hv := gvR_lt P 1 a
      rw [wrap_i64 (n := (gvR P 1 a : Int)) (by omega) (by omega), wadd (a := a) (n := 1) (z := 1) rfl (by omega) (by omega)]
      refine loopW_ind (fun q (x : Int × Int) S' => ∃ (j : Nat) (sc : Sl), x = (((a + 1 + 6 * j : Nat) : Int), (j : Int)) ∧ j ≤ gvR P 1 a ∧ q = gvR P 1 a - j ∧
        CC S S' [(b3, .cells (cellsM m sc) none false none), (b2, .cells (cellsH (guH P) ++ cellsM zM zS) none false none), (b1, .cells (cellsH (0, 0, 0, 0, 0, 0) ++ cellsM zM zS) none false none)] sc (cl ++ gcl P (a + 1) j)) (m := gvR P 1 a) ⟨0, sc, rfl, by omega, rfl, by simpa [gcl] using hB⟩ ?_
      rintro Pk2 q2 x2 S31 ⟨j, sc, rfl, hj, rfl, hB⟩ hP2
      dsimp only
      refine ifW_dec (fun hlt2 => ?_) fun hlt2 => ?_
      · have hj' : j < gvR P 1 a := by omega
        have hb2 := Ext.slOf hB.cx.mod hb
        have v1 := gvR_lt P 2 (a + 1 + 6 * j)
        have v2 := gvR_lt P 4 (a + 1 + 6 * j + 2)
        refine ptrW_of ?_
        refine hB.cx.ld 0 rfl (by kernel_rfl) sc rfl ?_
        refine evC_of (s41 (a := a + 1 + 6 * j) (n := 2) hb2 (by omega) (by omega) ⟨_, rfl, ?_⟩)
        refine hB.cx.ld 0 rfl (by kernel_rfl) sc rfl ?_
        refine sameV_of ?_
        rw [wadd (a := a + 1 + 6 * j) (n := 2) (z := 2) rfl (by omega) (by omega)]
        refine evC_of (s41 (a := a + 1 + 6 * j + 2) (n := 4) hb2 (by omega) (by omega) ⟨_, rfl, ?_⟩)
        refine hB.cx.ld 0 rfl (by kernel_rfl) sc rfl ?_
        refine sameV_of ?_
        rw [wrap_i64 (n := (gvR P 2 (a + 1 + 6 * j) : Int)) (by omega) (by omega), wrap_u32 (n := (gvR P 4 (a + 1 + 6 * j + 2) : Int)) (by omega) (by omega)]
        refine hB.new fun b26 S34 hB => ?_
        refine hB.cx.ld 1 rfl (by kernel_rfl) sc rfl ?_
        refine sameV_of ?_
        refine hB.app (x := ((gvR P 2 (a + 1 + 6 * j) : Int), (gvR P 4 (a + 1 + 6 * j + 2) : Int))) 0 rfl (by rw [List.length_append, gcl_len]; omega) fun sc2 S35 hB => ?_
        refine ptrW_of ?_
        refine hB.st 1 1 rfl (by kernel_rfl) rfl (Nat.le_of_ble_eq_true rfl) rfl rfl fun S36 hB => ?_
        rw [wadd (a := a + 1 + 6 * j) (n := 6) (z := 6) rfl (by omega) (by omega), wrap_succ (by omega)]
        refine hP2 _ _ _ (by omega) ⟨j + 1, sc2, by rw [show a + 1 + 6 * j + 6 = a + 1 + 6 * (j + 1) from by omega], by omega, rfl, ?_⟩
        have hB := hB.tl 1
        rw [List.append_assoc] at hB
        exact hB
      · have e : j = gvR P 1 a := by omega
        subst e
        exact hstep _ _ _ _ _ rfl hB
  · have e : i = F.length := by omega
    subst e
    rw [hall] at hB
    refine hB.cx.lda 0 rfl (by kernel_rfl) (mv (guM P).1 sc) rfl ?_
    refine ptrW_of ?_
    refine hB.st 1 9 rfl (by kernel_rfl) rfl (Nat.le_of_ble_eq_true rfl) rfl rfl fun S37 hB => ?_
    refine hB.cx.lda 1 rfl (by kernel_rfl) (pv (guH P) (guM P).1 sc) rfl ?_
    refine hB.st 2 15 rfl (by kernel_rfl) rfl (Nat.le_of_ble_eq_true rfl) rfl rfl fun S38 hB => ?_
    refine hB.cx.lda 2 rfl (by kernel_rfl) (pv (guH P) (guM P).1 sc) rfl ?_
    exact hk sc S38 hB.cx.mod (GrX.of (f := encC) (sz := 2) (fun _ => rfl) hB.cx.p)
end
end Go.Proofs.YtgdijpcopdgapaaDoor

/- Tally: the document's reader of bytes. -/
namespace Go.Proofs.YtgdijpcopdgapaaDoor
open Go Go.Proofs.YtgdijpcopdgapaaDoor.D
set_option linter.unusedVariables false
set_option linter.unusedSimpArgs false
noncomputable section

theorem CB.st {S0 S : St} {L : List (Nat × DObj)} {s : Sl} {l : List UInt8} (h : CB S0 S L s l) (i : Nat) {b o t : Nat} (n : Nat) {cs cs' : List Value} {more : Option Nat} {v : Value} {k : St → Prop} (hi : L[i]? = some (b, .cells cs more false none)) (ht : stOk E0 t n = true) (hn : (cellsOf v).length = n) (ho : o + n ≤ cs.length)
    (hone : (cellsOf v).all St.one = true) (hcs : cs.take o ++ (cellsOf v ++ cs.drop (o + n)) = cs') (hk : ∀ S', CB S0 S' (L.set i (b, .cells cs' more false none)) s l → k S') : evS (storeV E0 S t (.pointer (some ⟨b, o, none⟩)) v) k :=
  h.cx.st i n hi ht hn ho hone hcs fun S' hL _ => hk S' ⟨hL, h.own⟩
theorem CB.stX {S0 S : St} {L : List (Nat × DObj)} {s : Sl} {l : List UInt8} (h : CB S0 S L s l) (i : Nat) {b o t : Nat} (n : Nat) {cs cs' : List Value} {more : Option Nat} {v : Value} {k : St → Prop} (hi : L[i]? = some (b, .cells cs more false none)) (ht : stOk E0 t n = true) (hn : (cellsOf v).length = n) (ho : o + n ≤ cs.length)
    (hone : (cellsOf v).all St.one = true) (hcs : cs.take o ++ (cellsOf v ++ cs.drop (o + n)) = cs') (hk : ∀ S', CB S0 S' (L.set i (b, .cells cs' more false none)) s l → Mod (fun c => c = b) S S' → k S') : evS (storeV E0 S t (.pointer (some ⟨b, o, none⟩)) v) k := by
  subst hcs
  exact ⟨_, store_cells (h.cx.at i hi) ht hn ho hone, hk _ ⟨h.cx.set i hi upd_mod (upd_at (h.cx.at i hi)), h.own⟩ upd_mod⟩
theorem CB.newX {S0 S : St} {L : List (Nat × DObj)} {s : Sl} {l : List UInt8} (h : CB S0 S L s l) {o : DObj} {k : Nat → St → Prop} (hk : ∀ b S', CB S0 S' ((b, o) :: L) s l → b = S.next → Ext S S' → k b S') : newW S o k := h.cx.newX fun b S' hL hb _ e => hk b S' ⟨hL, h.own⟩ hb e
theorem slOf_new {α : Type} {f : α → List Value} {sz : Nat} {S5 S6 S7 : St} {s : Sl} {l : List α} {b : Nat} (hs : SlOf f sz S5 s l) (e : Ext S5 S6) (hb : b = S5.next) (m : Mod (fun c => c = b) S6 S7) : SlOf f sz S7 s l := by
  refine ⟨hs.len, fun hne => ?_⟩
  obtain ⟨b', o, cs, more, ro, fz, ea, eat, hv⟩ := hs.mem hne
  exact ⟨b', o, cs, more, ro, fz, ea, m.at (e.at eat) fun h => by have := eat.lt; omega, hv⟩
theorem conv_bs {S : St} {s : Sl} {l : List UInt8} (h : Bs S s l) (h0 : l ≠ []) : convertD E0 S 36 9 (.slice s.a s.len s.cap) = some (strV l, S) := by
  obtain ⟨bb, o, cs, more, ro, fz, ea, eat, hv⟩ := h.mem h0
  have := conv_str (S := S) (b := bb) (o := o) (cap := s.cap) (l := l) (loadN_of eat (by rw [← flat_by, ← hv, Nat.mul_one]) (by simp)) h0
  rw [ea, h.len]
  exact this
set_option maxHeartbeats 2000000 in
theorem s18 {b : Sl} {l : List UInt8} {S : St} (hb : Bs S b l) (hlen : l.length ≤ 4000) {k : Value → St → Prop}
    (hk : ∀ (x : PkV) S', Ext S S' → (okR (unD l) → x.2.2.2.2.2.2.1 = (kdR (unD l) : Int)) → k (.tuple #[sv G55 x, .int .i64 (if okR (unD l) then 0 else 70)]) S') : WC E0 18 [.slice b.a b.len b.cap] S k := by
  refine w18 b ?_
  unfold c18
  have hB := CB.start (S := S)
  have hbl := hb.len
  have hel := evn_len l
  refine hB.new fun b1 S1 hB => ?_
  refine loopW_ind (fun q (x : Sl × Int) S' => ∃ (s : Sl) (i : Nat), x = (s, ((2 * i : Nat) : Int)) ∧ 2 * i ≤ l.length + 1 ∧ q = l.length + 2 - 2 * i ∧ CB S S' [(b1, .cells (cellsH (0, 0, 0, 0, 0, 0) ++ cellsM zM zS) none false none)] s ((evn l).take i)) (m := l.length + 2) ⟨⟨none, 0, 0⟩, 0, rfl, by omega, rfl, hB⟩ ?_
  rintro Pk q x S2 ⟨s, i, rfl, hi, rfl, hB⟩ hP
  dsimp only
  refine ifW_dec (fun hlt => ?_) fun hlt => ?_
  · have hi' : 2 * i < l.length := by omega
    obtain ⟨hie, he⟩ := evn_at l i hi'
    refine (Ext.slOf hB.cx.mod hb).get1n (n := 2 * i) (g := byV) inf5 agg5 hi' fun b2 o2 hld _ => evV_of _ (hld _ rfl) ?_
    refine hB.new fun b4 S3 hB => ?_
    refine hB.app (v := [l[2 * i]]) rfl (first_box (hB.cx.at 0 rfl)) (by simp) (by rw [List.length_take]; simp; omega) fun s' S' hB => ?_
    rw [wadd (a := 2 * i) (n := 2) (z := 2) rfl (by omega) (by omega)]
    refine hP _ _ _ (by omega) ⟨s', i + 1, by rw [show 2 * i + 2 = 2 * (i + 1) from by omega], by omega, rfl, ?_⟩
    rw [List.take_succ_eq_append_getElem hie, he]
    exact hB.tl 1
  · rw [List.take_of_length_le (by omega)] at hB
    refine evC_of (s32 hB.cx.p.of fun sc S5 e hs => ⟨pv (guH (evn l)) (guM (evn l)).1 sc, rfl, ?_⟩)
    have hB := hB.ext e
    obtain ⟨k1, k2, k3, k4⟩ := gu_facts (evn l)
    have hw := guH_wd (evn l)
    have hri := ref_iff l
    have hkd : okR (unD l) → (guM (evn l)).1.1 = (kdR (unD l) : Int) := fun h => by
      cases hu : unD l with
      | none => rw [hu] at h; exact (ok_none h).elim
      | some Q =>
        rw [hu] at h
        rw [unD_some hu, evn_dbl]
        exact ok_kind h
    have hnil : l = [] → (guH (evn l)).1 = (guH (evn l)).2.1 := by rintro rfl; rfl
    generalize guH (evn l) = h at hw hri hnil ⊢
    generalize guM (evn l) = M at k1 k2 k3 k4 hs hri hkd ⊢
    refine hB.newX fun b5 S6 hB hb5 e6 => ?_
    refine hB.stX 0 15 rfl (by kernel_rfl) rfl (Nat.le_of_ble_eq_true rfl) rfl rfl fun S7 hB m7 => ?_
    refine hB.cx.lda 0 rfl (by kernel_rfl) (pv h M.1 sc) rfl ?_
    have bad : ∀ {S8}, ¬ okR (unD l) → CB S S8 [(b5, .cells (cellsH h ++ cellsM M.1 sc) none false none), (b1, .cells (cellsH (0, 0, 0, 0, 0, 0) ++ cellsM zM zS) none false none)] s (evn l) →
        evS (storeV E0 S8 56 (.pointer (some ⟨b1, 0, none⟩)) (.agg #[.int .i64 0, .int .i64 0, .int .u32 0, .int .u32 0, .int .u32 0, .int .u32 0, .int .i64 0, .int .i64 0, .int .u32 0, .int .u64 0, .int .i64 0, .int .i64 0, .int .i64 0, .int .i64 0, .slice none 0 0])) fun S9 =>
          evV (TT.one (Ty.agg G55)) (loadV E0 S9 56 (.pointer (some ⟨b1, 0, none⟩))) fun (x5 : PkV) => k (.tuple #[sv G55 x5, .int .i64 70]) S9 := by
      intro S8 hno hB
      refine hB.st 1 15 rfl (by kernel_rfl) rfl (Nat.le_of_ble_eq_true rfl) rfl rfl fun S9 hB => ?_
      refine hB.cx.lda 1 rfl (by kernel_rfl) (pv (0, 0, 0, 0, 0, 0) zM zS) rfl ?_
      have := hk (pv (0, 0, 0, 0, 0, 0) zM zS) S9 hB.cx.mod fun h => (hno h).elim
      rw [if_neg hno] at this
      exact this
    have hB : CB S S7 [(b5, .cells (cellsH h ++ cellsM M.1 sc) none false none), (b1, .cells (cellsH (0, 0, 0, 0, 0, 0) ++ cellsM zM zS) none false none)] s (evn l) := hB
    have hs7 : SlOf encC 2 S7 sc M.2.1 := slOf_new hs e6 hb5 m7
    refine evC_of (s33 hs7 (by omega) k4 hw.1 k2 (fun hm s' S8 e8 g8 => ⟨(s', 0), rfl, ?_⟩) fun hm S8 e8 => ⟨(⟨none, 0, 0⟩, 71), rfl, ?_⟩)
    · have hB := hB.ext e8
      dsimp only
      refine ifW_ndec (fun h => (h rfl).elim) fun _ => ?_
      have hne : dbl (encP h M.1 M.2.1) ≠ [] := by
        intro hh
        have := congrArg List.length hh
        rw [dbl_len] at this
        simp [encP] at this
      refine ⟨dbl (encP h M.1 M.2.1), S8, conv_bs g8.of hne, ?_⟩
      by_cases hl0 : l = []
      · exact (hm.1.2.2 (hnil hl0)).elim
      refine ⟨l, S8, conv_bs (Ext.slOf hB.cx.mod hb) hl0, ?_⟩
      refine ifW_of (fun hn => ?_) fun hy => ?_
      · refine bad (fun hok => ?_) hB
        have := (hri.2 hok).2
        rw [this] at hn
        simp at hn
      · have hyl : dbl (encP h M.1 M.2.1) = l := by simpa using hy
        have hok := hri.1 ⟨hm, hyl⟩
        refine hB.cx.lda 0 rfl (by kernel_rfl) (pv h M.1 sc) rfl ?_
        refine hB.st 1 15 rfl (by kernel_rfl) rfl (Nat.le_of_ble_eq_true rfl) rfl rfl fun S13 hB => ?_
        refine hB.cx.lda 1 rfl (by kernel_rfl) (pv h M.1 sc) rfl ?_
        have := hk (pv h M.1 sc) S13 hB.cx.mod fun _ => hkd hok
        rw [if_pos hok] at this
        exact this
    · have hB := hB.ext e8
      dsimp only
      refine ifW_ndec (fun _ => ?_) fun h => by cases h
      exact bad (fun hok => hm (hri.2 hok).1) hB
end
end Go.Proofs.YtgdijpcopdgapaaDoor
