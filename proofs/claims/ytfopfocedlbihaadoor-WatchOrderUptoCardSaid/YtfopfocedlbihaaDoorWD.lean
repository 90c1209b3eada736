/- Parts of the proof, put together. -/
import Derived.Test.YtfopfocedlbihaaDoorWC
/- How much a view holds; the law. -/
namespace Go.Proofs.YtfopfocedlbihaaDoor
open Go Go.Proofs.YtfopfocedlbihaaDoor.D
set_option linter.unusedVariables false
set_option linter.unusedSimpArgs false
noncomputable section

/-- No list is longer than what a reading may hold. -/
structure Bd (v : PV) : Prop where
  at_ : v.at_.length ≤ 1048576
  goals : v.goals.length ≤ 1048576
  recs : v.records.length ≤ 1048576
  ep : v.epochs.length ≤ 1048576
  hold : v.holders.length ≤ 1048576
  gens : v.gens.length ≤ 1048576
  claims : v.claims.length ≤ 1048576
  cli : ∀ l ∈ v.claims, l.length ≤ 1048576
  opn : v.opn.length ≤ 1048576
  opi : ∀ l ∈ v.opn, l.length ≤ 1048576
def sumR {α : Type} : List (List α) → Nat
  | [] => 0
  | l :: r => 1 + l.length + sumR r
theorem sumR_snoc {α : Type} : ∀ (ls : List (List α)) (l : List α), sumR (ls ++ [l]) = sumR ls + (1 + l.length)
  | [], l => by simp [sumR]
  | a :: r, l => by rw [List.cons_append, sumR, sumR_snoc r l, sumR]; omega
theorem sumR_len {α : Type} : ∀ (ls : List (List α)), ls.length ≤ sumR ls
  | [] => Nat.le_refl _
  | a :: r => by have := sumR_len r; rw [sumR, List.length_cons]; omega
theorem sumR_mem {α : Type} {l : List α} : ∀ {ls : List (List α)}, l ∈ ls → l.length ≤ sumR ls
  | a :: r, h => by
    rw [sumR]
    rcases List.mem_cons.1 h with rfl | h
    · omega
    · have := sumR_mem h; omega
theorem sumR_le {α : Type} {b : Nat} : ∀ {ls : List (List α)}, (∀ l ∈ ls, l.length ≤ b) → sumR ls ≤ ls.length * (1 + b)
  | [], _ => Nat.zero_le _
  | a :: r, h => by
    have h1 := h a List.mem_cons_self
    have h2 := sumR_le (ls := r) fun l hl => h l (List.mem_cons_of_mem _ hl)
    rw [sumR, List.length_cons, Nat.succ_mul]
    omega
theorem sumR_take {α β : Type} {cs : List (β × List α)} {m : Nat} (h : m < cs.length) : sumR ((cs.take (m + 1)).map (·.2)) = sumR ((cs.take m).map (·.2)) + (1 + cs[m].2.length) := by
  rw [take_snoc h, List.map_append]
  exact sumR_snoc _ _
theorem sumR_tk {α β : Type} {cs : List (β × List α)} (hl : cs.length ≤ 1048576) (h : ∀ l ∈ cs.map (·.2), l.length ≤ 1048576) (m : Nat) : sumR ((cs.take m).map (·.2)) ≤ 1099512676352 := by
  have h1 := sumR_le (b := 1048576) (ls := (cs.take m).map (·.2)) fun l hl => by
    obtain ⟨p, hp, rfl⟩ := List.mem_map.1 hl
    exact h _ (List.mem_map_of_mem (List.mem_of_mem_take hp))
  have h2 : ((cs.take m).map (·.2)).length ≤ 1048576 := by rw [List.length_map, List.length_take]; omega
  have h3 : ((cs.take m).map (·.2)).length * (1 + 1048576) ≤ 1048576 * (1 + 1048576) := Nat.mul_le_mul_right _ h2
  omega
theorem wrap_nat {n : Nat} (h : n < 9223372036854775807) : wrapI .i64 (n : Int) = (n : Int) := wrap_i64 (by omega) (by omega)
set_option maxHeartbeats 1000000 in
theorem s6 {S : St} {x : PVx} {v : PV} {cs : List CL} {os : List IL} {k : Value → St → Prop} (hv : Vw S x v cs os) (hb : Bd v) (hk : ∀ (n : Int) S', Ext S S' → 0 ≤ n → (n = 0 → Sm v) → k (.int .i64 n) S') : WC E0 6 [sv G26 x] S k := by
  refine w6 x ?_
  unfold c6
  have hL := Hld.start noB S
  refine hL.new fun b1 S1 hL _ _ => ?_
  have hv1 := hv.ext hL.mod
  have l1 := hv.at_.len
  have l2 := hv.goals.len
  have l3 := hv.recs.len
  have l4 := hv.ep.len
  have l5 := hv.hold.len
  have l6 := hv.gens.len
  have m1 := hb.at_
  have m2 := hb.goals
  have m3 := hb.recs
  have m4 := hb.ep
  have m5 := hb.hold
  have m6 := hb.gens
  have hcl : cs.length ≤ 1048576 := by have := hb.claims; rw [hv.clv, List.length_map] at this; exact this
  have hol : os.length ≤ 1048576 := by have := hb.opn; rw [hv.opv, List.length_map] at this; exact this
  have hci : ∀ l ∈ cs.map (·.2), l.length ≤ 1048576 := by rw [← hv.clv]; exact hb.cli
  have hoi : ∀ l ∈ os.map (·.2), l.length ≤ 1048576 := by rw [← hv.opv]; exact hb.opi
  refine ptrW_of ?_
  refine hL.ld 0 rfl (by kernel_rfl) x.1 rfl ?_
  refine ptrW_of ?_
  refine hL.ld 0 rfl (by kernel_rfl) x.2.2.1 rfl ?_
  refine ptrW_of ?_
  refine hL.ld 0 rfl (by kernel_rfl) x.2.2.2.2.1 rfl ?_
  refine ptrW_of ?_
  refine hL.ld 0 rfl (by kernel_rfl) x.2.2.2.2.2.1 rfl ?_
  refine ptrW_of ?_
  refine hL.ld 0 rfl (by kernel_rfl) x.2.2.2.2.2.2.1 rfl ?_
  refine ptrW_of ?_
  refine hL.ld 0 rfl (by kernel_rfl) x.2.2.2.2.2.2.2.1 rfl ?_
  have hsum : wrapI .i64 (wrapI .i64 (wrapI .i64 (wrapI .i64 (wrapI .i64 ((x.1.len : Int) + (x.2.2.1.len : Int)) + (x.2.2.2.2.1.len : Int)) + (x.2.2.2.2.2.1.len : Int)) + (x.2.2.2.2.2.2.1.len : Int)) + (x.2.2.2.2.2.2.2.1.len : Int)) = ((v.at_.length + v.goals.length + v.records.length + v.epochs.length + v.holders.length + v.gens.length : Nat) : Int) := by
    rw [l1, l2, l3, l4, l5, l6, wrap_i64 (n := (v.at_.length : Int) + v.goals.length) (by omega) (by omega), wrap_i64 (n := (v.at_.length : Int) + v.goals.length + v.records.length) (by omega) (by omega),
      wrap_i64 (n := (v.at_.length : Int) + v.goals.length + v.records.length + v.epochs.length) (by omega) (by omega), wrap_i64 (n := (v.at_.length : Int) + v.goals.length + v.records.length + v.epochs.length + v.holders.length) (by omega) (by omega), wrap_i64 (by omega) (by omega)]
    simp
  rw [hsum]
  generalize hB0 : v.at_.length + v.goals.length + v.records.length + v.epochs.length + v.holders.length + v.gens.length = B0
  have hB0' : B0 ≤ 6291456 := by omega
  have hst : ∀ m, sumR ((cs.take m).map (·.2)) ≤ 1099512676352 := sumR_tk hcl hci
  have hso : ∀ m, sumR ((os.take m).map (·.2)) ≤ 1099512676352 := sumR_tk hol hoi
  have hS1 := hL.mod
  refine loopW_ind (fun q (z : Int × Int) S' => ∃ m : Nat, z = (((B0 + sumR ((cs.take m).map (·.2)) : Nat) : Int), (m : Int)) ∧ m ≤ cs.length ∧ q = cs.length - m ∧ S' = S1) (m := cs.length) ⟨0, by simp [sumR], by omega, rfl, rfl⟩ ?_
  rintro P q z S2 ⟨m, rfl, hm, rfl, rfl⟩ hP
  dsimp only
  have hcll := hv.cl.len
  refine ptrW_of ?_
  refine hL.ld 0 rfl (by kernel_rfl) x.2.1 rfl ?_
  refine ifW_dec (fun hlt => ?_) fun hlt => ?_
  · have hi : m < cs.length := by omega
    refine ptrW_of ?_
    refine hL.ld 0 rfl (by kernel_rfl) x.2.1 rfl ?_
    refine SlOf.cls hv1.cl hi ?_
    have hrl := (hv1.cli _ (List.getElem_mem hi)).len
    have hsm : sumR ((cs.take (m + 1)).map (·.2)) = sumR ((cs.take m).map (·.2)) + (1 + cs[m].2.length) := sumR_take hi
    have h1 := hst m
    have h2 := hst (m + 1)
    rw [hrl, wrap_succ (by omega), wrap_succ (by omega), wrap_i64 (by omega) (by omega)]
    refine hP _ _ _ (by omega) ⟨m + 1, ?_, by omega, rfl, rfl⟩
    rw [hsm]
    congr 1
    omega
  have hi : m = cs.length := by omega
  rw [hi, List.take_length]
  have hc0 := hst cs.length
  rw [List.take_length] at hc0
  refine loopW_ind (fun q (z : Int × Int) S' => ∃ m : Nat, z = (((B0 + sumR (cs.map (·.2)) + sumR ((os.take m).map (·.2)) : Nat) : Int), (m : Int)) ∧ m ≤ os.length ∧ q = os.length - m ∧ S' = S2) (m := os.length) ⟨0, by simp [sumR], by omega, rfl, rfl⟩ ?_
  rintro P2 q2 z2 S3 ⟨m, rfl, hm, rfl, rfl⟩ hP2
  dsimp only
  have holl := hv.op.len
  refine ptrW_of ?_
  refine hL.ld 0 rfl (by kernel_rfl) x.2.2.2.1 rfl ?_
  refine ifW_dec (fun hlt => ?_) fun hlt => ?_
  · have hi : m < os.length := by omega
    refine ptrW_of ?_
    refine hL.ld 0 rfl (by kernel_rfl) x.2.2.2.1 rfl ?_
    refine SlOf.ils hv1.op hi ?_
    have hrl := (hv1.opi _ (List.getElem_mem hi)).len
    have hsm : sumR ((os.take (m + 1)).map (·.2)) = sumR ((os.take m).map (·.2)) + (1 + os[m].2.length) := sumR_take hi
    have h1 := hso m
    have h2 := hso (m + 1)
    rw [hrl, wrap_succ (by omega), wrap_succ (by omega), wrap_i64 (by omega) (by omega)]
    refine hP2 _ _ _ (by omega) ⟨m + 1, ?_, by omega, rfl, rfl⟩
    rw [hsm]
    congr 1
    omega
  have hi : m = os.length := by omega
  rw [hi, List.take_length]
  refine ifW_dec (fun hbig => ?_) fun hsmall => ?_
  · exact hk 1 _ hS1 (by decide) fun h => by cases h
  · refine hk 0 _ hS1 (by decide) fun _ => ?_
    have h1 := sumR_len (cs.map (·.2))
    have h2 := sumR_len (os.map (·.2))
    refine ⟨by omega, by rw [hv.clv]; omega, fun l hl => ?_, by rw [hv.opv]; omega, fun l hl => ?_, by omega⟩
    · rw [hv.clv] at hl
      have := sumR_mem hl
      omega
    · rw [hv.opv] at hl
      have := sumR_mem hl
      omega
end
end Go.Proofs.YtfopfocedlbihaaDoor

/- The law: what is found is told in order; claims in another order make no difference. -/
namespace Go.Proofs.YtfopfocedlbihaaDoor
open Go Go.Proofs.YtfopfocedlbihaaDoor.D
set_option linter.unusedVariables false
set_option linter.unusedSimpArgs false
noncomputable section

theorem SlOf.fldT {S : St} {s : Sl} {l : List Tri} (h : SlOf encT 3 S s l) {n : Nat} (hn : n < l.length) (i : Nat) (hi : i < 3) (z : Int) (hz : (encT l[n])[i]? = some (.int .i64 z)) {k : Int → Prop} (hk : k z) :
    idxW s.a s.len (n : Int) fun b1 b2 => ptrW (some ⟨b1, b2 + Int.toNat (n : Int) * 3, none⟩) fun b3 b4 => evV tI (loadV E0 S 3 (.pointer (some ⟨b3, b4 + i, none⟩))) k := by
  refine h.idxL (f := encT) (sz := 3) (fun _ => rfl) h.len hn fun b o cs m ro fz hat _ hw => ?_
  refine ptrW_of ?_
  exact evV_of (ty := tI) z ((load_one hat (by kernel_rfl)).trans ((at_take hw (j := i) hi).trans hz)) hk
theorem und23 : E0.und 23 = some (.slice 35) := by kernel_rfl
theorem und35 : E0.und 35 = some (.slice 38) := by kernel_rfl
theorem inf35 : E0.inf 35 = some DEnv.i35 := by kernel_rfl
theorem inf38 : E0.inf 38 = some DEnv.i38 := by kernel_rfl
theorem zero35 : DEnv.i35.zero = some (.slice none 0 0) := by kernel_rfl
theorem zero38 : DEnv.i38.zero = some (.agg #[.int .i64 0, .int .u32 0]) := by kernel_rfl
theorem bytes35 : DEnv.i35.bytes = 24 := by kernel_rfl
theorem bytes38 : DEnv.i38.bytes = 16 := by kernel_rfl
theorem app_clm {S : St} {s : Sl} {l : List Clm} {b : Nat} {x : Clm} (h : GrX encC 2 0 S s l) (hat : At S b (.cells (encC x) none false none)) (hl : l.length ≤ 100000000)
    {k : Sl → St → Prop} (hk : ∀ s' S', GrX encC 2 0 S' s' (l ++ [x]) → Mod (slO s) S S' → (∀ c, slO s' c → slO s c ∨ S.next ≤ c) → k s' S') :
    evP tS (appendD E0 S 35 35 (.slice s.a s.len s.cap) (.slice (some ⟨b, 0, none⟩) 1 1)) k :=
  GrX.append (E := E0) (f := encC) (sz := 2) (N := 0) (fun _ => rfl) (by omega) h und35 inf38 und35 (by kernel_rfl) (by kernel_rfl) zero38 rfl (vs := [x]) rfl (firstD_box (f := encC) (sz := 2) (v := x) (fun _ => rfl) (by omega) hat) rfl
    (show (l.length + 1) * DEnv.i38.bytes ≤ 17592186044416 by rw [bytes38]; omega) (show l.length + 1 ≤ 17592186044416 by omega) (by simp) (show (l.length + 1) * 2 < inex by have h := lt_inex; omega)
    (fun s' S' g m hs' => hk s' S' g (m.mono fun c hc _ => ⟨0, hc.2⟩) (slO_new hs')) (Nat.zero_le _)
theorem app_row {S : St} {s : Sl} {l : List CL} {b : Nat} {x : CL} (h : GrX fCL 1 0 S s l) (hat : At S b (.cells (fCL x) none false none)) (hl : l.length ≤ 100000000)
    {k : Sl → St → Prop} (hk : ∀ s' S', GrX fCL 1 0 S' s' (l ++ [x]) → Mod (slO s) S S' → (∀ c, slO s' c → slO s c ∨ S.next ≤ c) → k s' S') :
    evP tS (appendD E0 S 23 23 (.slice s.a s.len s.cap) (.slice (some ⟨b, 0, none⟩) 1 1)) k :=
  GrX.append (E := E0) (f := fCL) (sz := 1) (N := 0) (fun _ => rfl) (by omega) h und23 inf35 und23 (by kernel_rfl) (by kernel_rfl) zero35 rfl (vs := [x]) rfl (firstD_box (f := fCL) (sz := 1) (v := x) (fun _ => rfl) (by omega) hat) rfl
    (show (l.length + 1) * DEnv.i35.bytes ≤ 17592186044416 by rw [bytes35]; omega) (show l.length + 1 ≤ 17592186044416 by omega) (by simp) (show (l.length + 1) * 1 < inex by have h := lt_inex; omega)
    (fun s' S' g m hs' => hk s' S' g (m.mono fun c hc _ => ⟨0, hc.2⟩) (slO_new hs')) (Nat.zero_le _)
/-- Rows of claims that grow, and the one that is being made. -/
def rO (ws : Sl) (ps : List CL) (c : Nat) : Prop := slO ws c ∨ ∃ p ∈ ps, SlB p.1 p.2 c
abbrev RF (ws : Sl) (ps : List CL) (S : St) : Prop := GrX fCL 1 0 S ws ps ∧ ∀ p ∈ ps, SlOf encC 2 S p.1 p.2
theorem rf_frm {ws : Sl} {ps : List CL} : Frm (rO ws ps) (RF ws ps) := by
  intro F S S' m hF h
  exact ⟨grX_frm F S S' m (fun c hc => hF c (.inl hc)) h.1, fun p hp => Frm.sl F S S' m (fun c hc => hF c (.inr ⟨p, hp, hc⟩)) (h.2 p hp)⟩
theorem rf_lt {S : St} {ws : Sl} {ps : List CL} (h : RF ws ps S) {c : Nat} (hc : rO ws ps c) : c < S.next := by
  rcases hc with hc | ⟨p, hp, hc⟩
  · exact grX_lt h.1 hc
  · exact SlOf.lt (h.2 p hp) hc
structure Ck (S0 S : St) (L : List (Nat × DObj)) (ws : Sl) (ps : List CL) (rs : Sl) (rl : List Clm) : Prop where
  cx : Cx noB S0 S L (fun c => rO ws ps c ∨ slO rs c) (fun S => RF ws ps S ∧ GrX encC 2 0 S rs rl)
  new : ∀ c, rO ws ps c ∨ slO rs c → S0.next ≤ c
  sep1 : ∀ p ∈ ps, ∀ c, SlB p.1 p.2 c → ¬ slO ws c
  sep2 : ∀ c, slO rs c → ¬ rO ws ps c
theorem Ck.with {S0 S S' : St} {L L' : List (Nat × DObj)} {ws : Sl} {ps : List CL} {rs : Sl} {rl : List Clm} (h : Ck S0 S L ws ps rs rl) (hL : Cx noB S0 S' L' (fun c => rO ws ps c ∨ slO rs c) (fun S => RF ws ps S ∧ GrX encC 2 0 S rs rl)) : Ck S0 S' L' ws ps rs rl := ⟨hL, h.new, h.sep1, h.sep2⟩
theorem rO_nil {c : Nat} (h : rO ⟨none, 0, 0⟩ [] c) : False := by
  rcases h with h | ⟨p, hp, _⟩
  · exact nil_slO h
  · cases hp
theorem Ck.app {S0 S : St} {L : List (Nat × DObj)} {ws : Sl} {ps : List CL} {rs : Sl} {rl : List Clm} (h : Ck S0 S L ws ps rs rl) (i : Nat) {b : Nat} {x : Clm} (hi : L[i]? = some (b, .cells (encC x) none false none)) (hl : rl.length ≤ 1000000)
    {k : Sl → St → Prop} (hk : ∀ s' S', Ck S0 S' L ws ps s' (rl ++ [x]) → k s' S') : evP tS (appendD E0 S 35 35 (.slice rs.a rs.len rs.cap) (.slice (some ⟨b, 0, none⟩) 1 1)) k := by
  refine app_clm h.cx.p.2 (h.cx.at i hi) (by omega) fun s' S' g m hs' => ?_
  have hP : RF ws ps S' ∧ GrX encC 2 0 S' s' (rl ++ [x]) := ⟨rf_frm (slO rs) S S' m.kp (fun c hc h1 => h.sep2 c h1 hc) h.cx.p.1, g⟩
  have hn := h.cx.mod.next
  have hO : ∀ c, (rO ws ps c ∨ slO s' c) → (rO ws ps c ∨ slO rs c) ∨ S.next ≤ c := fun c hc => hc.elim (fun hc => .inl (.inl hc)) fun hc => (hs' c hc).imp .inr id
  refine hk s' S' ⟨h.cx.op m (fun c hc => .inr hc) (fun c hc hlt => by have := h.new c (.inr hc); omega) hP (Frm.and rf_frm grX_frm) hO (fun c hc => hc.elim (rf_lt hP.1) (grX_lt hP.2)), fun c hc => ?_, h.sep1, fun c hc h2 => ?_⟩
  · rcases hO c hc with hc | hc
    · exact h.new c hc
    · omega
  · rcases hs' c hc with h1 | h1
    · exact h.sep2 c h1 h2
    · have := rf_lt h.cx.p.1 h2; omega
theorem Ck.push {S0 S : St} {L : List (Nat × DObj)} {ws : Sl} {ps : List CL} {rs : Sl} {rl : List Clm} (h : Ck S0 S L ws ps rs rl) (i : Nat) {b : Nat} (hi : L[i]? = some (b, .cells [.slice rs.a rs.len rs.cap] none false none)) (hl : ps.length ≤ 1000000)
    {k : Sl → St → Prop} (hk : ∀ s' S', Ck S0 S' L s' (ps ++ [(rs, rl)]) ⟨none, 0, 0⟩ [] → k s' S') : evP tS (appendD E0 S 23 23 (.slice ws.a ws.len ws.cap) (.slice (some ⟨b, 0, none⟩) 1 1)) k := by
  refine app_row (x := (rs, rl)) h.cx.p.1.1 (h.cx.at i hi) (by omega) fun s' S' g m hs' => ?_
  have hn := h.cx.mod.next
  have hrow : SlOf encC 2 S rs rl := GrX.of (fun _ => rfl) h.cx.p.2
  have hrow' : SlOf encC 2 S' rs rl := Frm.sl (slO ws) S S' m.kp (fun c hc h1 => h.sep2 c hc.2 (.inl h1)) hrow
  have hP : RF s' (ps ++ [(rs, rl)]) S' := ⟨g, fun p hp => by
    rcases List.mem_append.1 hp with hp | hp
    · exact Frm.sl (slO ws) S S' m.kp (fun c hc h1 => h.sep1 p hp c hc h1) (h.cx.p.1.2 p hp)
    · rw [List.mem_singleton.1 hp]; exact hrow'⟩
  have hO : ∀ c, rO s' (ps ++ [(rs, rl)]) c → (rO ws ps c ∨ slO rs c) ∨ S.next ≤ c := by
    rintro c (hc | ⟨p, hp, hc⟩)
    · exact (hs' c hc).imp (fun h => .inl (.inl h)) id
    · rcases List.mem_append.1 hp with hp | hp
      · exact .inl (.inl (.inr ⟨p, hp, hc⟩))
      · rw [List.mem_singleton.1 hp] at hc
        exact .inl (.inr hc.2)
  refine hk s' S' ⟨h.cx.op (O' := fun c => rO s' (ps ++ [(rs, rl)]) c ∨ slO ⟨none, 0, 0⟩ c) (P' := fun S => RF s' (ps ++ [(rs, rl)]) S ∧ GrX encC 2 0 S ⟨none, 0, 0⟩ []) m (fun c hc => .inl (.inl hc)) (fun c hc hlt => by have := h.new c (.inl (.inl hc)); omega) ⟨hP, .inl ⟨rfl, rfl⟩⟩ (Frm.and rf_frm grX_frm) (fun c hc => hc.elim (hO c) fun h => (nil_slO h).elim) (fun c hc => hc.elim (rf_lt hP) fun h => (nil_slO h).elim), fun c hc => ?_, fun p hp c hc hs => ?_, fun c hc => (nil_slO hc).elim⟩
  · rcases hc with hc | hc
    · rcases hO c hc with hc | hc
      · exact h.new c hc
      · omega
    · exact (nil_slO hc).elim
  · have hlt : c < S.next := by
      rcases List.mem_append.1 hp with hp | hp
      · exact SlOf.lt (h.cx.p.1.2 p hp) hc
      · rw [List.mem_singleton.1 hp] at hc; exact SlOf.lt hrow hc
    rcases hs' c hs with h1 | h1
    · rcases List.mem_append.1 hp with hp | hp
      · exact h.sep1 p hp c hc h1
      · rw [List.mem_singleton.1 hp] at hc
        exact h.sep2 c hc.2 (.inl h1)
    · omega
theorem rev_take {α : Type} {l : List α} {m : Nat} (h : m < l.length) : (l.drop m).reverse = (l.drop (m + 1)).reverse ++ [l[m]] := by
  rw [List.drop_eq_getElem_cons h, List.reverse_cons]
set_option maxHeartbeats 4000000 in
theorem s3 {S : St} {x : PVx} {v : PV} {cs : List CL} {os : List IL} (g : Gl S) (hv : Vw S x v cs os) (hb : Bd v) : WC E0 3 [sv G26 x] S fun r _ => r = .bool true := by
  refine w3 x ?_
  unfold c3
  have hL := Hld.start noB S
  refine hL.new fun b1 S1 hL _ _ => ?_
  refine evC_of (s5 (g.ext hL.mod) fun S2 e2 => ⟨true, rfl, ?_⟩)
  have hL := hL.ext e2
  refine hL.lda 0 rfl (by kernel_rfl) x rfl ?_
  refine evC_of (s6 (hv.ext hL.mod) hb fun n S3 e3 _ hn => ⟨n, rfl, ?_⟩)
  have hL := hL.ext e3
  refine ifW_dec (fun _ => rfl) fun hn0 => ?_
  have hsm := hn (by omega)
  refine ifW_of (fun h => by cases h) fun _ => ?_
  refine hL.lda 0 rfl (by kernel_rfl) x rfl ?_
  refine evC_of (s7 (hv.ext hL.mod) hsm fun s1 S4 e4 g4 _ => ⟨s1, rfl, ?_⟩)
  have hL := hL.ext e4
  have hs1 : SlOf encT 3 S4 s1 (lookV v) := GrX.of encT3 g4
  have hs1l := hs1.len
  have hlk : (lookV v).length ≤ 10000000 := by
    have h1 := cmpct_len_le (sortT (outV v))
    rw [sortT_len] at h1
    have h2 := outN_len hsm v.at_.length
    have h3 := on_len (decide (256 < v.flights)) (7, 0, 0)
    have e : (outV v).length = (outN v v.at_.length).length + (onV (decide (256 < v.flights)) (7, 0, 0)).length := by unfold outV outN; rw [List.length_append]
    have h4 := hsm.at_
    have h5 : (lookV v).length ≤ (outV v).length := h1
    omega
  refine loopW_ind (fun q (n2 : Int) S' => ∃ n : Nat, n2 = n ∧ n ≤ (lookV v).length ∧ q = (lookV v).length - n ∧ Ext S4 S') (m := (lookV v).length) ⟨0, rfl, by omega, rfl, Mod.refl _ _⟩ ?_
  rintro P q n2 S5 ⟨n, rfl, hn, rfl, e5⟩ hP
  have h5 := Ext.slOf e5 hs1
  refine ifW_dec (fun hlt => ?_) fun hlt => ?_
  · have hi : n < (lookV v).length := by omega
    have hcode := lookV_code (List.getElem_mem hi)
    have next : ∀ {S'}, Ext S4 S' → P (wrapI .i64 ((n : Int) + 1)) S' := fun e => by
      rw [wrap_succ (by omega)]
      exact hP _ _ _ (by omega) ⟨n + 1, rfl, by omega, rfl, e⟩
    refine SlOf.fldT h5 hi 0 (by omega) (lookV v)[n].1 rfl ?_
    refine ifW_dec (fun h => by omega) fun _ => ?_
    refine SlOf.fldT h5 hi 0 (by omega) (lookV v)[n].1 rfl ?_
    refine ifW_dec (fun h => by omega) fun _ => ?_
    refine SlOf.fldT h5 hi 0 (by omega) (lookV v)[n].1 rfl ?_
    refine evC_of (s8 ((g.ext hL.mod).ext e5) ⟨_, rfl, ?_⟩)
    have hnm := nmW_ne hcode
    refine ifW_of (fun h => ?_) fun _ => ?_
    · exact (hnm (by simpa using h)).elim
    refine ifW_dec (fun _ => next e5) fun hz => ?_
    have hw : wrapI .i64 ((n : Int) - 1) = ((n - 1 : Nat) : Int) := by rw [wrap_i64 (by omega) (by omega)]; omega
    rw [hw]
    have hi1 : n - 1 < (lookV v).length := by omega
    have hord := List.pairwise_iff_getElem.1 (lookV_lt v) (n - 1) n hi1 hi (by omega)
    refine SlOf.tri h5 hi1 ?_
    generalize (lookV v)[n - 1] = a at hord ⊢
    have hL6 := Hld.start noB S5
    refine hL6.new fun b16 S7 hL6 _ _ => ?_
    refine hL6.st 0 _ rfl (by kernel_rfl) rfl (Nat.le_of_ble_eq_true rfl) rfl rfl fun S8 hL6 _ => ?_
    refine SlOf.tri (Ext.slOf hL6.mod h5) hi ?_
    generalize (lookV v)[n] = b at hord ⊢
    refine hL6.new fun b19 S9 hL6 _ _ => ?_
    refine hL6.st 0 _ rfl (by kernel_rfl) rfl (Nat.le_of_ble_eq_true rfl) rfl rfl fun S10 hL6 _ => ?_
    have e10 : Ext S4 S10 := e5.tr hL6.mod
    have hord : a.1 < b.1 ∨ (a.1 = b.1 ∧ (a.2.1 < b.2.1 ∨ (a.2.1 = b.2.1 ∧ a.2.2 < b.2.2))) := by simpa [ltT] using hord
    refine ptrW_of ?_
    refine hL6.ld 1 rfl (by kernel_rfl) a.1 rfl ?_
    refine ptrW_of ?_
    refine hL6.ld 0 rfl (by kernel_rfl) b.1 rfl ?_
    refine ifW_dec (fun h => by omega) fun _ => ?_
    refine ptrW_of ?_
    refine hL6.ld 1 rfl (by kernel_rfl) a.1 rfl ?_
    refine ptrW_of ?_
    refine hL6.ld 0 rfl (by kernel_rfl) b.1 rfl ?_
    refine ifW_dec (fun he => ?_) fun _ => next e10
    refine ptrW_of ?_
    refine hL6.ld 1 rfl (by kernel_rfl) a.2.1 rfl ?_
    refine ptrW_of ?_
    refine hL6.ld 0 rfl (by kernel_rfl) b.2.1 rfl ?_
    refine ifW_dec (fun h => by omega) fun _ => ?_
    refine ptrW_of ?_
    refine hL6.ld 1 rfl (by kernel_rfl) a.2.1 rfl ?_
    refine ptrW_of ?_
    refine hL6.ld 0 rfl (by kernel_rfl) b.2.1 rfl ?_
    refine ifW_dec (fun he2 => ?_) fun _ => next e10
    refine ptrW_of ?_
    refine hL6.ld 1 rfl (by kernel_rfl) a.2.2 rfl ?_
    refine ptrW_of ?_
    refine hL6.ld 0 rfl (by kernel_rfl) b.2.2 rfl ?_
    refine ifW_dec (fun h => by omega) fun _ => next e10
  -- claims, turned
  have hbx := hL.at 0 rfl
  have hb5 : At S5 b1 (.cells (cellsV x) none false none) := Ext.at e5 hbx
  have hv5 : Vw S5 x v cs os := (hv.ext hL.mod).ext e5
  have ld : ∀ {S' : St} {ty : TT} {t o : Nat} {k : ty.T → Prop} (z : ty.T), Ext S5 S' → ldOk E0 t = true → (cellsV x)[o]? = some (ty.enc z) → k z → evV ty (loadV E0 S' t (.pointer (some ⟨b1, o, none⟩))) k := fun z e ht hz hk => evV_of z ((load_one (Ext.at e hb5) ht).trans hz) hk
  refine ⟨x, load_agg hb5 (by kernel_rfl) rfl rfl, ?_⟩
  have hC := Cx.start (S := S5) (O := fun c => rO ⟨none, 0, 0⟩ [] c ∨ slO ⟨none, 0, 0⟩ c) (P := fun S => RF ⟨none, 0, 0⟩ [] S ∧ GrX encC 2 0 S ⟨none, 0, 0⟩ []) noB ⟨⟨.inl ⟨rfl, rfl⟩, fun p hp => by cases hp⟩, .inl ⟨rfl, rfl⟩⟩ (Frm.and rf_frm grX_frm) (fun c hc => (hc.elim rO_nil nil_slO).elim)
  refine hC.new fun b40 S11 hC _ _ => ?_
  refine hC.st 0 _ rfl (by kernel_rfl) rfl (Nat.le_of_ble_eq_true rfl) rfl rfl fun S12 hC _ => ?_
  refine ptrW_of ?_
  refine hC.st 0 _ rfl (by kernel_rfl) rfl (Nat.le_of_ble_eq_true rfl) rfl rfl fun S13 hC _ => ?_
  have hK : Ck S5 S13 [(b40, .cells (cellsV (x.1, ⟨none, 0, 0⟩, x.2.2)) none false none)] ⟨none, 0, 0⟩ [] ⟨none, 0, 0⟩ [] := ⟨hC, fun c hc => (hc.elim rO_nil nil_slO).elim, fun p hp => (by cases hp), fun c hc => (nil_slO hc).elim⟩
  have hcl : cs.length ≤ 1000 := by have := hsm.claims; rw [hv.clv, List.length_map] at this; exact this
  refine loopW_ind (fun q (n16 : Int) S' => ∃ (n : Nat) (ws : Sl) (ps : List CL), n16 = n ∧ n ≤ cs.length ∧ q = cs.length - n ∧ Ck S5 S' [(b40, .cells (cellsV (x.1, ws, x.2.2)) none false none)] ws ps ⟨none, 0, 0⟩ [] ∧ ps.map (·.2) = (cs.take n).map fun p => p.2.reverse) (m := cs.length)
    ⟨0, _, [], rfl, by omega, rfl, hK, rfl⟩ ?_
  rintro P q n16 S14 ⟨n, ws, ps, rfl, hn, rfl, hK, hps⟩ hP
  have hcsl := hv.cl.len
  refine ptrW_of ?_
  refine ld (ty := tS) x.2.1 hK.cx.mod (by kernel_rfl) rfl ?_
  refine ifW_dec (fun hlt => ?_) fun hlt => ?_
  · have hi : n < cs.length := by omega
    refine ptrW_of ?_
    refine ld (ty := tS) x.2.1 hK.cx.mod (by kernel_rfl) rfl ?_
    refine SlOf.cls (hv5.ext hK.cx.mod).cl hi ?_
    have hrow : ∀ {S'}, Ext S5 S' → SlOf encC 2 S' cs[n].1 cs[n].2 := fun e => (hv5.ext e).cli _ (List.getElem_mem hi)
    have hrl := (hrow hK.cx.mod).len
    have hr1000 : cs[n].2.length ≤ 1000 := hsm.cli _ (by rw [hv.clv]; exact List.mem_map_of_mem (List.getElem_mem hi))
    have hw0 : wrapI .i64 ((cs[n].1.len : Int) - 1) = (cs[n].2.length : Int) - 1 := by rw [hrl, wrap_i64 (by omega) (by omega)]
    rw [hw0]
    have hpl : ps.length ≤ 1000 := by
      have := congrArg List.length hps
      rw [List.length_map, List.length_map, List.length_take] at this
      omega
    refine loopW_ind (fun q (z : Sl × Int) S' => ∃ (m : Nat) (rs : Sl), z = (rs, (m : Int) - 1) ∧ m ≤ cs[n].2.length ∧ m = q ∧ Ck S5 S' [(b40, .cells (cellsV (x.1, ws, x.2.2)) none false none)] ws ps rs (cs[n].2.drop m).reverse) (m := cs[n].2.length)
      ⟨cs[n].2.length, _, rfl, Nat.le_refl _, rfl, by rw [List.drop_length]; exact hK⟩ ?_
    rintro P2 q2 z S15 ⟨m, rs, rfl, hm, rfl, hK⟩ hP2
    dsimp only
    refine ifW_dec (fun hge => ?_) fun hge => ?_
    · obtain ⟨j, rfl⟩ : ∃ j, m = j + 1 := ⟨m - 1, by omega⟩
      have hj : j < cs[n].2.length := by omega
      have hji : ((j + 1 : Nat) : Int) - 1 = (j : Int) := by omega
      rw [hji]
      refine ptrW_of ?_
      refine ld (ty := tS) x.2.1 hK.cx.mod (by kernel_rfl) rfl ?_
      refine SlOf.cls (hv5.ext hK.cx.mod).cl hi ?_
      refine SlOf.clm (hrow hK.cx.mod) hj ?_
      have hL := hK.cx
      refine hL.new fun b55 S16 hL _ _ => ?_
      refine (hK.with hL).app 0 (x := cs[n].2[j]) rfl (by rw [List.length_reverse, List.length_drop]; omega) fun s' S17 hK => ?_
      have hw : wrapI .i64 ((j : Int) - 1) = (j : Int) - 1 := wrap_i64 (by omega) (by omega)
      rw [hw]
      refine hP2 _ _ _ (by omega) ⟨j, s', rfl, by omega, rfl, ?_⟩
      rw [rev_take hj]
      exact hK.with (hK.cx.tl 1)
    · have hm0 : m = 0 := by omega
      subst hm0
      rw [List.drop_zero] at hK
      have hL := hK.cx
      refine ptrW_of ?_
      refine hL.ld 0 rfl (by kernel_rfl) ws rfl ?_
      refine hL.new fun b58 S18 hL _ _ => ?_
      refine (hK.with hL).push 0 rfl (by omega) fun s' S19 hK => ?_
      have hL := hK.cx
      refine ptrW_of ?_
      refine hL.st 1 _ rfl (by kernel_rfl) rfl (Nat.le_of_ble_eq_true rfl) rfl rfl fun S20 hL _ => ?_
      rw [wrap_succ (by omega)]
      refine hP _ _ _ (by omega) ⟨n + 1, s', ps ++ [(rs, cs[n].2.reverse)], rfl, by omega, rfl, hK.with (hL.tl 1), ?_⟩
      rw [take_snoc hi, List.map_append, List.map_append, hps]
      rfl
  · have hi : n = cs.length := by omega
    rw [hi, List.take_length] at hps
    refine ifW_of (fun _ => ?_) fun h => by cases h
    refine hK.cx.lda 0 rfl (by kernel_rfl) ((x.1, ws, x.2.2) : PVx) rfl ?_
    have hvt := hv5.ext hK.cx.mod
    have hp := hK.cx.p.1
    have hvw : Vw S14 (x.1, ws, x.2.2) (turnV v) ps os := ⟨hvt.at_, GrX.of (fun _ => rfl) hp.1, hp.2, by
      show v.claims.map List.reverse = _
      rw [hps, hv.clv, List.map_map]; rfl, hvt.goals, hvt.op, hvt.opi, hvt.opv, hvt.recs, hvt.ep, hvt.hold, hvt.gens, hvt.fl, hvt.atc⟩
    have hsmt : Sm (turnV v) := ⟨hsm.at_, by show (v.claims.map List.reverse).length ≤ _; rw [List.length_map]; exact hsm.claims, fun l hl => by
      obtain ⟨l', hl', rfl⟩ := List.mem_map.1 (show l ∈ v.claims.map List.reverse from hl)
      rw [List.length_reverse]; exact hsm.cli _ hl', hsm.opn, hsm.opi, hsm.hold⟩
    refine evC_of (s7 hvw hsmt fun s10 S21 e21 g21 _ => ⟨s10, rfl, ?_⟩)
    rw [lookV_turn] at g21
    refine evC_of (s9 (GrX.of encT3 g21) (Ext.slOf ((e5.tr hK.cx.mod).tr e21) hs1) (by omega) ⟨true, by simp; rfl, ?_⟩)
    rfl
end
end Go.Proofs.YtfopfocedlbihaaDoor
