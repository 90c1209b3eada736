/- Bags: a packet is sent. -/
import Derived.Test.YtcookjolkhcjhaaBag6
namespace Go.Proofs.Ytcookjolkhcjhaa
open Go Go.Proofs.Ytcookjolkhcjhaa.D
set_option linter.unusedVariables false
set_option linter.unusedSimpArgs false
noncomputable section

theorem s26 {N bb : Nat} {S : St} {s : Sl} {fl : List Flt} {last : Int} {c : Cnt} {fr to : Int} {da : Sl} {l : List Int} {k : Value → St → Prop} (hb : At S bb (bagO s last c)) (hs : Fls N S s fl) (hbN : bb < N) (hN : N ≤ S.next) (hlen : fl.length ≤ 256) (hlast : 0 ≤ last ∧ last < 1000000000) (hc : 0 ≤ c.1 ∧ c.1 < 1000000000)
    (hd : SlOf cellB 1 S da l) (hsp : ∀ a, da.a = some a → a.spot = none) (hne : l ≠ [] → ∀ b o, da.a = some ⟨b, o, none⟩ → b ≠ bb) (hl : l.length ≤ 1000000)
    (hfull : fl.length = 256 → ∀ S', At S' bb (bagO s last (c.1 + 1, c.2.1, c.2.2.1, c.2.2.2.1, c.2.2.2.2.1, wrapI .i64 (c.2.2.2.2.2 + 1))) → Fls N S' s fl → Mod (fun b => b = bb) S S' → k (.int .i64 0) S')
    (hput : fl.length < 256 → ∀ s' d S', (s'.a = s.a ∨ ∃ b, s'.a = some ⟨b, 0, none⟩ ∧ S.next ≤ b) → At S' bb (bagO s' (last + 1) (c.1 + 1, c.2)) → Fls N S' s' (fl ++ [(last + 1, fr, to, d, false)]) → Dat S.next S' d l → Mod (fun b => b = bb ∨ N ≤ b ∧ s.a = some ⟨b, 0, none⟩) S S' → k (.int .i64 (last + 1)) S') :
    WC E0 26 [.pointer (some ⟨bb, 0, none⟩), .int .i64 fr, .int .i64 to, .slice da.a da.len da.cap] S k := by
  refine w26 _ fr to da ?_
  unfold c26
  refine ⟨false, eqPtr _ _, ?_⟩
  refine ifW_of (fun h => by cases h) fun _ => ?_
  have hL := hld_one hb
  refine ptrW_of (ptrW_of (ptrW_of ?_))
  (first | refine hL.ld 0 rfl (by kernel_rfl) _ rfl ?_ | refine hL.ld 1 rfl (by kernel_rfl) _ rfl ?_ | refine hL.ld 2 rfl (by kernel_rfl) _ rfl ?_ | refine hL.ld 3 rfl (by kernel_rfl) _ rfl ?_ | refine hL.ld 4 rfl (by kernel_rfl) _ rfl ?_ | refine hL.ld 5 rfl (by kernel_rfl) _ rfl ?_ | refine hL.ld 6 rfl (by kernel_rfl) _ rfl ?_ | refine hL.ld 7 rfl (by kernel_rfl) _ rfl ?_ | refine hL.lda 0 rfl (by kernel_rfl) _ rfl ?_ | refine hL.lda 1 rfl (by kernel_rfl) _ rfl ?_ | refine hL.lda 2 rfl (by kernel_rfl) _ rfl ?_ | refine hL.lda 3 rfl (by kernel_rfl) _ rfl ?_ | refine hL.lda 4 rfl (by kernel_rfl) _ rfl ?_ | refine hL.lda 5 rfl (by kernel_rfl) _ rfl ?_ | refine hL.lda 6 rfl (by kernel_rfl) _ rfl ?_ | refine hL.lda 7 rfl (by kernel_rfl) _ rfl ?_)
  refine ptrW_of (ptrW_of (ptrW_of ?_))
  rw [wrap_i64 (by omega) (by omega)]
  (first | refine hL.st 0 _ rfl (by kernel_rfl) rfl (Nat.le_of_ble_eq_true rfl) rfl rfl fun S' hL hn' => ?_ | refine hL.st 1 _ rfl (by kernel_rfl) rfl (Nat.le_of_ble_eq_true rfl) rfl rfl fun S' hL hn' => ?_ | refine hL.st 2 _ rfl (by kernel_rfl) rfl (Nat.le_of_ble_eq_true rfl) rfl rfl fun S' hL hn' => ?_ | refine hL.st 3 _ rfl (by kernel_rfl) rfl (Nat.le_of_ble_eq_true rfl) rfl rfl fun S' hL hn' => ?_ | refine hL.st 4 _ rfl (by kernel_rfl) rfl (Nat.le_of_ble_eq_true rfl) rfl rfl fun S' hL hn' => ?_ | refine hL.st 5 _ rfl (by kernel_rfl) rfl (Nat.le_of_ble_eq_true rfl) rfl rfl fun S' hL hn' => ?_ | refine hL.st 6 _ rfl (by kernel_rfl) rfl (Nat.le_of_ble_eq_true rfl) rfl rfl fun S' hL hn' => ?_ | refine hL.st 7 _ rfl (by kernel_rfl) rfl (Nat.le_of_ble_eq_true rfl) rfl rfl fun S' hL hn' => ?_)
  have hs' := hL.mod.grX hs fun b h1 _ h2 => by omega
  by_cases hf : fl.length = 256
  · refine evC_of (s52full (x := (0, fr, to, da, false)) (c := (c.1 + 1, c.2)) (hL.at 0 rfl) hs' (by omega) fun S2 h2 m2 => ⟨_, rfl, ?_⟩)
    exact hfull hf S2 h2 (m2.grX hs' fun b h1 _ h2 => by omega) (hL.mod.trans m2 fun b h _ => h)
  · refine evC_of (s52 (x := (0, fr, to, da, false)) (c := (c.1 + 1, c.2)) (hL.at 0 rfl) hs' hbN (Nat.le_trans hN hL.mod.next) (by omega) hlast (hL.mod.slOfN hd fun hl b o he _ h => hne hl b o he h) hsp hne hl fun s2 d S2 f2 h2 g2 d2 m2 => ⟨_, rfl, ?_⟩)
    refine hput (by omega) s2 d S2 (f2.imp id fun ⟨b, h1, h2⟩ => ⟨b, h1, Nat.le_trans hL.mod.next h2⟩) h2 g2 ?_ (Mod.trans (hL.mod.mono fun c hc _ => Or.inl hc) m2 fun b h _ => h)
    exact d2.down hL.mod.next
end
end Go.Proofs.Ytcookjolkhcjhaa
