/-
  DERIVED. GIVEN WITH THE SEED: THE CARDS: each row of YtfopfocedlbihaaGreatDoorRows.lean that lists a variable, with what it lists TIED to the program's text (the seventh form; the later family's looks); each row that meets fmt, with fmt's text TOLD by the authors' own Lean function (tested against real Go, not proved from fmt's source: count such statements apart). THE CARD IS WHAT COUNTS. Prove the row's statement (the work); the ties are given (YtfopfocedlbihaaGreatDoorTie.lean); close each card by the builder's one call (the guide's Derived/Test/ToyasCard.lean, 'card_holds'). Laid BY PROGRAM, IN A SANDBOX (cutbox-door.mjs). By AI agents, Wed Nov 11 2026. No macro, syntax, notation, axiom, sorry.
-/
import Derived.Test.YtfopfocedlbihaaGreatDoorRows
import GoSem.ClaimSeven
namespace Go.Proofs.YtfopfocedlbihaaGreatDoor
namespace Rows

/-- THE TIED CARD OF 'wagonwaylaw28.DiaryTexts'. -/
def diaryTextsCard : Claim7 := { stood := { row := diaryTextsRow, standIns := [], harness := (true, "87eaf6d699747dcd2555161559df41743e26c54262999c9f2e9019c16b2cc390"), looks := true }, kinds := [], alts := [], laidByText := true, laidKinds := [.data, .data, .data, .data, .sentinel, .sentinel, .data, .data, .pinned], laidTests := true, laidLooks := .later }
def DiaryTextsCardSaid : Prop := Claim7.holds Tryz.pinned (.plain (OpenSpec.ofChange diaryTextsSpec)) diaryTextsCard

/-- THE SECOND FORM's CARD OF 'wagonwaylaw28.DiaryTexts'. -/
def diaryTextsUptoCard : Claim7 := { stood := { row := diaryTextsUptoRow, standIns := [], harness := (true, "87eaf6d699747dcd2555161559df41743e26c54262999c9f2e9019c16b2cc390"), looks := true }, kinds := [], alts := [], laidByText := true, laidKinds := [.data, .data, .data, .data, .sentinel, .sentinel, .data, .data, .pinned], laidTests := true, laidLooks := .later }
def DiaryTextsUptoCardSaid : Prop := Claim7.holds Tryz.pinned (.plain (OpenSpec.upto diaryTextsSpec)) diaryTextsUptoCard
end Rows
end Go.Proofs.YtfopfocedlbihaaGreatDoor
