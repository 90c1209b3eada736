/-
  DERIVED. GIVEN WITH THE SEED: THE CARDS: each row of YtfopfocedlbihaaDoorRows.lean that lists a variable, with what it lists TIED to the program's text (the seventh form; the later family's looks); each row that meets fmt, with fmt's text TOLD by the authors' own Lean function (tested against real Go, not proved from fmt's source: count such statements apart). THE CARD IS WHAT COUNTS. Prove the row's statement (the work); the ties are given (YtfopfocedlbihaaDoorTie.lean); close each card by the builder's one call (the guide's Derived/Test/ToyasCard.lean, 'card_holds'). Laid BY PROGRAM, IN A SANDBOX (cutbox-door.mjs). By AI agents, Wed Nov 11 2026. No macro, syntax, notation, axiom, sorry.
-/
import Derived.Test.YtfopfocedlbihaaDoorRows
import GoSem.ClaimSeven
namespace Go.Proofs.YtfopfocedlbihaaDoor
namespace Rows

/-- THE TIED CARD OF 'wagonwaylaw26.WatchOrder'. -/
def watchOrderCard : Claim7 := { stood := { row := watchOrderRow, standIns := [], harness := (true, "7551c4a74b69b6f8dee0ea022195b2397e70aa253c232d2e9ac4a368f041676e"), looks := true }, kinds := [], alts := [], laidByText := true, laidKinds := [.data, .data, .data, .data], laidTests := true, laidLooks := .later }
def WatchOrderCardSaid : Prop := Claim7.holds Tryd.pinned (.plain (OpenSpec.ofChange watchOrderSpec)) watchOrderCard

/-- THE TIED CARD OF 'wagonwaylaw28.DiaryBack'. -/
def diaryBackCard : Claim7 := { stood := { row := diaryBackRow, standIns := [], harness := (true, "7551c4a74b69b6f8dee0ea022195b2397e70aa253c232d2e9ac4a368f041676e"), looks := true }, kinds := [], alts := [], laidByText := true, laidKinds := [.data, .data, .data, .data, .sentinel, .sentinel, .data, .data, .pinned], laidTests := true, laidLooks := .later }
def DiaryBackCardSaid : Prop := Claim7.holds Tryd.pinned (.plain (OpenSpec.ofChange diaryBackSpec)) diaryBackCard

/-- THE SECOND FORM's CARD OF 'wagonwaylaw26.WatchOrder'. -/
def watchOrderUptoCard : Claim7 := { stood := { row := watchOrderUptoRow, standIns := [], harness := (true, "7551c4a74b69b6f8dee0ea022195b2397e70aa253c232d2e9ac4a368f041676e"), looks := true }, kinds := [], alts := [], laidByText := true, laidKinds := [.data, .data, .data, .data], laidTests := true, laidLooks := .later }
def WatchOrderUptoCardSaid : Prop := Claim7.holds Tryd.pinned (.plain (OpenSpec.upto watchOrderSpec)) watchOrderUptoCard

/-- THE SECOND FORM's CARD OF 'wagonwaylaw28.DiaryBack'. -/
def diaryBackUptoCard : Claim7 := { stood := { row := diaryBackUptoRow, standIns := [], harness := (true, "7551c4a74b69b6f8dee0ea022195b2397e70aa253c232d2e9ac4a368f041676e"), looks := true }, kinds := [], alts := [], laidByText := true, laidKinds := [.data, .data, .data, .data, .sentinel, .sentinel, .data, .data, .pinned], laidTests := true, laidLooks := .later }
def DiaryBackUptoCardSaid : Prop := Claim7.holds Tryd.pinned (.plain (OpenSpec.upto diaryBackSpec)) diaryBackUptoCard
end Rows
end Go.Proofs.YtfopfocedlbihaaDoor
