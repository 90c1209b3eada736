/-
  DERIVED. GIVEN WITH THE SEED: THE CARDS: each row of YtabbbfdlgmoniaaDoorRows.lean that lists a variable, with what it lists TIED to the program's text (the seventh form; the later family's looks); each row that meets fmt, with fmt's text TOLD by the authors' own Lean function (tested against real Go, not proved from fmt's source: count such statements apart). THE CARD IS WHAT COUNTS. Prove the row's statement (the work); the ties are given (YtabbbfdlgmoniaaDoorTie.lean); close each card by the builder's one call (the guide's Derived/Test/ToyasCard.lean, 'card_holds'). Laid BY PROGRAM, IN A SANDBOX (cutbox-door.mjs). By AI agents, Wed Nov 11 2026. No macro, syntax, notation, axiom, sorry.
-/
import Derived.Test.YtabbbfdlgmoniaaDoorRows
import GoSem.ClaimSeven
namespace Go.Proofs.YtabbbfdlgmoniaaDoor
namespace Rows

/-- THE TIED CARD OF 'wagonwaylaw23.OrderLines'. -/
def orderLinesCard : Claim7 := { stood := { row := orderLinesRow, standIns := [], harness := (true, "d048126f7da778ab39225731f88d8caae186a13d67643c5e83b3270f03c51014"), looks := true }, kinds := [], alts := [], laidByText := true, laidKinds := [.data, .data, .data, .data, .sentinel, .sentinel, .data, .pinned], laidTests := true, laidLooks := .later }
def OrderLinesCardSaid : Prop := Claim7.holds Tryd.pinned (.plain (OpenSpec.ofChange orderLinesSpec)) orderLinesCard

/-- THE TIED CARD OF 'wagonwaylaw23.OrderNamed'. -/
def orderNamedCard : Claim7 := { stood := { row := orderNamedRow, standIns := [], harness := (true, "d048126f7da778ab39225731f88d8caae186a13d67643c5e83b3270f03c51014"), looks := true }, kinds := [], alts := [], laidByText := true, laidKinds := [.data, .data, .data, .data, .sentinel, .sentinel, .data, .pinned], laidTests := true, laidLooks := .later }
def OrderNamedCardSaid : Prop := Claim7.holds Tryd.pinned (.plain (OpenSpec.ofChange orderNamedSpec)) orderNamedCard

/-- THE TIED CARD OF 'wagonwaylaw23.OrderTexts'. -/
def orderTextsCard : Claim7 := { stood := { row := orderTextsRow, standIns := [], harness := (true, "d048126f7da778ab39225731f88d8caae186a13d67643c5e83b3270f03c51014"), looks := true }, kinds := [], alts := [], laidByText := true, laidKinds := [.data, .data, .data, .data, .sentinel, .sentinel, .data, .pinned], laidTests := true, laidLooks := .later }
def OrderTextsCardSaid : Prop := Claim7.holds Tryd.pinned (.plain (OpenSpec.ofChange orderTextsSpec)) orderTextsCard

/-- THE TIED CARD OF 'wagonwaylaw23.OrderBack'. -/
def orderBackCard : Claim7 := { stood := { row := orderBackRow, standIns := [], harness := (true, "d048126f7da778ab39225731f88d8caae186a13d67643c5e83b3270f03c51014"), looks := true }, kinds := [], alts := [], laidByText := true, laidKinds := [.data, .data, .data, .data, .sentinel, .sentinel, .data, .pinned], laidTests := true, laidLooks := .later }
def OrderBackCardSaid : Prop := Claim7.holds Tryd.pinned (.plain (OpenSpec.ofChange orderBackSpec)) orderBackCard

/-- THE TIED CARD OF 'wagonwaylaw26.WatchOrder'. -/
def watchOrderCard : Claim7 := { stood := { row := watchOrderRow, standIns := [], harness := (true, "d048126f7da778ab39225731f88d8caae186a13d67643c5e83b3270f03c51014"), looks := true }, kinds := [], alts := [], laidByText := true, laidKinds := [.data, .data, .data, .data], laidTests := true, laidLooks := .later }
def WatchOrderCardSaid : Prop := Claim7.holds Tryd.pinned (.plain (OpenSpec.ofChange watchOrderSpec)) watchOrderCard

/-- THE TIED CARD OF 'wagonwaylaw28.DiaryLines'. -/
def diaryLinesCard : Claim7 := { stood := { row := diaryLinesRow, standIns := [], harness := (true, "d048126f7da778ab39225731f88d8caae186a13d67643c5e83b3270f03c51014"), looks := true }, kinds := [], alts := [], laidByText := true, laidKinds := [.data, .data, .data, .data, .sentinel, .sentinel, .data, .data, .pinned], laidTests := true, laidLooks := .later }
def DiaryLinesCardSaid : Prop := Claim7.holds Tryd.pinned (.plain (OpenSpec.ofChange diaryLinesSpec)) diaryLinesCard

/-- THE TIED CARD OF 'wagonwaylaw23.OrderNames'. -/
def orderNamesCard : Claim7 := { stood := { row := orderNamesRow, standIns := [], harness := (true, "d048126f7da778ab39225731f88d8caae186a13d67643c5e83b3270f03c51014"), looks := true }, kinds := [], alts := [], laidByText := true, laidKinds := [.data, .data, .data, .data, .sentinel, .sentinel, .data, .pinned], laidTests := true, laidLooks := .later }
def OrderNamesCardSaid : Prop := Claim7.holds Tryd.pinned (.plain (OpenSpec.ofChange orderNamesSpec)) orderNamesCard

/-- THE TIED CARD OF 'wagonwaylaw23.OrderAny'. -/
def orderAnyCard : Claim7 := { stood := { row := orderAnyRow, standIns := [], harness := (true, "d048126f7da778ab39225731f88d8caae186a13d67643c5e83b3270f03c51014"), looks := true }, kinds := [], alts := [], laidByText := true, laidKinds := [.data, .data, .data, .data, .sentinel, .sentinel, .data, .pinned], laidTests := true, laidLooks := .later }
def OrderAnyCardSaid : Prop := Claim7.holds Tryd.pinned (.plain (OpenSpec.ofChange orderAnySpec)) orderAnyCard

/-- THE SECOND FORM's CARD OF 'wagonwaylaw23.OrderLines'. -/
def orderLinesUptoCard : Claim7 := { stood := { row := orderLinesUptoRow, standIns := [], harness := (true, "d048126f7da778ab39225731f88d8caae186a13d67643c5e83b3270f03c51014"), looks := true }, kinds := [], alts := [], laidByText := true, laidKinds := [.data, .data, .data, .data, .sentinel, .sentinel, .data, .pinned], laidTests := true, laidLooks := .later }
def OrderLinesUptoCardSaid : Prop := Claim7.holds Tryd.pinned (.plain (OpenSpec.upto orderLinesSpec)) orderLinesUptoCard

/-- THE SECOND FORM's CARD OF 'wagonwaylaw23.OrderNamed'. -/
def orderNamedUptoCard : Claim7 := { stood := { row := orderNamedUptoRow, standIns := [], harness := (true, "d048126f7da778ab39225731f88d8caae186a13d67643c5e83b3270f03c51014"), looks := true }, kinds := [], alts := [], laidByText := true, laidKinds := [.data, .data, .data, .data, .sentinel, .sentinel, .data, .pinned], laidTests := true, laidLooks := .later }
def OrderNamedUptoCardSaid : Prop := Claim7.holds Tryd.pinned (.plain (OpenSpec.upto orderNamedSpec)) orderNamedUptoCard

/-- THE SECOND FORM's CARD OF 'wagonwaylaw23.OrderTexts'. -/
def orderTextsUptoCard : Claim7 := { stood := { row := orderTextsUptoRow, standIns := [], harness := (true, "d048126f7da778ab39225731f88d8caae186a13d67643c5e83b3270f03c51014"), looks := true }, kinds := [], alts := [], laidByText := true, laidKinds := [.data, .data, .data, .data, .sentinel, .sentinel, .data, .pinned], laidTests := true, laidLooks := .later }
def OrderTextsUptoCardSaid : Prop := Claim7.holds Tryd.pinned (.plain (OpenSpec.upto orderTextsSpec)) orderTextsUptoCard

/-- THE SECOND FORM's CARD OF 'wagonwaylaw23.OrderBack'. -/
def orderBackUptoCard : Claim7 := { stood := { row := orderBackUptoRow, standIns := [], harness := (true, "d048126f7da778ab39225731f88d8caae186a13d67643c5e83b3270f03c51014"), looks := true }, kinds := [], alts := [], laidByText := true, laidKinds := [.data, .data, .data, .data, .sentinel, .sentinel, .data, .pinned], laidTests := true, laidLooks := .later }
def OrderBackUptoCardSaid : Prop := Claim7.holds Tryd.pinned (.plain (OpenSpec.upto orderBackSpec)) orderBackUptoCard

/-- THE SECOND FORM's CARD OF 'wagonwaylaw26.WatchOrder'. -/
def watchOrderUptoCard : Claim7 := { stood := { row := watchOrderUptoRow, standIns := [], harness := (true, "d048126f7da778ab39225731f88d8caae186a13d67643c5e83b3270f03c51014"), looks := true }, kinds := [], alts := [], laidByText := true, laidKinds := [.data, .data, .data, .data], laidTests := true, laidLooks := .later }
def WatchOrderUptoCardSaid : Prop := Claim7.holds Tryd.pinned (.plain (OpenSpec.upto watchOrderSpec)) watchOrderUptoCard

/-- THE SECOND FORM's CARD OF 'wagonwaylaw28.DiaryLines'. -/
def diaryLinesUptoCard : Claim7 := { stood := { row := diaryLinesUptoRow, standIns := [], harness := (true, "d048126f7da778ab39225731f88d8caae186a13d67643c5e83b3270f03c51014"), looks := true }, kinds := [], alts := [], laidByText := true, laidKinds := [.data, .data, .data, .data, .sentinel, .sentinel, .data, .data, .pinned], laidTests := true, laidLooks := .later }
def DiaryLinesUptoCardSaid : Prop := Claim7.holds Tryd.pinned (.plain (OpenSpec.upto diaryLinesSpec)) diaryLinesUptoCard

/-- THE SECOND FORM's CARD OF 'wagonwaylaw23.OrderNames'. -/
def orderNamesUptoCard : Claim7 := { stood := { row := orderNamesUptoRow, standIns := [], harness := (true, "d048126f7da778ab39225731f88d8caae186a13d67643c5e83b3270f03c51014"), looks := true }, kinds := [], alts := [], laidByText := true, laidKinds := [.data, .data, .data, .data, .sentinel, .sentinel, .data, .pinned], laidTests := true, laidLooks := .later }
def OrderNamesUptoCardSaid : Prop := Claim7.holds Tryd.pinned (.plain (OpenSpec.upto orderNamesSpec)) orderNamesUptoCard

/-- THE SECOND FORM's CARD OF 'wagonwaylaw23.OrderAny'. -/
def orderAnyUptoCard : Claim7 := { stood := { row := orderAnyUptoRow, standIns := [], harness := (true, "d048126f7da778ab39225731f88d8caae186a13d67643c5e83b3270f03c51014"), looks := true }, kinds := [], alts := [], laidByText := true, laidKinds := [.data, .data, .data, .data, .sentinel, .sentinel, .data, .pinned], laidTests := true, laidLooks := .later }
def OrderAnyUptoCardSaid : Prop := Claim7.holds Tryd.pinned (.plain (OpenSpec.upto orderAnySpec)) orderAnyUptoCard
end Rows
end Go.Proofs.YtabbbfdlgmoniaaDoor
