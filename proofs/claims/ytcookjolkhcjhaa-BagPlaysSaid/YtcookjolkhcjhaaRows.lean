/-
  No cell of these rows narrows 'for every input' (looked for: loops, veiled, ifaces, maps, wideKeys, modest, calm, conditions, laid).
  DERIVED. THE GIVEN ROWS OF THIS SEAT. 10 by the template 'for every input the law returns true; each argument reads behind the call as it read before'; 0 by the template 'total and deterministic' (their statements: YtcookjolkhcjhaaTotals.lean).
  GIVEN WITH THE SEED: the statements are not yours to turn. If you find one false, say at which input.
  Laid BY PROGRAM, IN A SANDBOX (cutbox-rows.mjs): the forced cells as the released guide's own fill.sh prints them over the translation 0cdc2774f96d2a34… (all of the seat's roots in one cut). By AI agents, Wed Nov 11 2026. No macro, syntax, notation, axiom, sorry.
-/
import Derived.Test.YtcookjolkhcjhaaChecked
import GoSem.Claim
import GoSem.ClaimJoined
import GoSem.ClaimMapViews
import Derived.JoinedTies
import Derived.KernelRfl
namespace Go.Proofs.Ytcookjolkhcjhaa
/- THE CELL 'sum', in the pinned program and in every row, IS THE sha256 OF THE DUMP (.gsa) THAT YtcookjolkhcjhaaProg.lean LOADS. Nothing in Lean hashes anything: it is a label: what it is worth is what the hold of that sum in a sandbox is worth. -/
noncomputable def Try.pinned : Pinned := { name := "ytcookjolkhcjhaa", sum := "0cdc2774f96d2a342c0fff4486e9fd8da5fc09267c3eb65a2e6e81314ff2279a", checked := Try.checked }
namespace Rows
def none {H : Type} : Left H := { results := [], args := [] }

/-- 'wagonwaylaw16.ChaseLeast': WHATEVER THE INPUT: true; the input reads as it did. -/
def chaseLeastSpec : ChangeSpec := { name := "chaseLeast", fn := fun _ => fun
  | [d1, d2] => { results := [.lit (.bool true)], args := [d1, d2] }
  | _ => none }
def chaseLeastRow : OpenClaim := { program := "ytcookjolkhcjhaa", sum := "0cdc2774f96d2a342c0fff4486e9fd8da5fc09267c3eb65a2e6e81314ff2279a", func := "wagonway/wagonwaylaw16.ChaseLeast", spec := "chaseLeast", unfollowed := true, recurses := true, apart := false }
def ChaseLeastSaid : Prop := chaseLeastRow.holds Try.pinned (OpenSpec.ofChange chaseLeastSpec)

/-- ITS FALSE NEIGHBOUR: 'it returns false'. Refute it at one input. -/
def chaseLeastWrong : ChangeSpec := { name := "chaseLeast", fn := fun _ => fun
  | [d1, d2] => { results := [.lit (.bool false)], args := [d1, d2] }
  | _ => none }
def ChaseLeastWrongFalsely : Prop := chaseLeastRow.holds Try.pinned (OpenSpec.ofChange chaseLeastWrong)

/-- 'wagonwaylaw16.ChaseCircles': WHATEVER THE INPUT: true; the input reads as it did. -/
def chaseCirclesSpec : ChangeSpec := { name := "chaseCircles", fn := fun _ => fun
  | [d1, d2, d3] => { results := [.lit (.bool true)], args := [d1, d2, d3] }
  | _ => none }
def chaseCirclesRow : OpenClaim := { program := "ytcookjolkhcjhaa", sum := "0cdc2774f96d2a342c0fff4486e9fd8da5fc09267c3eb65a2e6e81314ff2279a", func := "wagonway/wagonwaylaw16.ChaseCircles", spec := "chaseCircles", unfollowed := true, recurses := true, apart := false }
def ChaseCirclesSaid : Prop := chaseCirclesRow.holds Try.pinned (OpenSpec.ofChange chaseCirclesSpec)

/-- ITS FALSE NEIGHBOUR: 'it returns false'. Refute it at one input. -/
def chaseCirclesWrong : ChangeSpec := { name := "chaseCircles", fn := fun _ => fun
  | [d1, d2, d3] => { results := [.lit (.bool false)], args := [d1, d2, d3] }
  | _ => none }
def ChaseCirclesWrongFalsely : Prop := chaseCirclesRow.holds Try.pinned (OpenSpec.ofChange chaseCirclesWrong)

/-- 'wagonwaylaw16.ChaseRound': WHATEVER THE INPUT: true; the input reads as it did. -/
def chaseRoundSpec : ChangeSpec := { name := "chaseRound", fn := fun _ => fun
  | [d1, d2] => { results := [.lit (.bool true)], args := [d1, d2] }
  | _ => none }
def chaseRoundRow : OpenClaim := { program := "ytcookjolkhcjhaa", sum := "0cdc2774f96d2a342c0fff4486e9fd8da5fc09267c3eb65a2e6e81314ff2279a", func := "wagonway/wagonwaylaw16.ChaseRound", spec := "chaseRound", unfollowed := true, recurses := true, apart := false }
def ChaseRoundSaid : Prop := chaseRoundRow.holds Try.pinned (OpenSpec.ofChange chaseRoundSpec)

/-- ITS FALSE NEIGHBOUR: 'it returns false'. Refute it at one input. -/
def chaseRoundWrong : ChangeSpec := { name := "chaseRound", fn := fun _ => fun
  | [d1, d2] => { results := [.lit (.bool false)], args := [d1, d2] }
  | _ => none }
def ChaseRoundWrongFalsely : Prop := chaseRoundRow.holds Try.pinned (OpenSpec.ofChange chaseRoundWrong)

/-- 'wagonwaylaw23.OrderBytes': WHATEVER THE INPUT: true; the input reads as it did. -/
def orderBytesSpec : ChangeSpec := { name := "orderBytes", fn := fun _ => fun
  | [d] => { results := [.lit (.bool true)], args := [d] }
  | _ => none }
def orderBytesRow : OpenClaim := { program := "ytcookjolkhcjhaa", sum := "0cdc2774f96d2a342c0fff4486e9fd8da5fc09267c3eb65a2e6e81314ff2279a", func := "wagonway/wagonwaylaw23.OrderBytes", spec := "orderBytes", unfollowed := true, recurses := true, apart := false }
def OrderBytesSaid : Prop := orderBytesRow.holds Try.pinned (OpenSpec.ofChange orderBytesSpec)

/-- ITS FALSE NEIGHBOUR: 'it returns false'. Refute it at one input. -/
def orderBytesWrong : ChangeSpec := { name := "orderBytes", fn := fun _ => fun
  | [d] => { results := [.lit (.bool false)], args := [d] }
  | _ => none }
def OrderBytesWrongFalsely : Prop := orderBytesRow.holds Try.pinned (OpenSpec.ofChange orderBytesWrong)

/-- 'wagonwaylaw16.ChaseFinds': WHATEVER THE INPUT: true; the input reads as it did. -/
def chaseFindsSpec : ChangeSpec := { name := "chaseFinds", fn := fun _ => fun
  | [d1, d2] => { results := [.lit (.bool true)], args := [d1, d2] }
  | _ => none }
def chaseFindsRow : OpenClaim := { program := "ytcookjolkhcjhaa", sum := "0cdc2774f96d2a342c0fff4486e9fd8da5fc09267c3eb65a2e6e81314ff2279a", func := "wagonway/wagonwaylaw16.ChaseFinds", spec := "chaseFinds", unfollowed := true, recurses := true, apart := false }
def ChaseFindsSaid : Prop := chaseFindsRow.holds Try.pinned (OpenSpec.ofChange chaseFindsSpec)

/-- ITS FALSE NEIGHBOUR: 'it returns false'. Refute it at one input. -/
def chaseFindsWrong : ChangeSpec := { name := "chaseFinds", fn := fun _ => fun
  | [d1, d2] => { results := [.lit (.bool false)], args := [d1, d2] }
  | _ => none }
def ChaseFindsWrongFalsely : Prop := chaseFindsRow.holds Try.pinned (OpenSpec.ofChange chaseFindsWrong)

/-- 'wagonwaylaw08.BagKeeps': WHATEVER THE INPUT: true; the input reads as it did. -/
def bagKeepsSpec : ChangeSpec := { name := "bagKeeps", fn := fun _ => fun
  | [d] => { results := [.lit (.bool true)], args := [d] }
  | _ => none }
def bagKeepsRow : OpenClaim := { program := "ytcookjolkhcjhaa", sum := "0cdc2774f96d2a342c0fff4486e9fd8da5fc09267c3eb65a2e6e81314ff2279a", func := "wagonway/wagonwaylaw08.BagKeeps", spec := "bagKeeps", unfollowed := true, recurses := true, apart := false }
def BagKeepsSaid : Prop := bagKeepsRow.holds Try.pinned (OpenSpec.ofChange bagKeepsSpec)

/-- ITS FALSE NEIGHBOUR: 'it returns false'. Refute it at one input. -/
def bagKeepsWrong : ChangeSpec := { name := "bagKeeps", fn := fun _ => fun
  | [d] => { results := [.lit (.bool false)], args := [d] }
  | _ => none }
def BagKeepsWrongFalsely : Prop := bagKeepsRow.holds Try.pinned (OpenSpec.ofChange bagKeepsWrong)

/-- 'wagonwaylaw08.BagOrder': WHATEVER THE INPUT: true; the input reads as it did. -/
def bagOrderSpec : ChangeSpec := { name := "bagOrder", fn := fun _ => fun
  | [d] => { results := [.lit (.bool true)], args := [d] }
  | _ => none }
def bagOrderRow : OpenClaim := { program := "ytcookjolkhcjhaa", sum := "0cdc2774f96d2a342c0fff4486e9fd8da5fc09267c3eb65a2e6e81314ff2279a", func := "wagonway/wagonwaylaw08.BagOrder", spec := "bagOrder", unfollowed := true, recurses := true, apart := false }
def BagOrderSaid : Prop := bagOrderRow.holds Try.pinned (OpenSpec.ofChange bagOrderSpec)

/-- ITS FALSE NEIGHBOUR: 'it returns false'. Refute it at one input. -/
def bagOrderWrong : ChangeSpec := { name := "bagOrder", fn := fun _ => fun
  | [d] => { results := [.lit (.bool false)], args := [d] }
  | _ => none }
def BagOrderWrongFalsely : Prop := bagOrderRow.holds Try.pinned (OpenSpec.ofChange bagOrderWrong)

/-- 'wagonwaylaw08.BagPlays': WHATEVER THE INPUT: true; the input reads as it did. -/
def bagPlaysSpec : ChangeSpec := { name := "bagPlays", fn := fun _ => fun
  | [d] => { results := [.lit (.bool true)], args := [d] }
  | _ => none }
def bagPlaysRow : OpenClaim := { program := "ytcookjolkhcjhaa", sum := "0cdc2774f96d2a342c0fff4486e9fd8da5fc09267c3eb65a2e6e81314ff2279a", func := "wagonway/wagonwaylaw08.BagPlays", spec := "bagPlays", unfollowed := true, recurses := true, apart := false }
def BagPlaysSaid : Prop := bagPlaysRow.holds Try.pinned (OpenSpec.ofChange bagPlaysSpec)

/-- ITS FALSE NEIGHBOUR: 'it returns false'. Refute it at one input. -/
def bagPlaysWrong : ChangeSpec := { name := "bagPlays", fn := fun _ => fun
  | [d] => { results := [.lit (.bool false)], args := [d] }
  | _ => none }
def BagPlaysWrongFalsely : Prop := bagPlaysRow.holds Try.pinned (OpenSpec.ofChange bagPlaysWrong)

/-- 'wagonwaylaw08.BagNames': WHATEVER THE INPUT: true; the input reads as it did. -/
def bagNamesSpec : ChangeSpec := { name := "bagNames", fn := fun _ => fun
  | [] => { results := [.lit (.bool true)], args := [] }
  | _ => none }
def bagNamesRow : OpenClaim := { program := "ytcookjolkhcjhaa", sum := "0cdc2774f96d2a342c0fff4486e9fd8da5fc09267c3eb65a2e6e81314ff2279a", func := "wagonway/wagonwaylaw08.BagNames", spec := "bagNames", unfollowed := true, recurses := true, apart := false }
def BagNamesSaid : Prop := bagNamesRow.holds Try.pinned (OpenSpec.ofChange bagNamesSpec)

/-- ITS FALSE NEIGHBOUR: 'it returns false'. Refute it at one input. -/
def bagNamesWrong : ChangeSpec := { name := "bagNames", fn := fun _ => fun
  | [] => { results := [.lit (.bool false)], args := [] }
  | _ => none }
def BagNamesWrongFalsely : Prop := bagNamesRow.holds Try.pinned (OpenSpec.ofChange bagNamesWrong)

/-- 'wagonwaylaw08.BagRefuses': WHATEVER THE INPUT: true; the input reads as it did. -/
def bagRefusesSpec : ChangeSpec := { name := "bagRefuses", fn := fun _ => fun
  | [d1, d2] => { results := [.lit (.bool true)], args := [d1, d2] }
  | _ => none }
def bagRefusesRow : OpenClaim := { program := "ytcookjolkhcjhaa", sum := "0cdc2774f96d2a342c0fff4486e9fd8da5fc09267c3eb65a2e6e81314ff2279a", func := "wagonway/wagonwaylaw08.BagRefuses", spec := "bagRefuses", unfollowed := true, recurses := true, apart := false }
def BagRefusesSaid : Prop := bagRefusesRow.holds Try.pinned (OpenSpec.ofChange bagRefusesSpec)

/-- ITS FALSE NEIGHBOUR: 'it returns false'. Refute it at one input. -/
def bagRefusesWrong : ChangeSpec := { name := "bagRefuses", fn := fun _ => fun
  | [d1, d2] => { results := [.lit (.bool false)], args := [d1, d2] }
  | _ => none }
def BagRefusesWrongFalsely : Prop := bagRefusesRow.holds Try.pinned (OpenSpec.ofChange bagRefusesWrong)

/- THE SECOND FORM. 'bulk': how many values and letters a reading holds, each counted each time it is reached (what is shared counts as often as it is met; a slice's spare places count too). A statement '..UptoSaid' is the law's where the arguments, and the package variables that the reading takes, are together of bulk at most 1048576: NARROWER than '..Said'. Prove '..Said' where nothing that the law and all that it calls make is longer than what came in: it says more and counts as full. Else prove '..UptoSaid'. A law counts once. -/
mutual
def uptoBulk {H : Type} : DataW H → Nat
  | .lit (.string bytes) => bytes.length + 1
  | .lit _ => 1
  | .nil => 1
  | .ptr d => uptoBulk d + 1
  | .slice elems spare => uptoBulkAll elems + uptoBulkAll spare + 1
  | .agg parts => uptoBulkAll parts + 1
  | .iface _ d => uptoBulk d + 1
  | .map entries => uptoBulkEntries entries + 1
  | .held _ => 1
def uptoBulkAll {H : Type} : List (DataW H) → Nat
  | [] => 0
  | d :: r => uptoBulk d + uptoBulkAll r
def uptoBulkEntries {H : Type} : List (Lit × DataW H) → Nat
  | [] => 0
  | x :: r => uptoBulkEntry x + uptoBulkEntries r
def uptoBulkEntry {H : Type} : Lit × DataW H → Nat
  | (.string bytes, d) => bytes.length + uptoBulk d + 1
  | (_, d) => uptoBulk d + 1
 end
def uptoSmall : (H : Type) → List (DataW H) → Bool := fun _ ds => decide (uptoBulkAll ds ≤ 1048576)
def OpenSpec.upto (s : _root_.Go.ChangeSpec) : _root_.Go.OpenSpec := { _root_.Go.OpenSpec.ofChange s with cond := some uptoSmall }

/-- 'wagonwaylaw16.ChaseLeast', WHERE WHAT IT READS IS OF BULK AT MOST 1048576: true; the input reads as it did. -/
def chaseLeastUptoRow : OpenClaim := { program := "ytcookjolkhcjhaa", sum := "0cdc2774f96d2a342c0fff4486e9fd8da5fc09267c3eb65a2e6e81314ff2279a", func := "wagonway/wagonwaylaw16.ChaseLeast", spec := "chaseLeast", unfollowed := true, recurses := true, apart := false, narrowed := true }
def ChaseLeastUptoSaid : Prop := chaseLeastUptoRow.holds Try.pinned (OpenSpec.upto chaseLeastSpec)

/-- 'wagonwaylaw16.ChaseCircles', WHERE WHAT IT READS IS OF BULK AT MOST 1048576: true; the input reads as it did. -/
def chaseCirclesUptoRow : OpenClaim := { program := "ytcookjolkhcjhaa", sum := "0cdc2774f96d2a342c0fff4486e9fd8da5fc09267c3eb65a2e6e81314ff2279a", func := "wagonway/wagonwaylaw16.ChaseCircles", spec := "chaseCircles", unfollowed := true, recurses := true, apart := false, narrowed := true }
def ChaseCirclesUptoSaid : Prop := chaseCirclesUptoRow.holds Try.pinned (OpenSpec.upto chaseCirclesSpec)

/-- 'wagonwaylaw16.ChaseRound', WHERE WHAT IT READS IS OF BULK AT MOST 1048576: true; the input reads as it did. -/
def chaseRoundUptoRow : OpenClaim := { program := "ytcookjolkhcjhaa", sum := "0cdc2774f96d2a342c0fff4486e9fd8da5fc09267c3eb65a2e6e81314ff2279a", func := "wagonway/wagonwaylaw16.ChaseRound", spec := "chaseRound", unfollowed := true, recurses := true, apart := false, narrowed := true }
def ChaseRoundUptoSaid : Prop := chaseRoundUptoRow.holds Try.pinned (OpenSpec.upto chaseRoundSpec)

/-- 'wagonwaylaw23.OrderBytes', WHERE WHAT IT READS IS OF BULK AT MOST 1048576: true; the input reads as it did. -/
def orderBytesUptoRow : OpenClaim := { program := "ytcookjolkhcjhaa", sum := "0cdc2774f96d2a342c0fff4486e9fd8da5fc09267c3eb65a2e6e81314ff2279a", func := "wagonway/wagonwaylaw23.OrderBytes", spec := "orderBytes", unfollowed := true, recurses := true, apart := false, narrowed := true }
def OrderBytesUptoSaid : Prop := orderBytesUptoRow.holds Try.pinned (OpenSpec.upto orderBytesSpec)

/-- 'wagonwaylaw16.ChaseFinds', WHERE WHAT IT READS IS OF BULK AT MOST 1048576: true; the input reads as it did. -/
def chaseFindsUptoRow : OpenClaim := { program := "ytcookjolkhcjhaa", sum := "0cdc2774f96d2a342c0fff4486e9fd8da5fc09267c3eb65a2e6e81314ff2279a", func := "wagonway/wagonwaylaw16.ChaseFinds", spec := "chaseFinds", unfollowed := true, recurses := true, apart := false, narrowed := true }
def ChaseFindsUptoSaid : Prop := chaseFindsUptoRow.holds Try.pinned (OpenSpec.upto chaseFindsSpec)

/-- 'wagonwaylaw08.BagKeeps', WHERE WHAT IT READS IS OF BULK AT MOST 1048576: true; the input reads as it did. -/
def bagKeepsUptoRow : OpenClaim := { program := "ytcookjolkhcjhaa", sum := "0cdc2774f96d2a342c0fff4486e9fd8da5fc09267c3eb65a2e6e81314ff2279a", func := "wagonway/wagonwaylaw08.BagKeeps", spec := "bagKeeps", unfollowed := true, recurses := true, apart := false, narrowed := true }
def BagKeepsUptoSaid : Prop := bagKeepsUptoRow.holds Try.pinned (OpenSpec.upto bagKeepsSpec)

/-- 'wagonwaylaw08.BagOrder', WHERE WHAT IT READS IS OF BULK AT MOST 1048576: true; the input reads as it did. -/
def bagOrderUptoRow : OpenClaim := { program := "ytcookjolkhcjhaa", sum := "0cdc2774f96d2a342c0fff4486e9fd8da5fc09267c3eb65a2e6e81314ff2279a", func := "wagonway/wagonwaylaw08.BagOrder", spec := "bagOrder", unfollowed := true, recurses := true, apart := false, narrowed := true }
def BagOrderUptoSaid : Prop := bagOrderUptoRow.holds Try.pinned (OpenSpec.upto bagOrderSpec)

/-- 'wagonwaylaw08.BagPlays', WHERE WHAT IT READS IS OF BULK AT MOST 1048576: true; the input reads as it did. -/
def bagPlaysUptoRow : OpenClaim := { program := "ytcookjolkhcjhaa", sum := "0cdc2774f96d2a342c0fff4486e9fd8da5fc09267c3eb65a2e6e81314ff2279a", func := "wagonway/wagonwaylaw08.BagPlays", spec := "bagPlays", unfollowed := true, recurses := true, apart := false, narrowed := true }
def BagPlaysUptoSaid : Prop := bagPlaysUptoRow.holds Try.pinned (OpenSpec.upto bagPlaysSpec)

/-- 'wagonwaylaw08.BagNames', WHERE WHAT IT READS IS OF BULK AT MOST 1048576: true; the input reads as it did. -/
def bagNamesUptoRow : OpenClaim := { program := "ytcookjolkhcjhaa", sum := "0cdc2774f96d2a342c0fff4486e9fd8da5fc09267c3eb65a2e6e81314ff2279a", func := "wagonway/wagonwaylaw08.BagNames", spec := "bagNames", unfollowed := true, recurses := true, apart := false, narrowed := true }
def BagNamesUptoSaid : Prop := bagNamesUptoRow.holds Try.pinned (OpenSpec.upto bagNamesSpec)

/-- 'wagonwaylaw08.BagRefuses', WHERE WHAT IT READS IS OF BULK AT MOST 1048576: true; the input reads as it did. -/
def bagRefusesUptoRow : OpenClaim := { program := "ytcookjolkhcjhaa", sum := "0cdc2774f96d2a342c0fff4486e9fd8da5fc09267c3eb65a2e6e81314ff2279a", func := "wagonway/wagonwaylaw08.BagRefuses", spec := "bagRefuses", unfollowed := true, recurses := true, apart := false, narrowed := true }
def BagRefusesUptoSaid : Prop := bagRefusesUptoRow.holds Try.pinned (OpenSpec.upto bagRefusesSpec)

end Rows
end Go.Proofs.Ytcookjolkhcjhaa
