/-
  No cell of these rows narrows 'for every input' (looked for: loops, veiled, ifaces, maps, wideKeys, modest, calm, conditions, laid).
  DERIVED. THE GIVEN ROWS OF THIS SEAT. 11 by the template 'for every input the law returns true; each argument reads behind the call as it read before'; 0 by the template 'total and deterministic' (their statements: YtijpolfmiajenaaTotals.lean).
  GIVEN WITH THE SEED: the statements are not yours to turn. If you find one false, say at which input.
  Laid BY PROGRAM, IN A SANDBOX (cutbox-rows.mjs): the forced cells as the released guide's own fill.sh prints them over the translation e455b8be3b5d4400… (all of the seat's roots in one cut). By AI agents, Wed Nov 11 2026. No macro, syntax, notation, axiom, sorry.
-/
import Derived.Test.YtijpolfmiajenaaChecked
import GoSem.Claim
import GoSem.ClaimJoined
import GoSem.ClaimMapViews
import Derived.JoinedTies
import Derived.KernelRfl
namespace Go.Proofs.Ytijpolfmiajenaa
/- THE CELL 'sum', in the pinned program and in every row, IS THE sha256 OF THE DUMP (.gsa) THAT YtijpolfmiajenaaProg.lean LOADS. Nothing in Lean hashes anything: it is a label: what it is worth is what the hold of that sum in a sandbox is worth. -/
noncomputable def Try.pinned : Pinned := { name := "ytijpolfmiajenaa", sum := "e455b8be3b5d440065f8fb0707a51baa4302c309daa4907e638e8e54ac1999ef", checked := Try.checked }
namespace Rows
def none {H : Type} : Left H := { results := [], args := [] }

/-- 'knurllaw02.CornersPick': WHATEVER THE INPUT: true; the input reads as it did. -/
def cornersPickSpec : ChangeSpec := { name := "cornersPick", fn := fun _ => fun
  | [d] => { results := [.lit (.bool true)], args := [d] }
  | _ => none }
def cornersPickRow : OpenClaim := { program := "ytijpolfmiajenaa", sum := "e455b8be3b5d440065f8fb0707a51baa4302c309daa4907e638e8e54ac1999ef", func := "knurl/knurllaw02.CornersPick", spec := "cornersPick", unfollowed := true, recurses := true, plainKeys := false, apart := false }
def CornersPickSaid : Prop := cornersPickRow.holds Try.pinned (OpenSpec.ofChange cornersPickSpec)

/-- ITS FALSE NEIGHBOUR: 'it returns false'. Refute it at one input. -/
def cornersPickWrong : ChangeSpec := { name := "cornersPick", fn := fun _ => fun
  | [d] => { results := [.lit (.bool false)], args := [d] }
  | _ => none }
def CornersPickWrongFalsely : Prop := cornersPickRow.holds Try.pinned (OpenSpec.ofChange cornersPickWrong)

/-- 'knurllaw02.CornersWhere': WHATEVER THE INPUT: true; the input reads as it did. -/
def cornersWhereSpec : ChangeSpec := { name := "cornersWhere", fn := fun _ => fun
  | [d1, d2] => { results := [.lit (.bool true)], args := [d1, d2] }
  | _ => none }
def cornersWhereRow : OpenClaim := { program := "ytijpolfmiajenaa", sum := "e455b8be3b5d440065f8fb0707a51baa4302c309daa4907e638e8e54ac1999ef", func := "knurl/knurllaw02.CornersWhere", spec := "cornersWhere", unfollowed := true, recurses := true, plainKeys := false, apart := false }
def CornersWhereSaid : Prop := cornersWhereRow.holds Try.pinned (OpenSpec.ofChange cornersWhereSpec)

/-- ITS FALSE NEIGHBOUR: 'it returns false'. Refute it at one input. -/
def cornersWhereWrong : ChangeSpec := { name := "cornersWhere", fn := fun _ => fun
  | [d1, d2] => { results := [.lit (.bool false)], args := [d1, d2] }
  | _ => none }
def CornersWhereWrongFalsely : Prop := cornersWhereRow.holds Try.pinned (OpenSpec.ofChange cornersWhereWrong)

/-- 'knurllaw02.CornersPoints': WHATEVER THE INPUT: true; the input reads as it did. -/
def cornersPointsSpec : ChangeSpec := { name := "cornersPoints", fn := fun _ => fun
  | [d] => { results := [.lit (.bool true)], args := [d] }
  | _ => none }
def cornersPointsRow : OpenClaim := { program := "ytijpolfmiajenaa", sum := "e455b8be3b5d440065f8fb0707a51baa4302c309daa4907e638e8e54ac1999ef", func := "knurl/knurllaw02.CornersPoints", spec := "cornersPoints", unfollowed := true, recurses := true, plainKeys := false, apart := false }
def CornersPointsSaid : Prop := cornersPointsRow.holds Try.pinned (OpenSpec.ofChange cornersPointsSpec)

/-- ITS FALSE NEIGHBOUR: 'it returns false'. Refute it at one input. -/
def cornersPointsWrong : ChangeSpec := { name := "cornersPoints", fn := fun _ => fun
  | [d] => { results := [.lit (.bool false)], args := [d] }
  | _ => none }
def CornersPointsWrongFalsely : Prop := cornersPointsRow.holds Try.pinned (OpenSpec.ofChange cornersPointsWrong)

/-- 'knurllaw02.CornersTurned': WHATEVER THE INPUT: true; the input reads as it did. -/
def cornersTurnedSpec : ChangeSpec := { name := "cornersTurned", fn := fun _ => fun
  | [d1, d2, d3] => { results := [.lit (.bool true)], args := [d1, d2, d3] }
  | _ => none }
def cornersTurnedRow : OpenClaim := { program := "ytijpolfmiajenaa", sum := "e455b8be3b5d440065f8fb0707a51baa4302c309daa4907e638e8e54ac1999ef", func := "knurl/knurllaw02.CornersTurned", spec := "cornersTurned", unfollowed := true, recurses := true, plainKeys := false, apart := false }
def CornersTurnedSaid : Prop := cornersTurnedRow.holds Try.pinned (OpenSpec.ofChange cornersTurnedSpec)

/-- ITS FALSE NEIGHBOUR: 'it returns false'. Refute it at one input. -/
def cornersTurnedWrong : ChangeSpec := { name := "cornersTurned", fn := fun _ => fun
  | [d1, d2, d3] => { results := [.lit (.bool false)], args := [d1, d2, d3] }
  | _ => none }
def CornersTurnedWrongFalsely : Prop := cornersTurnedRow.holds Try.pinned (OpenSpec.ofChange cornersTurnedWrong)

/-- 'knurllaw02.CornersMoved': WHATEVER THE INPUT: true; the input reads as it did. -/
def cornersMovedSpec : ChangeSpec := { name := "cornersMoved", fn := fun _ => fun
  | [d1, d2] => { results := [.lit (.bool true)], args := [d1, d2] }
  | _ => none }
def cornersMovedRow : OpenClaim := { program := "ytijpolfmiajenaa", sum := "e455b8be3b5d440065f8fb0707a51baa4302c309daa4907e638e8e54ac1999ef", func := "knurl/knurllaw02.CornersMoved", spec := "cornersMoved", unfollowed := true, recurses := true, plainKeys := false, apart := false }
def CornersMovedSaid : Prop := cornersMovedRow.holds Try.pinned (OpenSpec.ofChange cornersMovedSpec)

/-- ITS FALSE NEIGHBOUR: 'it returns false'. Refute it at one input. -/
def cornersMovedWrong : ChangeSpec := { name := "cornersMoved", fn := fun _ => fun
  | [d1, d2] => { results := [.lit (.bool false)], args := [d1, d2] }
  | _ => none }
def CornersMovedWrongFalsely : Prop := cornersMovedRow.holds Try.pinned (OpenSpec.ofChange cornersMovedWrong)

/-- 'knurllaw02.CornersLarger': WHATEVER THE INPUT: true; the input reads as it did. -/
def cornersLargerSpec : ChangeSpec := { name := "cornersLarger", fn := fun _ => fun
  | [d1, d2] => { results := [.lit (.bool true)], args := [d1, d2] }
  | _ => none }
def cornersLargerRow : OpenClaim := { program := "ytijpolfmiajenaa", sum := "e455b8be3b5d440065f8fb0707a51baa4302c309daa4907e638e8e54ac1999ef", func := "knurl/knurllaw02.CornersLarger", spec := "cornersLarger", unfollowed := true, recurses := true, plainKeys := false, apart := false }
def CornersLargerSaid : Prop := cornersLargerRow.holds Try.pinned (OpenSpec.ofChange cornersLargerSpec)

/-- ITS FALSE NEIGHBOUR: 'it returns false'. Refute it at one input. -/
def cornersLargerWrong : ChangeSpec := { name := "cornersLarger", fn := fun _ => fun
  | [d1, d2] => { results := [.lit (.bool false)], args := [d1, d2] }
  | _ => none }
def CornersLargerWrongFalsely : Prop := cornersLargerRow.holds Try.pinned (OpenSpec.ofChange cornersLargerWrong)

/-- 'knurllaw02.CornersCentre': WHATEVER THE INPUT: true; the input reads as it did. -/
def cornersCentreSpec : ChangeSpec := { name := "cornersCentre", fn := fun _ => fun
  | [d] => { results := [.lit (.bool true)], args := [d] }
  | _ => none }
def cornersCentreRow : OpenClaim := { program := "ytijpolfmiajenaa", sum := "e455b8be3b5d440065f8fb0707a51baa4302c309daa4907e638e8e54ac1999ef", func := "knurl/knurllaw02.CornersCentre", spec := "cornersCentre", unfollowed := true, recurses := true, plainKeys := false, apart := false }
def CornersCentreSaid : Prop := cornersCentreRow.holds Try.pinned (OpenSpec.ofChange cornersCentreSpec)

/-- ITS FALSE NEIGHBOUR: 'it returns false'. Refute it at one input. -/
def cornersCentreWrong : ChangeSpec := { name := "cornersCentre", fn := fun _ => fun
  | [d] => { results := [.lit (.bool false)], args := [d] }
  | _ => none }
def CornersCentreWrongFalsely : Prop := cornersCentreRow.holds Try.pinned (OpenSpec.ofChange cornersCentreWrong)

/-- 'knurllaw02.CornersMoments': WHATEVER THE INPUT: true; the input reads as it did. -/
def cornersMomentsSpec : ChangeSpec := { name := "cornersMoments", fn := fun _ => fun
  | [d] => { results := [.lit (.bool true)], args := [d] }
  | _ => none }
def cornersMomentsRow : OpenClaim := { program := "ytijpolfmiajenaa", sum := "e455b8be3b5d440065f8fb0707a51baa4302c309daa4907e638e8e54ac1999ef", func := "knurl/knurllaw02.CornersMoments", spec := "cornersMoments", unfollowed := true, recurses := true, plainKeys := false, apart := false }
def CornersMomentsSaid : Prop := cornersMomentsRow.holds Try.pinned (OpenSpec.ofChange cornersMomentsSpec)

/-- ITS FALSE NEIGHBOUR: 'it returns false'. Refute it at one input. -/
def cornersMomentsWrong : ChangeSpec := { name := "cornersMoments", fn := fun _ => fun
  | [d] => { results := [.lit (.bool false)], args := [d] }
  | _ => none }
def CornersMomentsWrongFalsely : Prop := cornersMomentsRow.holds Try.pinned (OpenSpec.ofChange cornersMomentsWrong)

/-- 'knurllaw02.CornersInHull': WHATEVER THE INPUT: true; the input reads as it did. -/
def cornersInHullSpec : ChangeSpec := { name := "cornersInHull", fn := fun _ => fun
  | [d] => { results := [.lit (.bool true)], args := [d] }
  | _ => none }
def cornersInHullRow : OpenClaim := { program := "ytijpolfmiajenaa", sum := "e455b8be3b5d440065f8fb0707a51baa4302c309daa4907e638e8e54ac1999ef", func := "knurl/knurllaw02.CornersInHull", spec := "cornersInHull", unfollowed := true, recurses := true, plainKeys := false, apart := false }
def CornersInHullSaid : Prop := cornersInHullRow.holds Try.pinned (OpenSpec.ofChange cornersInHullSpec)

/-- ITS FALSE NEIGHBOUR: 'it returns false'. Refute it at one input. -/
def cornersInHullWrong : ChangeSpec := { name := "cornersInHull", fn := fun _ => fun
  | [d] => { results := [.lit (.bool false)], args := [d] }
  | _ => none }
def CornersInHullWrongFalsely : Prop := cornersInHullRow.holds Try.pinned (OpenSpec.ofChange cornersInHullWrong)

/-- 'knurllaw02.CornersHull': WHATEVER THE INPUT: true; the input reads as it did. -/
def cornersHullSpec : ChangeSpec := { name := "cornersHull", fn := fun _ => fun
  | [d] => { results := [.lit (.bool true)], args := [d] }
  | _ => none }
def cornersHullRow : OpenClaim := { program := "ytijpolfmiajenaa", sum := "e455b8be3b5d440065f8fb0707a51baa4302c309daa4907e638e8e54ac1999ef", func := "knurl/knurllaw02.CornersHull", spec := "cornersHull", unfollowed := true, recurses := true, plainKeys := false, apart := false }
def CornersHullSaid : Prop := cornersHullRow.holds Try.pinned (OpenSpec.ofChange cornersHullSpec)

/-- ITS FALSE NEIGHBOUR: 'it returns false'. Refute it at one input. -/
def cornersHullWrong : ChangeSpec := { name := "cornersHull", fn := fun _ => fun
  | [d] => { results := [.lit (.bool false)], args := [d] }
  | _ => none }
def CornersHullWrongFalsely : Prop := cornersHullRow.holds Try.pinned (OpenSpec.ofChange cornersHullWrong)

/-- 'knurllaw02.CornersPieces': WHATEVER THE INPUT: true; the input reads as it did. -/
def cornersPiecesSpec : ChangeSpec := { name := "cornersPieces", fn := fun _ => fun
  | [d] => { results := [.lit (.bool true)], args := [d] }
  | _ => none }
def cornersPiecesRow : OpenClaim := { program := "ytijpolfmiajenaa", sum := "e455b8be3b5d440065f8fb0707a51baa4302c309daa4907e638e8e54ac1999ef", func := "knurl/knurllaw02.CornersPieces", spec := "cornersPieces", unfollowed := true, recurses := true, plainKeys := false, apart := false }
def CornersPiecesSaid : Prop := cornersPiecesRow.holds Try.pinned (OpenSpec.ofChange cornersPiecesSpec)

/-- ITS FALSE NEIGHBOUR: 'it returns false'. Refute it at one input. -/
def cornersPiecesWrong : ChangeSpec := { name := "cornersPieces", fn := fun _ => fun
  | [d] => { results := [.lit (.bool false)], args := [d] }
  | _ => none }
def CornersPiecesWrongFalsely : Prop := cornersPiecesRow.holds Try.pinned (OpenSpec.ofChange cornersPiecesWrong)

/- THE SECOND FORM. 'bulk': how many values and letters a reading holds, each counted each time it is reached (what is shared counts as often as it is met; a slice's spare places count too). A statement '..UptoSaid' is the law's where the arguments, and the package variables that the reading takes, are together of bulk at most 1048576: NARROWER than '..Said'. Prove '..Said' where nothing that the law and all that it calls make is longer than what came in: it says more and counts as full. Else prove '..UptoSaid'. A law counts once. -/
mutual
def uptoBulk {H : Type} : DataW H → Nat
  | .lit (.string bytes) => bytes.length + 1
  | .lit _ => 1
  | .nil => 1
  | .ptr d => uptoBulk d + 1
  | .slice elems spare => uptoBulkAll elems + uptoBulkAll spare + 1
  | .agg parts => uptoBulkAll parts + 1
  | .iface _ d => uptoBulk d + 1
  | .map entries => uptoBulkEntries entries + 1
  | .held _ => 1
def uptoBulkAll {H : Type} : List (DataW H) → Nat
  | [] => 0
  | d :: r => uptoBulk d + uptoBulkAll r
def uptoBulkEntries {H : Type} : List (Lit × DataW H) → Nat
  | [] => 0
  | x :: r => uptoBulkEntry x + uptoBulkEntries r
def uptoBulkEntry {H : Type} : Lit × DataW H → Nat
  | (.string bytes, d) => bytes.length + uptoBulk d + 1
  | (_, d) => uptoBulk d + 1
 end
def uptoSmall : (H : Type) → List (DataW H) → Bool := fun _ ds => decide (uptoBulkAll ds ≤ 1048576)
def OpenSpec.upto (s : _root_.Go.ChangeSpec) : _root_.Go.OpenSpec := { _root_.Go.OpenSpec.ofChange s with cond := some uptoSmall }

/-- 'knurllaw02.CornersPick', WHERE WHAT IT READS IS OF BULK AT MOST 1048576: true; the input reads as it did. -/
def cornersPickUptoRow : OpenClaim := { program := "ytijpolfmiajenaa", sum := "e455b8be3b5d440065f8fb0707a51baa4302c309daa4907e638e8e54ac1999ef", func := "knurl/knurllaw02.CornersPick", spec := "cornersPick", unfollowed := true, recurses := true, plainKeys := false, apart := false, narrowed := true }
def CornersPickUptoSaid : Prop := cornersPickUptoRow.holds Try.pinned (OpenSpec.upto cornersPickSpec)

/-- 'knurllaw02.CornersWhere', WHERE WHAT IT READS IS OF BULK AT MOST 1048576: true; the input reads as it did. -/
def cornersWhereUptoRow : OpenClaim := { program := "ytijpolfmiajenaa", sum := "e455b8be3b5d440065f8fb0707a51baa4302c309daa4907e638e8e54ac1999ef", func := "knurl/knurllaw02.CornersWhere", spec := "cornersWhere", unfollowed := true, recurses := true, plainKeys := false, apart := false, narrowed := true }
def CornersWhereUptoSaid : Prop := cornersWhereUptoRow.holds Try.pinned (OpenSpec.upto cornersWhereSpec)

/-- 'knurllaw02.CornersPoints', WHERE WHAT IT READS IS OF BULK AT MOST 1048576: true; the input reads as it did. -/
def cornersPointsUptoRow : OpenClaim := { program := "ytijpolfmiajenaa", sum := "e455b8be3b5d440065f8fb0707a51baa4302c309daa4907e638e8e54ac1999ef", func := "knurl/knurllaw02.CornersPoints", spec := "cornersPoints", unfollowed := true, recurses := true, plainKeys := false, apart := false, narrowed := true }
def CornersPointsUptoSaid : Prop := cornersPointsUptoRow.holds Try.pinned (OpenSpec.upto cornersPointsSpec)

/-- 'knurllaw02.CornersTurned', WHERE WHAT IT READS IS OF BULK AT MOST 1048576: true; the input reads as it did. -/
def cornersTurnedUptoRow : OpenClaim := { program := "ytijpolfmiajenaa", sum := "e455b8be3b5d440065f8fb0707a51baa4302c309daa4907e638e8e54ac1999ef", func := "knurl/knurllaw02.CornersTurned", spec := "cornersTurned", unfollowed := true, recurses := true, plainKeys := false, apart := false, narrowed := true }
def CornersTurnedUptoSaid : Prop := cornersTurnedUptoRow.holds Try.pinned (OpenSpec.upto cornersTurnedSpec)

/-- 'knurllaw02.CornersMoved', WHERE WHAT IT READS IS OF BULK AT MOST 1048576: true; the input reads as it did. -/
def cornersMovedUptoRow : OpenClaim := { program := "ytijpolfmiajenaa", sum := "e455b8be3b5d440065f8fb0707a51baa4302c309daa4907e638e8e54ac1999ef", func := "knurl/knurllaw02.CornersMoved", spec := "cornersMoved", unfollowed := true, recurses := true, plainKeys := false, apart := false, narrowed := true }
def CornersMovedUptoSaid : Prop := cornersMovedUptoRow.holds Try.pinned (OpenSpec.upto cornersMovedSpec)

/-- 'knurllaw02.CornersLarger', WHERE WHAT IT READS IS OF BULK AT MOST 1048576: true; the input reads as it did. -/
def cornersLargerUptoRow : OpenClaim := { program := "ytijpolfmiajenaa", sum := "e455b8be3b5d440065f8fb0707a51baa4302c309daa4907e638e8e54ac1999ef", func := "knurl/knurllaw02.CornersLarger", spec := "cornersLarger", unfollowed := true, recurses := true, plainKeys := false, apart := false, narrowed := true }
def CornersLargerUptoSaid : Prop := cornersLargerUptoRow.holds Try.pinned (OpenSpec.upto cornersLargerSpec)

/-- 'knurllaw02.CornersCentre', WHERE WHAT IT READS IS OF BULK AT MOST 1048576: true; the input reads as it did. -/
def cornersCentreUptoRow : OpenClaim := { program := "ytijpolfmiajenaa", sum := "e455b8be3b5d440065f8fb0707a51baa4302c309daa4907e638e8e54ac1999ef", func := "knurl/knurllaw02.CornersCentre", spec := "cornersCentre", unfollowed := true, recurses := true, plainKeys := false, apart := false, narrowed := true }
def CornersCentreUptoSaid : Prop := cornersCentreUptoRow.holds Try.pinned (OpenSpec.upto cornersCentreSpec)

/-- 'knurllaw02.CornersMoments', WHERE WHAT IT READS IS OF BULK AT MOST 1048576: true; the input reads as it did. -/
def cornersMomentsUptoRow : OpenClaim := { program := "ytijpolfmiajenaa", sum := "e455b8be3b5d440065f8fb0707a51baa4302c309daa4907e638e8e54ac1999ef", func := "knurl/knurllaw02.CornersMoments", spec := "cornersMoments", unfollowed := true, recurses := true, plainKeys := false, apart := false, narrowed := true }
def CornersMomentsUptoSaid : Prop := cornersMomentsUptoRow.holds Try.pinned (OpenSpec.upto cornersMomentsSpec)

/-- 'knurllaw02.CornersInHull', WHERE WHAT IT READS IS OF BULK AT MOST 1048576: true; the input reads as it did. -/
def cornersInHullUptoRow : OpenClaim := { program := "ytijpolfmiajenaa", sum := "e455b8be3b5d440065f8fb0707a51baa4302c309daa4907e638e8e54ac1999ef", func := "knurl/knurllaw02.CornersInHull", spec := "cornersInHull", unfollowed := true, recurses := true, plainKeys := false, apart := false, narrowed := true }
def CornersInHullUptoSaid : Prop := cornersInHullUptoRow.holds Try.pinned (OpenSpec.upto cornersInHullSpec)

/-- 'knurllaw02.CornersHull', WHERE WHAT IT READS IS OF BULK AT MOST 1048576: true; the input reads as it did. -/
def cornersHullUptoRow : OpenClaim := { program := "ytijpolfmiajenaa", sum := "e455b8be3b5d440065f8fb0707a51baa4302c309daa4907e638e8e54ac1999ef", func := "knurl/knurllaw02.CornersHull", spec := "cornersHull", unfollowed := true, recurses := true, plainKeys := false, apart := false, narrowed := true }
def CornersHullUptoSaid : Prop := cornersHullUptoRow.holds Try.pinned (OpenSpec.upto cornersHullSpec)

/-- 'knurllaw02.CornersPieces', WHERE WHAT IT READS IS OF BULK AT MOST 1048576: true; the input reads as it did. -/
def cornersPiecesUptoRow : OpenClaim := { program := "ytijpolfmiajenaa", sum := "e455b8be3b5d440065f8fb0707a51baa4302c309daa4907e638e8e54ac1999ef", func := "knurl/knurllaw02.CornersPieces", spec := "cornersPieces", unfollowed := true, recurses := true, plainKeys := false, apart := false, narrowed := true }
def CornersPiecesUptoSaid : Prop := cornersPiecesUptoRow.holds Try.pinned (OpenSpec.upto cornersPiecesSpec)

end Rows
end Go.Proofs.Ytijpolfmiajenaa
