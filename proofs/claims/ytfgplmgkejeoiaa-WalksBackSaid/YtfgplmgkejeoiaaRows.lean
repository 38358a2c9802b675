/-
  No cell of these rows narrows 'for every input' (looked for: loops, veiled, ifaces, maps, wideKeys, modest, calm, conditions, laid).
  DERIVED. THE GIVEN ROWS OF THIS SEAT. 10 by the template 'for every input the law returns true; each argument reads behind the call as it read before'; 0 by the template 'total and deterministic' (their statements: YtfgplmgkejeoiaaTotals.lean).
  GIVEN WITH THE SEED: the statements are not yours to turn. If you find one false, say at which input.
  Laid BY PROGRAM, IN A SANDBOX (cutbox-rows.mjs): the forced cells as the released guide's own fill.sh prints them over the translation 9c03d614cee0fbdb… (all of the seat's roots in one cut). By AI agents, Wed Nov 11 2026. No macro, syntax, notation, axiom, sorry.
-/
import Derived.Test.YtfgplmgkejeoiaaChecked
import GoSem.Claim
import GoSem.ClaimJoined
import GoSem.ClaimMapViews
import Derived.JoinedTies
import Derived.KernelRfl
namespace Go.Proofs.Ytfgplmgkejeoiaa
/- THE CELL 'sum', in the pinned program and in every row, IS THE sha256 OF THE DUMP (.gsa) THAT YtfgplmgkejeoiaaProg.lean LOADS. Nothing in Lean hashes anything: it is a label: what it is worth is what the hold of that sum in a sandbox is worth. -/
noncomputable def Try.pinned : Pinned := { name := "ytfgplmgkejeoiaa", sum := "9c03d614cee0fbdbb1b7f1dd07029180c108aed002b148ef7faaaecb8060ab85", checked := Try.checked }
namespace Rows
def none {H : Type} : Left H := { results := [], args := [] }

/-- 'knurllaw05.WalksCut': WHATEVER THE INPUT: true; the input reads as it did. -/
def walksCutSpec : ChangeSpec := { name := "walksCut", fn := fun _ => fun
  | [d1, d2] => { results := [.lit (.bool true)], args := [d1, d2] }
  | _ => none }
def walksCutRow : OpenClaim := { program := "ytfgplmgkejeoiaa", sum := "9c03d614cee0fbdbb1b7f1dd07029180c108aed002b148ef7faaaecb8060ab85", func := "knurl/knurllaw05.WalksCut", spec := "walksCut", unfollowed := true, recurses := true, plainKeys := false, apart := false }
def WalksCutSaid : Prop := walksCutRow.holds Try.pinned (OpenSpec.ofChange walksCutSpec)

/-- ITS FALSE NEIGHBOUR: 'it returns false'. Refute it at one input. -/
def walksCutWrong : ChangeSpec := { name := "walksCut", fn := fun _ => fun
  | [d1, d2] => { results := [.lit (.bool false)], args := [d1, d2] }
  | _ => none }
def WalksCutWrongFalsely : Prop := walksCutRow.holds Try.pinned (OpenSpec.ofChange walksCutWrong)

/-- 'knurllaw05.WalksSweep': WHATEVER THE INPUT: true; the input reads as it did. -/
def walksSweepSpec : ChangeSpec := { name := "walksSweep", fn := fun _ => fun
  | [d1, d2, d3] => { results := [.lit (.bool true)], args := [d1, d2, d3] }
  | _ => none }
def walksSweepRow : OpenClaim := { program := "ytfgplmgkejeoiaa", sum := "9c03d614cee0fbdbb1b7f1dd07029180c108aed002b148ef7faaaecb8060ab85", func := "knurl/knurllaw05.WalksSweep", spec := "walksSweep", unfollowed := true, recurses := true, plainKeys := false, apart := false }
def WalksSweepSaid : Prop := walksSweepRow.holds Try.pinned (OpenSpec.ofChange walksSweepSpec)

/-- ITS FALSE NEIGHBOUR: 'it returns false'. Refute it at one input. -/
def walksSweepWrong : ChangeSpec := { name := "walksSweep", fn := fun _ => fun
  | [d1, d2, d3] => { results := [.lit (.bool false)], args := [d1, d2, d3] }
  | _ => none }
def WalksSweepWrongFalsely : Prop := walksSweepRow.holds Try.pinned (OpenSpec.ofChange walksSweepWrong)

/-- 'knurllaw05.WalksArea': WHATEVER THE INPUT: true; the input reads as it did. -/
def walksAreaSpec : ChangeSpec := { name := "walksArea", fn := fun _ => fun
  | [d1, d2, d3] => { results := [.lit (.bool true)], args := [d1, d2, d3] }
  | _ => none }
def walksAreaRow : OpenClaim := { program := "ytfgplmgkejeoiaa", sum := "9c03d614cee0fbdbb1b7f1dd07029180c108aed002b148ef7faaaecb8060ab85", func := "knurl/knurllaw05.WalksArea", spec := "walksArea", unfollowed := true, recurses := true, plainKeys := false, apart := false }
def WalksAreaSaid : Prop := walksAreaRow.holds Try.pinned (OpenSpec.ofChange walksAreaSpec)

/-- ITS FALSE NEIGHBOUR: 'it returns false'. Refute it at one input. -/
def walksAreaWrong : ChangeSpec := { name := "walksArea", fn := fun _ => fun
  | [d1, d2, d3] => { results := [.lit (.bool false)], args := [d1, d2, d3] }
  | _ => none }
def WalksAreaWrongFalsely : Prop := walksAreaRow.holds Try.pinned (OpenSpec.ofChange walksAreaWrong)

/-- 'knurllaw05.WalksPolygon': WHATEVER THE INPUT: true; the input reads as it did. -/
def walksPolygonSpec : ChangeSpec := { name := "walksPolygon", fn := fun _ => fun
  | [d] => { results := [.lit (.bool true)], args := [d] }
  | _ => none }
def walksPolygonRow : OpenClaim := { program := "ytfgplmgkejeoiaa", sum := "9c03d614cee0fbdbb1b7f1dd07029180c108aed002b148ef7faaaecb8060ab85", func := "knurl/knurllaw05.WalksPolygon", spec := "walksPolygon", unfollowed := true, recurses := true, plainKeys := false, apart := false }
def WalksPolygonSaid : Prop := walksPolygonRow.holds Try.pinned (OpenSpec.ofChange walksPolygonSpec)

/-- ITS FALSE NEIGHBOUR: 'it returns false'. Refute it at one input. -/
def walksPolygonWrong : ChangeSpec := { name := "walksPolygon", fn := fun _ => fun
  | [d] => { results := [.lit (.bool false)], args := [d] }
  | _ => none }
def WalksPolygonWrongFalsely : Prop := walksPolygonRow.holds Try.pinned (OpenSpec.ofChange walksPolygonWrong)

/-- 'knurllaw05.WalksElbows': WHATEVER THE INPUT: true; the input reads as it did. -/
def walksElbowsSpec : ChangeSpec := { name := "walksElbows", fn := fun _ => fun
  | [d1, d2] => { results := [.lit (.bool true)], args := [d1, d2] }
  | _ => none }
def walksElbowsRow : OpenClaim := { program := "ytfgplmgkejeoiaa", sum := "9c03d614cee0fbdbb1b7f1dd07029180c108aed002b148ef7faaaecb8060ab85", func := "knurl/knurllaw05.WalksElbows", spec := "walksElbows", unfollowed := true, recurses := true, plainKeys := false, apart := false }
def WalksElbowsSaid : Prop := walksElbowsRow.holds Try.pinned (OpenSpec.ofChange walksElbowsSpec)

/-- ITS FALSE NEIGHBOUR: 'it returns false'. Refute it at one input. -/
def walksElbowsWrong : ChangeSpec := { name := "walksElbows", fn := fun _ => fun
  | [d1, d2] => { results := [.lit (.bool false)], args := [d1, d2] }
  | _ => none }
def WalksElbowsWrongFalsely : Prop := walksElbowsRow.holds Try.pinned (OpenSpec.ofChange walksElbowsWrong)

/-- 'knurllaw05.WalksFew': WHATEVER THE INPUT: true; the input reads as it did. -/
def walksFewSpec : ChangeSpec := { name := "walksFew", fn := fun _ => fun
  | [d1, d2, d3] => { results := [.lit (.bool true)], args := [d1, d2, d3] }
  | _ => none }
def walksFewRow : OpenClaim := { program := "ytfgplmgkejeoiaa", sum := "9c03d614cee0fbdbb1b7f1dd07029180c108aed002b148ef7faaaecb8060ab85", func := "knurl/knurllaw05.WalksFew", spec := "walksFew", unfollowed := true, recurses := true, plainKeys := false, apart := false }
def WalksFewSaid : Prop := walksFewRow.holds Try.pinned (OpenSpec.ofChange walksFewSpec)

/-- ITS FALSE NEIGHBOUR: 'it returns false'. Refute it at one input. -/
def walksFewWrong : ChangeSpec := { name := "walksFew", fn := fun _ => fun
  | [d1, d2, d3] => { results := [.lit (.bool false)], args := [d1, d2, d3] }
  | _ => none }
def WalksFewWrongFalsely : Prop := walksFewRow.holds Try.pinned (OpenSpec.ofChange walksFewWrong)

/-- 'knurllaw05.WalksMoved': WHATEVER THE INPUT: true; the input reads as it did. -/
def walksMovedSpec : ChangeSpec := { name := "walksMoved", fn := fun _ => fun
  | [d1, d2, d3] => { results := [.lit (.bool true)], args := [d1, d2, d3] }
  | _ => none }
def walksMovedRow : OpenClaim := { program := "ytfgplmgkejeoiaa", sum := "9c03d614cee0fbdbb1b7f1dd07029180c108aed002b148ef7faaaecb8060ab85", func := "knurl/knurllaw05.WalksMoved", spec := "walksMoved", unfollowed := true, recurses := true, plainKeys := false, apart := false }
def WalksMovedSaid : Prop := walksMovedRow.holds Try.pinned (OpenSpec.ofChange walksMovedSpec)

/-- ITS FALSE NEIGHBOUR: 'it returns false'. Refute it at one input. -/
def walksMovedWrong : ChangeSpec := { name := "walksMoved", fn := fun _ => fun
  | [d1, d2, d3] => { results := [.lit (.bool false)], args := [d1, d2, d3] }
  | _ => none }
def WalksMovedWrongFalsely : Prop := walksMovedRow.holds Try.pinned (OpenSpec.ofChange walksMovedWrong)

/-- 'knurllaw05.WalksMore': WHATEVER THE INPUT: true; the input reads as it did. -/
def walksMoreSpec : ChangeSpec := { name := "walksMore", fn := fun _ => fun
  | [d1, d2, d3] => { results := [.lit (.bool true)], args := [d1, d2, d3] }
  | _ => none }
def walksMoreRow : OpenClaim := { program := "ytfgplmgkejeoiaa", sum := "9c03d614cee0fbdbb1b7f1dd07029180c108aed002b148ef7faaaecb8060ab85", func := "knurl/knurllaw05.WalksMore", spec := "walksMore", unfollowed := true, recurses := true, plainKeys := false, apart := false }
def WalksMoreSaid : Prop := walksMoreRow.holds Try.pinned (OpenSpec.ofChange walksMoreSpec)

/-- ITS FALSE NEIGHBOUR: 'it returns false'. Refute it at one input. -/
def walksMoreWrong : ChangeSpec := { name := "walksMore", fn := fun _ => fun
  | [d1, d2, d3] => { results := [.lit (.bool false)], args := [d1, d2, d3] }
  | _ => none }
def WalksMoreWrongFalsely : Prop := walksMoreRow.holds Try.pinned (OpenSpec.ofChange walksMoreWrong)

/-- 'knurllaw05.WalksMeter': WHATEVER THE INPUT: true; the input reads as it did. -/
def walksMeterSpec : ChangeSpec := { name := "walksMeter", fn := fun _ => fun
  | [d1, d2, d3] => { results := [.lit (.bool true)], args := [d1, d2, d3] }
  | _ => none }
def walksMeterRow : OpenClaim := { program := "ytfgplmgkejeoiaa", sum := "9c03d614cee0fbdbb1b7f1dd07029180c108aed002b148ef7faaaecb8060ab85", func := "knurl/knurllaw05.WalksMeter", spec := "walksMeter", unfollowed := true, recurses := true, plainKeys := false, apart := false }
def WalksMeterSaid : Prop := walksMeterRow.holds Try.pinned (OpenSpec.ofChange walksMeterSpec)

/-- ITS FALSE NEIGHBOUR: 'it returns false'. Refute it at one input. -/
def walksMeterWrong : ChangeSpec := { name := "walksMeter", fn := fun _ => fun
  | [d1, d2, d3] => { results := [.lit (.bool false)], args := [d1, d2, d3] }
  | _ => none }
def WalksMeterWrongFalsely : Prop := walksMeterRow.holds Try.pinned (OpenSpec.ofChange walksMeterWrong)

/-- 'knurllaw05.WalksBack': WHATEVER THE INPUT: true; the input reads as it did. -/
def walksBackSpec : ChangeSpec := { name := "walksBack", fn := fun _ => fun
  | [d1, d2, d3] => { results := [.lit (.bool true)], args := [d1, d2, d3] }
  | _ => none }
def walksBackRow : OpenClaim := { program := "ytfgplmgkejeoiaa", sum := "9c03d614cee0fbdbb1b7f1dd07029180c108aed002b148ef7faaaecb8060ab85", func := "knurl/knurllaw05.WalksBack", spec := "walksBack", unfollowed := true, recurses := true, plainKeys := false, apart := false }
def WalksBackSaid : Prop := walksBackRow.holds Try.pinned (OpenSpec.ofChange walksBackSpec)

/-- ITS FALSE NEIGHBOUR: 'it returns false'. Refute it at one input. -/
def walksBackWrong : ChangeSpec := { name := "walksBack", fn := fun _ => fun
  | [d1, d2, d3] => { results := [.lit (.bool false)], args := [d1, d2, d3] }
  | _ => none }
def WalksBackWrongFalsely : Prop := walksBackRow.holds Try.pinned (OpenSpec.ofChange walksBackWrong)

/- THE SECOND FORM. 'bulk': how many values and letters a reading holds, each counted each time it is reached (what is shared counts as often as it is met; a slice's spare places count too). A statement '..UptoSaid' is the law's where the arguments, and the package variables that the reading takes, are together of bulk at most 1048576: NARROWER than '..Said'. Prove '..Said' where nothing that the law and all that it calls make is longer than what came in: it says more and counts as full. Else prove '..UptoSaid'. A law counts once. -/
mutual
def uptoBulk {H : Type} : DataW H → Nat
  | .lit (.string bytes) => bytes.length + 1
  | .lit _ => 1
  | .nil => 1
  | .ptr d => uptoBulk d + 1
  | .slice elems spare => uptoBulkAll elems + uptoBulkAll spare + 1
  | .agg parts => uptoBulkAll parts + 1
  | .iface _ d => uptoBulk d + 1
  | .map entries => uptoBulkEntries entries + 1
  | .held _ => 1
def uptoBulkAll {H : Type} : List (DataW H) → Nat
  | [] => 0
  | d :: r => uptoBulk d + uptoBulkAll r
def uptoBulkEntries {H : Type} : List (Lit × DataW H) → Nat
  | [] => 0
  | x :: r => uptoBulkEntry x + uptoBulkEntries r
def uptoBulkEntry {H : Type} : Lit × DataW H → Nat
  | (.string bytes, d) => bytes.length + uptoBulk d + 1
  | (_, d) => uptoBulk d + 1
 end
def uptoSmall : (H : Type) → List (DataW H) → Bool := fun _ ds => decide (uptoBulkAll ds ≤ 1048576)
def OpenSpec.upto (s : _root_.Go.ChangeSpec) : _root_.Go.OpenSpec := { _root_.Go.OpenSpec.ofChange s with cond := some uptoSmall }

/-- 'knurllaw05.WalksCut', WHERE WHAT IT READS IS OF BULK AT MOST 1048576: true; the input reads as it did. -/
def walksCutUptoRow : OpenClaim := { program := "ytfgplmgkejeoiaa", sum := "9c03d614cee0fbdbb1b7f1dd07029180c108aed002b148ef7faaaecb8060ab85", func := "knurl/knurllaw05.WalksCut", spec := "walksCut", unfollowed := true, recurses := true, plainKeys := false, apart := false, narrowed := true }
def WalksCutUptoSaid : Prop := walksCutUptoRow.holds Try.pinned (OpenSpec.upto walksCutSpec)

/-- 'knurllaw05.WalksSweep', WHERE WHAT IT READS IS OF BULK AT MOST 1048576: true; the input reads as it did. -/
def walksSweepUptoRow : OpenClaim := { program := "ytfgplmgkejeoiaa", sum := "9c03d614cee0fbdbb1b7f1dd07029180c108aed002b148ef7faaaecb8060ab85", func := "knurl/knurllaw05.WalksSweep", spec := "walksSweep", unfollowed := true, recurses := true, plainKeys := false, apart := false, narrowed := true }
def WalksSweepUptoSaid : Prop := walksSweepUptoRow.holds Try.pinned (OpenSpec.upto walksSweepSpec)

/-- 'knurllaw05.WalksArea', WHERE WHAT IT READS IS OF BULK AT MOST 1048576: true; the input reads as it did. -/
def walksAreaUptoRow : OpenClaim := { program := "ytfgplmgkejeoiaa", sum := "9c03d614cee0fbdbb1b7f1dd07029180c108aed002b148ef7faaaecb8060ab85", func := "knurl/knurllaw05.WalksArea", spec := "walksArea", unfollowed := true, recurses := true, plainKeys := false, apart := false, narrowed := true }
def WalksAreaUptoSaid : Prop := walksAreaUptoRow.holds Try.pinned (OpenSpec.upto walksAreaSpec)

/-- 'knurllaw05.WalksPolygon', WHERE WHAT IT READS IS OF BULK AT MOST 1048576: true; the input reads as it did. -/
def walksPolygonUptoRow : OpenClaim := { program := "ytfgplmgkejeoiaa", sum := "9c03d614cee0fbdbb1b7f1dd07029180c108aed002b148ef7faaaecb8060ab85", func := "knurl/knurllaw05.WalksPolygon", spec := "walksPolygon", unfollowed := true, recurses := true, plainKeys := false, apart := false, narrowed := true }
def WalksPolygonUptoSaid : Prop := walksPolygonUptoRow.holds Try.pinned (OpenSpec.upto walksPolygonSpec)

/-- 'knurllaw05.WalksElbows', WHERE WHAT IT READS IS OF BULK AT MOST 1048576: true; the input reads as it did. -/
def walksElbowsUptoRow : OpenClaim := { program := "ytfgplmgkejeoiaa", sum := "9c03d614cee0fbdbb1b7f1dd07029180c108aed002b148ef7faaaecb8060ab85", func := "knurl/knurllaw05.WalksElbows", spec := "walksElbows", unfollowed := true, recurses := true, plainKeys := false, apart := false, narrowed := true }
def WalksElbowsUptoSaid : Prop := walksElbowsUptoRow.holds Try.pinned (OpenSpec.upto walksElbowsSpec)

/-- 'knurllaw05.WalksFew', WHERE WHAT IT READS IS OF BULK AT MOST 1048576: true; the input reads as it did. -/
def walksFewUptoRow : OpenClaim := { program := "ytfgplmgkejeoiaa", sum := "9c03d614cee0fbdbb1b7f1dd07029180c108aed002b148ef7faaaecb8060ab85", func := "knurl/knurllaw05.WalksFew", spec := "walksFew", unfollowed := true, recurses := true, plainKeys := false, apart := false, narrowed := true }
def WalksFewUptoSaid : Prop := walksFewUptoRow.holds Try.pinned (OpenSpec.upto walksFewSpec)

/-- 'knurllaw05.WalksMoved', WHERE WHAT IT READS IS OF BULK AT MOST 1048576: true; the input reads as it did. -/
def walksMovedUptoRow : OpenClaim := { program := "ytfgplmgkejeoiaa", sum := "9c03d614cee0fbdbb1b7f1dd07029180c108aed002b148ef7faaaecb8060ab85", func := "knurl/knurllaw05.WalksMoved", spec := "walksMoved", unfollowed := true, recurses := true, plainKeys := false, apart := false, narrowed := true }
def WalksMovedUptoSaid : Prop := walksMovedUptoRow.holds Try.pinned (OpenSpec.upto walksMovedSpec)

/-- 'knurllaw05.WalksMore', WHERE WHAT IT READS IS OF BULK AT MOST 1048576: true; the input reads as it did. -/
def walksMoreUptoRow : OpenClaim := { program := "ytfgplmgkejeoiaa", sum := "9c03d614cee0fbdbb1b7f1dd07029180c108aed002b148ef7faaaecb8060ab85", func := "knurl/knurllaw05.WalksMore", spec := "walksMore", unfollowed := true, recurses := true, plainKeys := false, apart := false, narrowed := true }
def WalksMoreUptoSaid : Prop := walksMoreUptoRow.holds Try.pinned (OpenSpec.upto walksMoreSpec)

/-- 'knurllaw05.WalksMeter', WHERE WHAT IT READS IS OF BULK AT MOST 1048576: true; the input reads as it did. -/
def walksMeterUptoRow : OpenClaim := { program := "ytfgplmgkejeoiaa", sum := "9c03d614cee0fbdbb1b7f1dd07029180c108aed002b148ef7faaaecb8060ab85", func := "knurl/knurllaw05.WalksMeter", spec := "walksMeter", unfollowed := true, recurses := true, plainKeys := false, apart := false, narrowed := true }
def WalksMeterUptoSaid : Prop := walksMeterUptoRow.holds Try.pinned (OpenSpec.upto walksMeterSpec)

/-- 'knurllaw05.WalksBack', WHERE WHAT IT READS IS OF BULK AT MOST 1048576: true; the input reads as it did. -/
def walksBackUptoRow : OpenClaim := { program := "ytfgplmgkejeoiaa", sum := "9c03d614cee0fbdbb1b7f1dd07029180c108aed002b148ef7faaaecb8060ab85", func := "knurl/knurllaw05.WalksBack", spec := "walksBack", unfollowed := true, recurses := true, plainKeys := false, apart := false, narrowed := true }
def WalksBackUptoSaid : Prop := walksBackUptoRow.holds Try.pinned (OpenSpec.upto walksBackSpec)

end Rows
end Go.Proofs.Ytfgplmgkejeoiaa
