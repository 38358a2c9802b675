/-
  No cell of these rows narrows 'for every input' (looked for: loops, veiled, ifaces, maps, wideKeys, modest, calm, conditions, laid).
  DERIVED. THE GIVEN ROWS OF THIS SEAT. 8 by the template 'for every input the law returns true; each argument reads behind the call as it read before'; 0 by the template 'total and deterministic' (their statements: YtegdnbceiopklaaTotals.lean).
  GIVEN WITH THE SEED: the statements are not yours to turn. If you find one false, say at which input.
  Laid BY PROGRAM, IN A SANDBOX (cutbox-rows.mjs): the forced cells as the released guide's own fill.sh prints them over the translation e43eee3b690eb408… (all of the seat's roots in one cut). By AI agents, Wed Nov 11 2026. No macro, syntax, notation, axiom, sorry.
-/
import Derived.Test.YtegdnbceiopklaaChecked
import GoSem.Claim
import GoSem.ClaimJoined
import GoSem.ClaimMapViews
import Derived.JoinedTies
import Derived.KernelRfl
namespace Go.Proofs.Ytegdnbceiopklaa
/- THE CELL 'sum', in the pinned program and in every row, IS THE sha256 OF THE DUMP (.gsa) THAT YtegdnbceiopklaaProg.lean LOADS. Nothing in Lean hashes anything: it is a label: what it is worth is what the hold of that sum in a sandbox is worth. -/
noncomputable def Try.pinned : Pinned := { name := "ytegdnbceiopklaa", sum := "e43eee3b690eb408c517b5df63399cabcf5852afb53d03eda6374fd53f3eb9af", checked := Try.checked }
namespace Rows
def none {H : Type} : Left H := { results := [], args := [] }

/-- 'knurllaw04.SheetsAgrees': WHATEVER THE INPUT: true; the input reads as it did. -/
def sheetsAgreesSpec : ChangeSpec := { name := "sheetsAgrees", fn := fun _ => fun
  | [d1, d2, d3] => { results := [.lit (.bool true)], args := [d1, d2, d3] }
  | _ => none }
def sheetsAgreesRow : OpenClaim := { program := "ytegdnbceiopklaa", sum := "e43eee3b690eb408c517b5df63399cabcf5852afb53d03eda6374fd53f3eb9af", func := "knurl/knurllaw04.SheetsAgrees", spec := "sheetsAgrees", unfollowed := true, recurses := true, plainKeys := false, apart := false }
def SheetsAgreesSaid : Prop := sheetsAgreesRow.holds Try.pinned (OpenSpec.ofChange sheetsAgreesSpec)

/-- ITS FALSE NEIGHBOUR: 'it returns false'. Refute it at one input. -/
def sheetsAgreesWrong : ChangeSpec := { name := "sheetsAgrees", fn := fun _ => fun
  | [d1, d2, d3] => { results := [.lit (.bool false)], args := [d1, d2, d3] }
  | _ => none }
def SheetsAgreesWrongFalsely : Prop := sheetsAgreesRow.holds Try.pinned (OpenSpec.ofChange sheetsAgreesWrong)

/-- 'knurllaw04.SheetsOne': WHATEVER THE INPUT: true; the input reads as it did. -/
def sheetsOneSpec : ChangeSpec := { name := "sheetsOne", fn := fun _ => fun
  | [d1, d2, d3] => { results := [.lit (.bool true)], args := [d1, d2, d3] }
  | _ => none }
def sheetsOneRow : OpenClaim := { program := "ytegdnbceiopklaa", sum := "e43eee3b690eb408c517b5df63399cabcf5852afb53d03eda6374fd53f3eb9af", func := "knurl/knurllaw04.SheetsOne", spec := "sheetsOne", unfollowed := true, recurses := true, plainKeys := false, apart := false }
def SheetsOneSaid : Prop := sheetsOneRow.holds Try.pinned (OpenSpec.ofChange sheetsOneSpec)

/-- ITS FALSE NEIGHBOUR: 'it returns false'. Refute it at one input. -/
def sheetsOneWrong : ChangeSpec := { name := "sheetsOne", fn := fun _ => fun
  | [d1, d2, d3] => { results := [.lit (.bool false)], args := [d1, d2, d3] }
  | _ => none }
def SheetsOneWrongFalsely : Prop := sheetsOneRow.holds Try.pinned (OpenSpec.ofChange sheetsOneWrong)

/-- 'knurllaw04.SheetsFactors': WHATEVER THE INPUT: true; the input reads as it did. -/
def sheetsFactorsSpec : ChangeSpec := { name := "sheetsFactors", fn := fun _ => fun
  | [d1, d2] => { results := [.lit (.bool true)], args := [d1, d2] }
  | _ => none }
def sheetsFactorsRow : OpenClaim := { program := "ytegdnbceiopklaa", sum := "e43eee3b690eb408c517b5df63399cabcf5852afb53d03eda6374fd53f3eb9af", func := "knurl/knurllaw04.SheetsFactors", spec := "sheetsFactors", unfollowed := true, recurses := true, plainKeys := false, apart := false }
def SheetsFactorsSaid : Prop := sheetsFactorsRow.holds Try.pinned (OpenSpec.ofChange sheetsFactorsSpec)

/-- ITS FALSE NEIGHBOUR: 'it returns false'. Refute it at one input. -/
def sheetsFactorsWrong : ChangeSpec := { name := "sheetsFactors", fn := fun _ => fun
  | [d1, d2] => { results := [.lit (.bool false)], args := [d1, d2] }
  | _ => none }
def SheetsFactorsWrongFalsely : Prop := sheetsFactorsRow.holds Try.pinned (OpenSpec.ofChange sheetsFactorsWrong)

/-- 'knurllaw04.SheetsPlain': WHATEVER THE INPUT: true; the input reads as it did. -/
def sheetsPlainSpec : ChangeSpec := { name := "sheetsPlain", fn := fun _ => fun
  | [d1, d2, d3] => { results := [.lit (.bool true)], args := [d1, d2, d3] }
  | _ => none }
def sheetsPlainRow : OpenClaim := { program := "ytegdnbceiopklaa", sum := "e43eee3b690eb408c517b5df63399cabcf5852afb53d03eda6374fd53f3eb9af", func := "knurl/knurllaw04.SheetsPlain", spec := "sheetsPlain", unfollowed := true, recurses := true, plainKeys := false, apart := false }
def SheetsPlainSaid : Prop := sheetsPlainRow.holds Try.pinned (OpenSpec.ofChange sheetsPlainSpec)

/-- ITS FALSE NEIGHBOUR: 'it returns false'. Refute it at one input. -/
def sheetsPlainWrong : ChangeSpec := { name := "sheetsPlain", fn := fun _ => fun
  | [d1, d2, d3] => { results := [.lit (.bool false)], args := [d1, d2, d3] }
  | _ => none }
def SheetsPlainWrongFalsely : Prop := sheetsPlainRow.holds Try.pinned (OpenSpec.ofChange sheetsPlainWrong)

/-- 'knurllaw04.SheetsMore': WHATEVER THE INPUT: true; the input reads as it did. -/
def sheetsMoreSpec : ChangeSpec := { name := "sheetsMore", fn := fun _ => fun
  | [d1, d2, d3] => { results := [.lit (.bool true)], args := [d1, d2, d3] }
  | _ => none }
def sheetsMoreRow : OpenClaim := { program := "ytegdnbceiopklaa", sum := "e43eee3b690eb408c517b5df63399cabcf5852afb53d03eda6374fd53f3eb9af", func := "knurl/knurllaw04.SheetsMore", spec := "sheetsMore", unfollowed := true, recurses := true, plainKeys := false, apart := false }
def SheetsMoreSaid : Prop := sheetsMoreRow.holds Try.pinned (OpenSpec.ofChange sheetsMoreSpec)

/-- ITS FALSE NEIGHBOUR: 'it returns false'. Refute it at one input. -/
def sheetsMoreWrong : ChangeSpec := { name := "sheetsMore", fn := fun _ => fun
  | [d1, d2, d3] => { results := [.lit (.bool false)], args := [d1, d2, d3] }
  | _ => none }
def SheetsMoreWrongFalsely : Prop := sheetsMoreRow.holds Try.pinned (OpenSpec.ofChange sheetsMoreWrong)

/-- 'knurllaw04.SheetsStrange': WHATEVER THE INPUT: true; the input reads as it did. -/
def sheetsStrangeSpec : ChangeSpec := { name := "sheetsStrange", fn := fun _ => fun
  | [d] => { results := [.lit (.bool true)], args := [d] }
  | _ => none }
def sheetsStrangeRow : OpenClaim := { program := "ytegdnbceiopklaa", sum := "e43eee3b690eb408c517b5df63399cabcf5852afb53d03eda6374fd53f3eb9af", func := "knurl/knurllaw04.SheetsStrange", spec := "sheetsStrange", unfollowed := true, recurses := true, plainKeys := false, apart := false }
def SheetsStrangeSaid : Prop := sheetsStrangeRow.holds Try.pinned (OpenSpec.ofChange sheetsStrangeSpec)

/-- ITS FALSE NEIGHBOUR: 'it returns false'. Refute it at one input. -/
def sheetsStrangeWrong : ChangeSpec := { name := "sheetsStrange", fn := fun _ => fun
  | [d] => { results := [.lit (.bool false)], args := [d] }
  | _ => none }
def SheetsStrangeWrongFalsely : Prop := sheetsStrangeRow.holds Try.pinned (OpenSpec.ofChange sheetsStrangeWrong)

/-- 'knurllaw04.SheetsTurned': WHATEVER THE INPUT: true; the input reads as it did. -/
def sheetsTurnedSpec : ChangeSpec := { name := "sheetsTurned", fn := fun _ => fun
  | [d1, d2, d3] => { results := [.lit (.bool true)], args := [d1, d2, d3] }
  | _ => none }
def sheetsTurnedRow : OpenClaim := { program := "ytegdnbceiopklaa", sum := "e43eee3b690eb408c517b5df63399cabcf5852afb53d03eda6374fd53f3eb9af", func := "knurl/knurllaw04.SheetsTurned", spec := "sheetsTurned", unfollowed := true, recurses := true, plainKeys := false, apart := false }
def SheetsTurnedSaid : Prop := sheetsTurnedRow.holds Try.pinned (OpenSpec.ofChange sheetsTurnedSpec)

/-- ITS FALSE NEIGHBOUR: 'it returns false'. Refute it at one input. -/
def sheetsTurnedWrong : ChangeSpec := { name := "sheetsTurned", fn := fun _ => fun
  | [d1, d2, d3] => { results := [.lit (.bool false)], args := [d1, d2, d3] }
  | _ => none }
def SheetsTurnedWrongFalsely : Prop := sheetsTurnedRow.holds Try.pinned (OpenSpec.ofChange sheetsTurnedWrong)

/-- 'knurllaw04.SheetsPieces': WHATEVER THE INPUT: true; the input reads as it did. -/
def sheetsPiecesSpec : ChangeSpec := { name := "sheetsPieces", fn := fun _ => fun
  | [d1, d2] => { results := [.lit (.bool true)], args := [d1, d2] }
  | _ => none }
def sheetsPiecesRow : OpenClaim := { program := "ytegdnbceiopklaa", sum := "e43eee3b690eb408c517b5df63399cabcf5852afb53d03eda6374fd53f3eb9af", func := "knurl/knurllaw04.SheetsPieces", spec := "sheetsPieces", unfollowed := true, recurses := true, plainKeys := false, apart := false }
def SheetsPiecesSaid : Prop := sheetsPiecesRow.holds Try.pinned (OpenSpec.ofChange sheetsPiecesSpec)

/-- ITS FALSE NEIGHBOUR: 'it returns false'. Refute it at one input. -/
def sheetsPiecesWrong : ChangeSpec := { name := "sheetsPieces", fn := fun _ => fun
  | [d1, d2] => { results := [.lit (.bool false)], args := [d1, d2] }
  | _ => none }
def SheetsPiecesWrongFalsely : Prop := sheetsPiecesRow.holds Try.pinned (OpenSpec.ofChange sheetsPiecesWrong)

/- THE SECOND FORM. 'bulk': how many values and letters a reading holds, each counted each time it is reached (what is shared counts as often as it is met; a slice's spare places count too). A statement '..UptoSaid' is the law's where the arguments, and the package variables that the reading takes, are together of bulk at most 1048576: NARROWER than '..Said'. Prove '..Said' where nothing that the law and all that it calls make is longer than what came in: it says more and counts as full. Else prove '..UptoSaid'. A law counts once. -/
mutual
def uptoBulk {H : Type} : DataW H → Nat
  | .lit (.string bytes) => bytes.length + 1
  | .lit _ => 1
  | .nil => 1
  | .ptr d => uptoBulk d + 1
  | .slice elems spare => uptoBulkAll elems + uptoBulkAll spare + 1
  | .agg parts => uptoBulkAll parts + 1
  | .iface _ d => uptoBulk d + 1
  | .map entries => uptoBulkEntries entries + 1
  | .held _ => 1
def uptoBulkAll {H : Type} : List (DataW H) → Nat
  | [] => 0
  | d :: r => uptoBulk d + uptoBulkAll r
def uptoBulkEntries {H : Type} : List (Lit × DataW H) → Nat
  | [] => 0
  | x :: r => uptoBulkEntry x + uptoBulkEntries r
def uptoBulkEntry {H : Type} : Lit × DataW H → Nat
  | (.string bytes, d) => bytes.length + uptoBulk d + 1
  | (_, d) => uptoBulk d + 1
 end
def uptoSmall : (H : Type) → List (DataW H) → Bool := fun _ ds => decide (uptoBulkAll ds ≤ 1048576)
def OpenSpec.upto (s : _root_.Go.ChangeSpec) : _root_.Go.OpenSpec := { _root_.Go.OpenSpec.ofChange s with cond := some uptoSmall }

/-- 'knurllaw04.SheetsAgrees', WHERE WHAT IT READS IS OF BULK AT MOST 1048576: true; the input reads as it did. -/
def sheetsAgreesUptoRow : OpenClaim := { program := "ytegdnbceiopklaa", sum := "e43eee3b690eb408c517b5df63399cabcf5852afb53d03eda6374fd53f3eb9af", func := "knurl/knurllaw04.SheetsAgrees", spec := "sheetsAgrees", unfollowed := true, recurses := true, plainKeys := false, apart := false, narrowed := true }
def SheetsAgreesUptoSaid : Prop := sheetsAgreesUptoRow.holds Try.pinned (OpenSpec.upto sheetsAgreesSpec)

/-- 'knurllaw04.SheetsOne', WHERE WHAT IT READS IS OF BULK AT MOST 1048576: true; the input reads as it did. -/
def sheetsOneUptoRow : OpenClaim := { program := "ytegdnbceiopklaa", sum := "e43eee3b690eb408c517b5df63399cabcf5852afb53d03eda6374fd53f3eb9af", func := "knurl/knurllaw04.SheetsOne", spec := "sheetsOne", unfollowed := true, recurses := true, plainKeys := false, apart := false, narrowed := true }
def SheetsOneUptoSaid : Prop := sheetsOneUptoRow.holds Try.pinned (OpenSpec.upto sheetsOneSpec)

/-- 'knurllaw04.SheetsFactors', WHERE WHAT IT READS IS OF BULK AT MOST 1048576: true; the input reads as it did. -/
def sheetsFactorsUptoRow : OpenClaim := { program := "ytegdnbceiopklaa", sum := "e43eee3b690eb408c517b5df63399cabcf5852afb53d03eda6374fd53f3eb9af", func := "knurl/knurllaw04.SheetsFactors", spec := "sheetsFactors", unfollowed := true, recurses := true, plainKeys := false, apart := false, narrowed := true }
def SheetsFactorsUptoSaid : Prop := sheetsFactorsUptoRow.holds Try.pinned (OpenSpec.upto sheetsFactorsSpec)

/-- 'knurllaw04.SheetsPlain', WHERE WHAT IT READS IS OF BULK AT MOST 1048576: true; the input reads as it did. -/
def sheetsPlainUptoRow : OpenClaim := { program := "ytegdnbceiopklaa", sum := "e43eee3b690eb408c517b5df63399cabcf5852afb53d03eda6374fd53f3eb9af", func := "knurl/knurllaw04.SheetsPlain", spec := "sheetsPlain", unfollowed := true, recurses := true, plainKeys := false, apart := false, narrowed := true }
def SheetsPlainUptoSaid : Prop := sheetsPlainUptoRow.holds Try.pinned (OpenSpec.upto sheetsPlainSpec)

/-- 'knurllaw04.SheetsMore', WHERE WHAT IT READS IS OF BULK AT MOST 1048576: true; the input reads as it did. -/
def sheetsMoreUptoRow : OpenClaim := { program := "ytegdnbceiopklaa", sum := "e43eee3b690eb408c517b5df63399cabcf5852afb53d03eda6374fd53f3eb9af", func := "knurl/knurllaw04.SheetsMore", spec := "sheetsMore", unfollowed := true, recurses := true, plainKeys := false, apart := false, narrowed := true }
def SheetsMoreUptoSaid : Prop := sheetsMoreUptoRow.holds Try.pinned (OpenSpec.upto sheetsMoreSpec)

/-- 'knurllaw04.SheetsStrange', WHERE WHAT IT READS IS OF BULK AT MOST 1048576: true; the input reads as it did. -/
def sheetsStrangeUptoRow : OpenClaim := { program := "ytegdnbceiopklaa", sum := "e43eee3b690eb408c517b5df63399cabcf5852afb53d03eda6374fd53f3eb9af", func := "knurl/knurllaw04.SheetsStrange", spec := "sheetsStrange", unfollowed := true, recurses := true, plainKeys := false, apart := false, narrowed := true }
def SheetsStrangeUptoSaid : Prop := sheetsStrangeUptoRow.holds Try.pinned (OpenSpec.upto sheetsStrangeSpec)

/-- 'knurllaw04.SheetsTurned', WHERE WHAT IT READS IS OF BULK AT MOST 1048576: true; the input reads as it did. -/
def sheetsTurnedUptoRow : OpenClaim := { program := "ytegdnbceiopklaa", sum := "e43eee3b690eb408c517b5df63399cabcf5852afb53d03eda6374fd53f3eb9af", func := "knurl/knurllaw04.SheetsTurned", spec := "sheetsTurned", unfollowed := true, recurses := true, plainKeys := false, apart := false, narrowed := true }
def SheetsTurnedUptoSaid : Prop := sheetsTurnedUptoRow.holds Try.pinned (OpenSpec.upto sheetsTurnedSpec)

/-- 'knurllaw04.SheetsPieces', WHERE WHAT IT READS IS OF BULK AT MOST 1048576: true; the input reads as it did. -/
def sheetsPiecesUptoRow : OpenClaim := { program := "ytegdnbceiopklaa", sum := "e43eee3b690eb408c517b5df63399cabcf5852afb53d03eda6374fd53f3eb9af", func := "knurl/knurllaw04.SheetsPieces", spec := "sheetsPieces", unfollowed := true, recurses := true, plainKeys := false, apart := false, narrowed := true }
def SheetsPiecesUptoSaid : Prop := sheetsPiecesUptoRow.holds Try.pinned (OpenSpec.upto sheetsPiecesSpec)

end Rows
end Go.Proofs.Ytegdnbceiopklaa
