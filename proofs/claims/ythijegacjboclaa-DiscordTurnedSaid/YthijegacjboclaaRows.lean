/-
  No cell of these rows narrows 'for every input' (looked for: loops, veiled, ifaces, maps, wideKeys, modest, calm, conditions, laid).
  DERIVED. THE GIVEN ROWS OF THIS SEAT. 4 by the template 'for every input the law returns true; each argument reads behind the call as it read before'; 0 by the template 'total and deterministic' (their statements: YthijegacjboclaaTotals.lean).
  GIVEN WITH THE SEED: the statements are not yours to turn. If you find one false, say at which input.
  Laid BY PROGRAM, IN A SANDBOX (cutbox-rows.mjs): the forced cells as the released guide's own fill.sh prints them over the translation 3d89b154bd304613… (all of the seat's roots in one cut). By AI agents, Wed Nov 11 2026. No macro, syntax, notation, axiom, sorry.
-/
import Derived.Test.YthijegacjboclaaChecked
import GoSem.Claim
import GoSem.ClaimJoined
import GoSem.ClaimMapViews
import Derived.JoinedTies
import Derived.KernelRfl
namespace Go.Proofs.Ythijegacjboclaa
/- THE CELL 'sum', in the pinned program and in every row, IS THE sha256 OF THE DUMP (.gsa) THAT YthijegacjboclaaProg.lean LOADS. Nothing in Lean hashes anything: it is a label: what it is worth is what the hold of that sum in a sandbox is worth. -/
noncomputable def Try.pinned : Pinned := { name := "ythijegacjboclaa", sum := "3d89b154bd304613c6ae79ac489986b64a2bfddcc427c2300cc68bb00fceef02", checked := Try.checked }
namespace Rows
def none {H : Type} : Left H := { results := [], args := [] }

/-- 'knurllaw08.DiscordMore': WHATEVER THE INPUT: true; the input reads as it did. -/
def discordMoreSpec : ChangeSpec := { name := "discordMore", fn := fun _ => fun
  | [d1, d2] => { results := [.lit (.bool true)], args := [d1, d2] }
  | _ => none }
def discordMoreRow : OpenClaim := { program := "ythijegacjboclaa", sum := "3d89b154bd304613c6ae79ac489986b64a2bfddcc427c2300cc68bb00fceef02", func := "knurl/knurllaw08.DiscordMore", spec := "discordMore", unfollowed := true, recurses := true, plainKeys := false, apart := false }
def DiscordMoreSaid : Prop := discordMoreRow.holds Try.pinned (OpenSpec.ofChange discordMoreSpec)

/-- ITS FALSE NEIGHBOUR: 'it returns false'. Refute it at one input. -/
def discordMoreWrong : ChangeSpec := { name := "discordMore", fn := fun _ => fun
  | [d1, d2] => { results := [.lit (.bool false)], args := [d1, d2] }
  | _ => none }
def DiscordMoreWrongFalsely : Prop := discordMoreRow.holds Try.pinned (OpenSpec.ofChange discordMoreWrong)

/-- 'knurllaw08.DiscordBlame': WHATEVER THE INPUT: true; the input reads as it did. -/
def discordBlameSpec : ChangeSpec := { name := "discordBlame", fn := fun _ => fun
  | [d] => { results := [.lit (.bool true)], args := [d] }
  | _ => none }
def discordBlameRow : OpenClaim := { program := "ythijegacjboclaa", sum := "3d89b154bd304613c6ae79ac489986b64a2bfddcc427c2300cc68bb00fceef02", func := "knurl/knurllaw08.DiscordBlame", spec := "discordBlame", unfollowed := true, recurses := true, plainKeys := false, apart := false }
def DiscordBlameSaid : Prop := discordBlameRow.holds Try.pinned (OpenSpec.ofChange discordBlameSpec)

/-- ITS FALSE NEIGHBOUR: 'it returns false'. Refute it at one input. -/
def discordBlameWrong : ChangeSpec := { name := "discordBlame", fn := fun _ => fun
  | [d] => { results := [.lit (.bool false)], args := [d] }
  | _ => none }
def DiscordBlameWrongFalsely : Prop := discordBlameRow.holds Try.pinned (OpenSpec.ofChange discordBlameWrong)

/-- 'knurllaw08.DiscordSides': WHATEVER THE INPUT: true; the input reads as it did. -/
def discordSidesSpec : ChangeSpec := { name := "discordSides", fn := fun _ => fun
  | [d] => { results := [.lit (.bool true)], args := [d] }
  | _ => none }
def discordSidesRow : OpenClaim := { program := "ythijegacjboclaa", sum := "3d89b154bd304613c6ae79ac489986b64a2bfddcc427c2300cc68bb00fceef02", func := "knurl/knurllaw08.DiscordSides", spec := "discordSides", unfollowed := true, recurses := true, plainKeys := false, apart := false }
def DiscordSidesSaid : Prop := discordSidesRow.holds Try.pinned (OpenSpec.ofChange discordSidesSpec)

/-- ITS FALSE NEIGHBOUR: 'it returns false'. Refute it at one input. -/
def discordSidesWrong : ChangeSpec := { name := "discordSides", fn := fun _ => fun
  | [d] => { results := [.lit (.bool false)], args := [d] }
  | _ => none }
def DiscordSidesWrongFalsely : Prop := discordSidesRow.holds Try.pinned (OpenSpec.ofChange discordSidesWrong)

/-- 'knurllaw08.DiscordTurned': WHATEVER THE INPUT: true; the input reads as it did. -/
def discordTurnedSpec : ChangeSpec := { name := "discordTurned", fn := fun _ => fun
  | [d1, d2, d3] => { results := [.lit (.bool true)], args := [d1, d2, d3] }
  | _ => none }
def discordTurnedRow : OpenClaim := { program := "ythijegacjboclaa", sum := "3d89b154bd304613c6ae79ac489986b64a2bfddcc427c2300cc68bb00fceef02", func := "knurl/knurllaw08.DiscordTurned", spec := "discordTurned", unfollowed := true, recurses := true, plainKeys := false, apart := false }
def DiscordTurnedSaid : Prop := discordTurnedRow.holds Try.pinned (OpenSpec.ofChange discordTurnedSpec)

/-- ITS FALSE NEIGHBOUR: 'it returns false'. Refute it at one input. -/
def discordTurnedWrong : ChangeSpec := { name := "discordTurned", fn := fun _ => fun
  | [d1, d2, d3] => { results := [.lit (.bool false)], args := [d1, d2, d3] }
  | _ => none }
def DiscordTurnedWrongFalsely : Prop := discordTurnedRow.holds Try.pinned (OpenSpec.ofChange discordTurnedWrong)

/- THE SECOND FORM. 'bulk': how many values and letters a reading holds, each counted each time it is reached (what is shared counts as often as it is met; a slice's spare places count too). A statement '..UptoSaid' is the law's where the arguments, and the package variables that the reading takes, are together of bulk at most 1048576: NARROWER than '..Said'. Prove '..Said' where nothing that the law and all that it calls make is longer than what came in: it says more and counts as full. Else prove '..UptoSaid'. A law counts once. -/
mutual
def uptoBulk {H : Type} : DataW H → Nat
  | .lit (.string bytes) => bytes.length + 1
  | .lit _ => 1
  | .nil => 1
  | .ptr d => uptoBulk d + 1
  | .slice elems spare => uptoBulkAll elems + uptoBulkAll spare + 1
  | .agg parts => uptoBulkAll parts + 1
  | .iface _ d => uptoBulk d + 1
  | .map entries => uptoBulkEntries entries + 1
  | .held _ => 1
def uptoBulkAll {H : Type} : List (DataW H) → Nat
  | [] => 0
  | d :: r => uptoBulk d + uptoBulkAll r
def uptoBulkEntries {H : Type} : List (Lit × DataW H) → Nat
  | [] => 0
  | x :: r => uptoBulkEntry x + uptoBulkEntries r
def uptoBulkEntry {H : Type} : Lit × DataW H → Nat
  | (.string bytes, d) => bytes.length + uptoBulk d + 1
  | (_, d) => uptoBulk d + 1
 end
def uptoSmall : (H : Type) → List (DataW H) → Bool := fun _ ds => decide (uptoBulkAll ds ≤ 1048576)
def OpenSpec.upto (s : _root_.Go.ChangeSpec) : _root_.Go.OpenSpec := { _root_.Go.OpenSpec.ofChange s with cond := some uptoSmall }

/-- 'knurllaw08.DiscordMore', WHERE WHAT IT READS IS OF BULK AT MOST 1048576: true; the input reads as it did. -/
def discordMoreUptoRow : OpenClaim := { program := "ythijegacjboclaa", sum := "3d89b154bd304613c6ae79ac489986b64a2bfddcc427c2300cc68bb00fceef02", func := "knurl/knurllaw08.DiscordMore", spec := "discordMore", unfollowed := true, recurses := true, plainKeys := false, apart := false, narrowed := true }
def DiscordMoreUptoSaid : Prop := discordMoreUptoRow.holds Try.pinned (OpenSpec.upto discordMoreSpec)

/-- 'knurllaw08.DiscordBlame', WHERE WHAT IT READS IS OF BULK AT MOST 1048576: true; the input reads as it did. -/
def discordBlameUptoRow : OpenClaim := { program := "ythijegacjboclaa", sum := "3d89b154bd304613c6ae79ac489986b64a2bfddcc427c2300cc68bb00fceef02", func := "knurl/knurllaw08.DiscordBlame", spec := "discordBlame", unfollowed := true, recurses := true, plainKeys := false, apart := false, narrowed := true }
def DiscordBlameUptoSaid : Prop := discordBlameUptoRow.holds Try.pinned (OpenSpec.upto discordBlameSpec)

/-- 'knurllaw08.DiscordSides', WHERE WHAT IT READS IS OF BULK AT MOST 1048576: true; the input reads as it did. -/
def discordSidesUptoRow : OpenClaim := { program := "ythijegacjboclaa", sum := "3d89b154bd304613c6ae79ac489986b64a2bfddcc427c2300cc68bb00fceef02", func := "knurl/knurllaw08.DiscordSides", spec := "discordSides", unfollowed := true, recurses := true, plainKeys := false, apart := false, narrowed := true }
def DiscordSidesUptoSaid : Prop := discordSidesUptoRow.holds Try.pinned (OpenSpec.upto discordSidesSpec)

/-- 'knurllaw08.DiscordTurned', WHERE WHAT IT READS IS OF BULK AT MOST 1048576: true; the input reads as it did. -/
def discordTurnedUptoRow : OpenClaim := { program := "ythijegacjboclaa", sum := "3d89b154bd304613c6ae79ac489986b64a2bfddcc427c2300cc68bb00fceef02", func := "knurl/knurllaw08.DiscordTurned", spec := "discordTurned", unfollowed := true, recurses := true, plainKeys := false, apart := false, narrowed := true }
def DiscordTurnedUptoSaid : Prop := discordTurnedUptoRow.holds Try.pinned (OpenSpec.upto discordTurnedSpec)

end Rows
end Go.Proofs.Ythijegacjboclaa
