/-
  No cell of these rows narrows 'for every input' (looked for: loops, veiled, ifaces, maps, wideKeys, modest, calm, conditions, laid).
  DERIVED. THE GIVEN ROWS OF THIS SEAT. 6 by the template 'for every input the law returns true; each argument reads behind the call as it read before'; 0 by the template 'total and deterministic' (their statements: YthijegacjboclaaGreatTotals.lean).
  GIVEN WITH THE SEED: the statements are not yours to turn. If you find one false, say at which input.
  Laid BY PROGRAM, IN A SANDBOX (cutbox-rows.mjs): the forced cells as the released guide's own fill.sh prints them over the translation 75fba77f8aa16610… (all of the seat's roots in one cut). By AI agents, Wed Nov 11 2026. No macro, syntax, notation, axiom, sorry.
-/
import Derived.Test.YthijegacjboclaaGreatChecked
import GoSem.Claim
import GoSem.ClaimJoined
import GoSem.ClaimMapViews
import Derived.JoinedTies
import Derived.KernelRfl
namespace Go.Proofs.YthijegacjboclaaGreat
/- THE CELL 'sum', in the pinned program and in every row, IS THE sha256 OF THE DUMP (.gsa) THAT YthijegacjboclaaGreatProg.lean LOADS. Nothing in Lean hashes anything: it is a label: what it is worth is what the hold of that sum in a sandbox is worth. -/
noncomputable def Tryz.pinned : Pinned := { name := "ythijegacjboclaagreat", sum := "75fba77f8aa16610c8d6675a42e8bd792b7cd994e2336a446c21f87de71e72af", checked := Tryz.checked }
namespace Rows
def none {H : Type} : Left H := { results := [], args := [] }

/-- 'knurllaw08.DiscordAreas': WHATEVER THE INPUT: true; the input reads as it did. -/
def discordAreasSpec : ChangeSpec := { name := "discordAreas", fn := fun _ => fun
  | [d1, d2] => { results := [.lit (.bool true)], args := [d1, d2] }
  | _ => none }
def discordAreasRow : OpenClaim := { program := "ythijegacjboclaagreat", sum := "75fba77f8aa16610c8d6675a42e8bd792b7cd994e2336a446c21f87de71e72af", func := "knurl/knurllaw08.DiscordAreas", spec := "discordAreas", unfollowed := true, recurses := true, plainKeys := false, apart := false }
def DiscordAreasSaid : Prop := discordAreasRow.holds Tryz.pinned (OpenSpec.ofChange discordAreasSpec)

/-- ITS FALSE NEIGHBOUR: 'it returns false'. Refute it at one input. -/
def discordAreasWrong : ChangeSpec := { name := "discordAreas", fn := fun _ => fun
  | [d1, d2] => { results := [.lit (.bool false)], args := [d1, d2] }
  | _ => none }
def DiscordAreasWrongFalsely : Prop := discordAreasRow.holds Tryz.pinned (OpenSpec.ofChange discordAreasWrong)

/-- 'knurllaw08.DiscordStory': WHATEVER THE INPUT: true; the input reads as it did. -/
def discordStorySpec : ChangeSpec := { name := "discordStory", fn := fun _ => fun
  | [d1, d2] => { results := [.lit (.bool true)], args := [d1, d2] }
  | _ => none }
def discordStoryRow : OpenClaim := { program := "ythijegacjboclaagreat", sum := "75fba77f8aa16610c8d6675a42e8bd792b7cd994e2336a446c21f87de71e72af", func := "knurl/knurllaw08.DiscordStory", spec := "discordStory", unfollowed := true, recurses := true, plainKeys := false, apart := false }
def DiscordStorySaid : Prop := discordStoryRow.holds Tryz.pinned (OpenSpec.ofChange discordStorySpec)

/-- ITS FALSE NEIGHBOUR: 'it returns false'. Refute it at one input. -/
def discordStoryWrong : ChangeSpec := { name := "discordStory", fn := fun _ => fun
  | [d1, d2] => { results := [.lit (.bool false)], args := [d1, d2] }
  | _ => none }
def DiscordStoryWrongFalsely : Prop := discordStoryRow.holds Tryz.pinned (OpenSpec.ofChange discordStoryWrong)

/-- 'knurllaw08.DiscordBlamed': WHATEVER THE INPUT: true; the input reads as it did. -/
def discordBlamedSpec : ChangeSpec := { name := "discordBlamed", fn := fun _ => fun
  | [d] => { results := [.lit (.bool true)], args := [d] }
  | _ => none }
def discordBlamedRow : OpenClaim := { program := "ythijegacjboclaagreat", sum := "75fba77f8aa16610c8d6675a42e8bd792b7cd994e2336a446c21f87de71e72af", func := "knurl/knurllaw08.DiscordBlamed", spec := "discordBlamed", unfollowed := true, recurses := true, plainKeys := false, apart := false }
def DiscordBlamedSaid : Prop := discordBlamedRow.holds Tryz.pinned (OpenSpec.ofChange discordBlamedSpec)

/-- ITS FALSE NEIGHBOUR: 'it returns false'. Refute it at one input. -/
def discordBlamedWrong : ChangeSpec := { name := "discordBlamed", fn := fun _ => fun
  | [d] => { results := [.lit (.bool false)], args := [d] }
  | _ => none }
def DiscordBlamedWrongFalsely : Prop := discordBlamedRow.holds Tryz.pinned (OpenSpec.ofChange discordBlamedWrong)

/-- 'knurllaw08.DiscordMended': WHATEVER THE INPUT: true; the input reads as it did. -/
def discordMendedSpec : ChangeSpec := { name := "discordMended", fn := fun _ => fun
  | [d] => { results := [.lit (.bool true)], args := [d] }
  | _ => none }
def discordMendedRow : OpenClaim := { program := "ythijegacjboclaagreat", sum := "75fba77f8aa16610c8d6675a42e8bd792b7cd994e2336a446c21f87de71e72af", func := "knurl/knurllaw08.DiscordMended", spec := "discordMended", unfollowed := true, recurses := true, plainKeys := false, apart := false }
def DiscordMendedSaid : Prop := discordMendedRow.holds Tryz.pinned (OpenSpec.ofChange discordMendedSpec)

/-- ITS FALSE NEIGHBOUR: 'it returns false'. Refute it at one input. -/
def discordMendedWrong : ChangeSpec := { name := "discordMended", fn := fun _ => fun
  | [d] => { results := [.lit (.bool false)], args := [d] }
  | _ => none }
def DiscordMendedWrongFalsely : Prop := discordMendedRow.holds Tryz.pinned (OpenSpec.ofChange discordMendedWrong)

/-- 'knurllaw08.DiscordFewest': WHATEVER THE INPUT: true; the input reads as it did. -/
def discordFewestSpec : ChangeSpec := { name := "discordFewest", fn := fun _ => fun
  | [d] => { results := [.lit (.bool true)], args := [d] }
  | _ => none }
def discordFewestRow : OpenClaim := { program := "ythijegacjboclaagreat", sum := "75fba77f8aa16610c8d6675a42e8bd792b7cd994e2336a446c21f87de71e72af", func := "knurl/knurllaw08.DiscordFewest", spec := "discordFewest", unfollowed := true, recurses := true, plainKeys := false, apart := false }
def DiscordFewestSaid : Prop := discordFewestRow.holds Tryz.pinned (OpenSpec.ofChange discordFewestSpec)

/-- ITS FALSE NEIGHBOUR: 'it returns false'. Refute it at one input. -/
def discordFewestWrong : ChangeSpec := { name := "discordFewest", fn := fun _ => fun
  | [d] => { results := [.lit (.bool false)], args := [d] }
  | _ => none }
def DiscordFewestWrongFalsely : Prop := discordFewestRow.holds Tryz.pinned (OpenSpec.ofChange discordFewestWrong)

/-- 'knurllaw08.DiscordMend': WHATEVER THE INPUT: true; the input reads as it did. -/
def discordMendSpec : ChangeSpec := { name := "discordMend", fn := fun _ => fun
  | [d] => { results := [.lit (.bool true)], args := [d] }
  | _ => none }
def discordMendRow : OpenClaim := { program := "ythijegacjboclaagreat", sum := "75fba77f8aa16610c8d6675a42e8bd792b7cd994e2336a446c21f87de71e72af", func := "knurl/knurllaw08.DiscordMend", spec := "discordMend", unfollowed := true, recurses := true, plainKeys := false, apart := false }
def DiscordMendSaid : Prop := discordMendRow.holds Tryz.pinned (OpenSpec.ofChange discordMendSpec)

/-- ITS FALSE NEIGHBOUR: 'it returns false'. Refute it at one input. -/
def discordMendWrong : ChangeSpec := { name := "discordMend", fn := fun _ => fun
  | [d] => { results := [.lit (.bool false)], args := [d] }
  | _ => none }
def DiscordMendWrongFalsely : Prop := discordMendRow.holds Tryz.pinned (OpenSpec.ofChange discordMendWrong)

/- THE SECOND FORM. 'bulk': how many values and letters a reading holds, each counted each time it is reached (what is shared counts as often as it is met; a slice's spare places count too). A statement '..UptoSaid' is the law's where the arguments, and the package variables that the reading takes, are together of bulk at most 1048576: NARROWER than '..Said'. Prove '..Said' where nothing that the law and all that it calls make is longer than what came in: it says more and counts as full. Else prove '..UptoSaid'. A law counts once. -/
mutual
def uptoBulk {H : Type} : DataW H → Nat
  | .lit (.string bytes) => bytes.length + 1
  | .lit _ => 1
  | .nil => 1
  | .ptr d => uptoBulk d + 1
  | .slice elems spare => uptoBulkAll elems + uptoBulkAll spare + 1
  | .agg parts => uptoBulkAll parts + 1
  | .iface _ d => uptoBulk d + 1
  | .map entries => uptoBulkEntries entries + 1
  | .held _ => 1
def uptoBulkAll {H : Type} : List (DataW H) → Nat
  | [] => 0
  | d :: r => uptoBulk d + uptoBulkAll r
def uptoBulkEntries {H : Type} : List (Lit × DataW H) → Nat
  | [] => 0
  | x :: r => uptoBulkEntry x + uptoBulkEntries r
def uptoBulkEntry {H : Type} : Lit × DataW H → Nat
  | (.string bytes, d) => bytes.length + uptoBulk d + 1
  | (_, d) => uptoBulk d + 1
 end
def uptoSmall : (H : Type) → List (DataW H) → Bool := fun _ ds => decide (uptoBulkAll ds ≤ 1048576)
def OpenSpec.upto (s : _root_.Go.ChangeSpec) : _root_.Go.OpenSpec := { _root_.Go.OpenSpec.ofChange s with cond := some uptoSmall }

/-- 'knurllaw08.DiscordAreas', WHERE WHAT IT READS IS OF BULK AT MOST 1048576: true; the input reads as it did. -/
def discordAreasUptoRow : OpenClaim := { program := "ythijegacjboclaagreat", sum := "75fba77f8aa16610c8d6675a42e8bd792b7cd994e2336a446c21f87de71e72af", func := "knurl/knurllaw08.DiscordAreas", spec := "discordAreas", unfollowed := true, recurses := true, plainKeys := false, apart := false, narrowed := true }
def DiscordAreasUptoSaid : Prop := discordAreasUptoRow.holds Tryz.pinned (OpenSpec.upto discordAreasSpec)

/-- 'knurllaw08.DiscordStory', WHERE WHAT IT READS IS OF BULK AT MOST 1048576: true; the input reads as it did. -/
def discordStoryUptoRow : OpenClaim := { program := "ythijegacjboclaagreat", sum := "75fba77f8aa16610c8d6675a42e8bd792b7cd994e2336a446c21f87de71e72af", func := "knurl/knurllaw08.DiscordStory", spec := "discordStory", unfollowed := true, recurses := true, plainKeys := false, apart := false, narrowed := true }
def DiscordStoryUptoSaid : Prop := discordStoryUptoRow.holds Tryz.pinned (OpenSpec.upto discordStorySpec)

/-- 'knurllaw08.DiscordBlamed', WHERE WHAT IT READS IS OF BULK AT MOST 1048576: true; the input reads as it did. -/
def discordBlamedUptoRow : OpenClaim := { program := "ythijegacjboclaagreat", sum := "75fba77f8aa16610c8d6675a42e8bd792b7cd994e2336a446c21f87de71e72af", func := "knurl/knurllaw08.DiscordBlamed", spec := "discordBlamed", unfollowed := true, recurses := true, plainKeys := false, apart := false, narrowed := true }
def DiscordBlamedUptoSaid : Prop := discordBlamedUptoRow.holds Tryz.pinned (OpenSpec.upto discordBlamedSpec)

/-- 'knurllaw08.DiscordMended', WHERE WHAT IT READS IS OF BULK AT MOST 1048576: true; the input reads as it did. -/
def discordMendedUptoRow : OpenClaim := { program := "ythijegacjboclaagreat", sum := "75fba77f8aa16610c8d6675a42e8bd792b7cd994e2336a446c21f87de71e72af", func := "knurl/knurllaw08.DiscordMended", spec := "discordMended", unfollowed := true, recurses := true, plainKeys := false, apart := false, narrowed := true }
def DiscordMendedUptoSaid : Prop := discordMendedUptoRow.holds Tryz.pinned (OpenSpec.upto discordMendedSpec)

/-- 'knurllaw08.DiscordFewest', WHERE WHAT IT READS IS OF BULK AT MOST 1048576: true; the input reads as it did. -/
def discordFewestUptoRow : OpenClaim := { program := "ythijegacjboclaagreat", sum := "75fba77f8aa16610c8d6675a42e8bd792b7cd994e2336a446c21f87de71e72af", func := "knurl/knurllaw08.DiscordFewest", spec := "discordFewest", unfollowed := true, recurses := true, plainKeys := false, apart := false, narrowed := true }
def DiscordFewestUptoSaid : Prop := discordFewestUptoRow.holds Tryz.pinned (OpenSpec.upto discordFewestSpec)

/-- 'knurllaw08.DiscordMend', WHERE WHAT IT READS IS OF BULK AT MOST 1048576: true; the input reads as it did. -/
def discordMendUptoRow : OpenClaim := { program := "ythijegacjboclaagreat", sum := "75fba77f8aa16610c8d6675a42e8bd792b7cd994e2336a446c21f87de71e72af", func := "knurl/knurllaw08.DiscordMend", spec := "discordMend", unfollowed := true, recurses := true, plainKeys := false, apart := false, narrowed := true }
def DiscordMendUptoSaid : Prop := discordMendUptoRow.holds Tryz.pinned (OpenSpec.upto discordMendSpec)

end Rows
end Go.Proofs.YthijegacjboclaaGreat
