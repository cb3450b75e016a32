/-
  No cell of these rows narrows 'for every input' (looked for: loops, veiled, ifaces, maps, wideKeys, modest, calm, conditions, laid).
  DERIVED. THE GIVEN ROWS OF THIS SEAT. 6 by the template 'for every input the law returns true; each argument reads behind the call as it read before'; 0 by the template 'total and deterministic' (their statements: YtfihmpkkpgmdhacTotals.lean).
  GIVEN WITH THE SEED: the statements are not yours to turn. If you find one false, say at which input.
  Laid BY PROGRAM, IN A SANDBOX (cutbox-rows.mjs): the forced cells as the released guide's own fill.sh prints them over the translation ac17423f0eb28631… (all of the seat's roots in one cut). By AI agents, Wed Nov 11 2026. No macro, syntax, notation, axiom, sorry.
-/
import Derived.Test.YtfihmpkkpgmdhacChecked
import GoSem.Claim
import GoSem.ClaimJoined
import GoSem.ClaimMapViews
import Derived.JoinedTies
import Derived.KernelRfl
namespace Go.Proofs.Ytfihmpkkpgmdhac
/- THE CELL 'sum', in the pinned program and in every row, IS THE sha256 OF THE DUMP (.gsa) THAT YtfihmpkkpgmdhacProg.lean LOADS. Nothing in Lean hashes anything: it is a label: what it is worth is what the hold of that sum in a sandbox is worth. -/
noncomputable def Try.pinned : Pinned := { name := "ytfihmpkkpgmdhac", sum := "ac17423f0eb286310a359730b565b7edec16d4685fcee62e8ac0db7d79f3fec1", checked := Try.checked }
namespace Rows
def none {H : Type} : Left H := { results := [], args := [] }

/-- 'vergerslaw.GuildTries': WHATEVER THE INPUT: true; the input reads as it did. -/
def guildTriesSpec : ChangeSpec := { name := "guildTries", fn := fun _ => fun
  | [d] => { results := [.lit (.bool true)], args := [d] }
  | _ => none }
def guildTriesRow : OpenClaim := { program := "ytfihmpkkpgmdhac", sum := "ac17423f0eb286310a359730b565b7edec16d4685fcee62e8ac0db7d79f3fec1", func := "vergers/vergerslaw.GuildTries", spec := "guildTries", apart := false }
def GuildTriesSaid : Prop := guildTriesRow.holds Try.pinned (OpenSpec.ofChange guildTriesSpec)

/-- ITS FALSE NEIGHBOUR: 'it returns false'. Refute it at one input. -/
def guildTriesWrong : ChangeSpec := { name := "guildTries", fn := fun _ => fun
  | [d] => { results := [.lit (.bool false)], args := [d] }
  | _ => none }
def GuildTriesWrongFalsely : Prop := guildTriesRow.holds Try.pinned (OpenSpec.ofChange guildTriesWrong)

/-- 'vergerslaw.GuildSerial': WHATEVER THE INPUT: true; the input reads as it did. -/
def guildSerialSpec : ChangeSpec := { name := "guildSerial", fn := fun _ => fun
  | [d] => { results := [.lit (.bool true)], args := [d] }
  | _ => none }
def guildSerialRow : OpenClaim := { program := "ytfihmpkkpgmdhac", sum := "ac17423f0eb286310a359730b565b7edec16d4685fcee62e8ac0db7d79f3fec1", func := "vergers/vergerslaw.GuildSerial", spec := "guildSerial", apart := false }
def GuildSerialSaid : Prop := guildSerialRow.holds Try.pinned (OpenSpec.ofChange guildSerialSpec)

/-- ITS FALSE NEIGHBOUR: 'it returns false'. Refute it at one input. -/
def guildSerialWrong : ChangeSpec := { name := "guildSerial", fn := fun _ => fun
  | [d] => { results := [.lit (.bool false)], args := [d] }
  | _ => none }
def GuildSerialWrongFalsely : Prop := guildSerialRow.holds Try.pinned (OpenSpec.ofChange guildSerialWrong)

/-- 'vergerslaw.GuildStops': WHATEVER THE INPUT: true; the input reads as it did. -/
def guildStopsSpec : ChangeSpec := { name := "guildStops", fn := fun _ => fun
  | [d1, d2, d3, d4] => { results := [.lit (.bool true)], args := [d1, d2, d3, d4] }
  | _ => none }
def guildStopsRow : OpenClaim := { program := "ytfihmpkkpgmdhac", sum := "ac17423f0eb286310a359730b565b7edec16d4685fcee62e8ac0db7d79f3fec1", func := "vergers/vergerslaw.GuildStops", spec := "guildStops", apart := false }
def GuildStopsSaid : Prop := guildStopsRow.holds Try.pinned (OpenSpec.ofChange guildStopsSpec)

/-- ITS FALSE NEIGHBOUR: 'it returns false'. Refute it at one input. -/
def guildStopsWrong : ChangeSpec := { name := "guildStops", fn := fun _ => fun
  | [d1, d2, d3, d4] => { results := [.lit (.bool false)], args := [d1, d2, d3, d4] }
  | _ => none }
def GuildStopsWrongFalsely : Prop := guildStopsRow.holds Try.pinned (OpenSpec.ofChange guildStopsWrong)

/-- 'vergerslaw.GuildDoes': WHATEVER THE INPUT: true; the input reads as it did. -/
def guildDoesSpec : ChangeSpec := { name := "guildDoes", fn := fun _ => fun
  | [d] => { results := [.lit (.bool true)], args := [d] }
  | _ => none }
def guildDoesRow : OpenClaim := { program := "ytfihmpkkpgmdhac", sum := "ac17423f0eb286310a359730b565b7edec16d4685fcee62e8ac0db7d79f3fec1", func := "vergers/vergerslaw.GuildDoes", spec := "guildDoes", apart := false }
def GuildDoesSaid : Prop := guildDoesRow.holds Try.pinned (OpenSpec.ofChange guildDoesSpec)

/-- ITS FALSE NEIGHBOUR: 'it returns false'. Refute it at one input. -/
def guildDoesWrong : ChangeSpec := { name := "guildDoes", fn := fun _ => fun
  | [d] => { results := [.lit (.bool false)], args := [d] }
  | _ => none }
def GuildDoesWrongFalsely : Prop := guildDoesRow.holds Try.pinned (OpenSpec.ofChange guildDoesWrong)

/-- 'vergerslaw.StoryOnce': WHATEVER THE INPUT: true; the input reads as it did. -/
def storyOnceSpec : ChangeSpec := { name := "storyOnce", fn := fun _ => fun
  | [d] => { results := [.lit (.bool true)], args := [d] }
  | _ => none }
def storyOnceRow : OpenClaim := { program := "ytfihmpkkpgmdhac", sum := "ac17423f0eb286310a359730b565b7edec16d4685fcee62e8ac0db7d79f3fec1", func := "vergers/vergerslaw.StoryOnce", spec := "storyOnce", apart := false }
def StoryOnceSaid : Prop := storyOnceRow.holds Try.pinned (OpenSpec.ofChange storyOnceSpec)

/-- ITS FALSE NEIGHBOUR: 'it returns false'. Refute it at one input. -/
def storyOnceWrong : ChangeSpec := { name := "storyOnce", fn := fun _ => fun
  | [d] => { results := [.lit (.bool false)], args := [d] }
  | _ => none }
def StoryOnceWrongFalsely : Prop := storyOnceRow.holds Try.pinned (OpenSpec.ofChange storyOnceWrong)

/-- 'vergerslaw.StoryTells': WHATEVER THE INPUT: true; the input reads as it did. -/
def storyTellsSpec : ChangeSpec := { name := "storyTells", fn := fun _ => fun
  | [d] => { results := [.lit (.bool true)], args := [d] }
  | _ => none }
def storyTellsRow : OpenClaim := { program := "ytfihmpkkpgmdhac", sum := "ac17423f0eb286310a359730b565b7edec16d4685fcee62e8ac0db7d79f3fec1", func := "vergers/vergerslaw.StoryTells", spec := "storyTells", apart := false }
def StoryTellsSaid : Prop := storyTellsRow.holds Try.pinned (OpenSpec.ofChange storyTellsSpec)

/-- ITS FALSE NEIGHBOUR: 'it returns false'. Refute it at one input. -/
def storyTellsWrong : ChangeSpec := { name := "storyTells", fn := fun _ => fun
  | [d] => { results := [.lit (.bool false)], args := [d] }
  | _ => none }
def StoryTellsWrongFalsely : Prop := storyTellsRow.holds Try.pinned (OpenSpec.ofChange storyTellsWrong)

/- THE SECOND FORM. 'bulk': how many values and letters a reading holds, each counted each time it is reached (what is shared counts as often as it is met; a slice's spare places count too). A statement '..UptoSaid' is the law's where the arguments, and the package variables that the reading takes, are together of bulk at most 1048576: NARROWER than '..Said'. Prove '..Said' where nothing that the law and all that it calls make is longer than what came in: it says more and counts as full. Else prove '..UptoSaid'. A law counts once. -/
mutual
def uptoBulk {H : Type} : DataW H → Nat
  | .lit (.string bytes) => bytes.length + 1
  | .lit _ => 1
  | .nil => 1
  | .ptr d => uptoBulk d + 1
  | .slice elems spare => uptoBulkAll elems + uptoBulkAll spare + 1
  | .agg parts => uptoBulkAll parts + 1
  | .iface _ d => uptoBulk d + 1
  | .map entries => uptoBulkEntries entries + 1
  | .held _ => 1
def uptoBulkAll {H : Type} : List (DataW H) → Nat
  | [] => 0
  | d :: r => uptoBulk d + uptoBulkAll r
def uptoBulkEntries {H : Type} : List (Lit × DataW H) → Nat
  | [] => 0
  | x :: r => uptoBulkEntry x + uptoBulkEntries r
def uptoBulkEntry {H : Type} : Lit × DataW H → Nat
  | (.string bytes, d) => bytes.length + uptoBulk d + 1
  | (_, d) => uptoBulk d + 1
 end
def uptoSmall : (H : Type) → List (DataW H) → Bool := fun _ ds => decide (uptoBulkAll ds ≤ 1048576)
def OpenSpec.upto (s : _root_.Go.ChangeSpec) : _root_.Go.OpenSpec := { _root_.Go.OpenSpec.ofChange s with cond := some uptoSmall }

/-- 'vergerslaw.GuildTries', WHERE WHAT IT READS IS OF BULK AT MOST 1048576: true; the input reads as it did. -/
def guildTriesUptoRow : OpenClaim := { program := "ytfihmpkkpgmdhac", sum := "ac17423f0eb286310a359730b565b7edec16d4685fcee62e8ac0db7d79f3fec1", func := "vergers/vergerslaw.GuildTries", spec := "guildTries", apart := false, narrowed := true }
def GuildTriesUptoSaid : Prop := guildTriesUptoRow.holds Try.pinned (OpenSpec.upto guildTriesSpec)

/-- 'vergerslaw.GuildSerial', WHERE WHAT IT READS IS OF BULK AT MOST 1048576: true; the input reads as it did. -/
def guildSerialUptoRow : OpenClaim := { program := "ytfihmpkkpgmdhac", sum := "ac17423f0eb286310a359730b565b7edec16d4685fcee62e8ac0db7d79f3fec1", func := "vergers/vergerslaw.GuildSerial", spec := "guildSerial", apart := false, narrowed := true }
def GuildSerialUptoSaid : Prop := guildSerialUptoRow.holds Try.pinned (OpenSpec.upto guildSerialSpec)

/-- 'vergerslaw.GuildStops', WHERE WHAT IT READS IS OF BULK AT MOST 1048576: true; the input reads as it did. -/
def guildStopsUptoRow : OpenClaim := { program := "ytfihmpkkpgmdhac", sum := "ac17423f0eb286310a359730b565b7edec16d4685fcee62e8ac0db7d79f3fec1", func := "vergers/vergerslaw.GuildStops", spec := "guildStops", apart := false, narrowed := true }
def GuildStopsUptoSaid : Prop := guildStopsUptoRow.holds Try.pinned (OpenSpec.upto guildStopsSpec)

/-- 'vergerslaw.GuildDoes', WHERE WHAT IT READS IS OF BULK AT MOST 1048576: true; the input reads as it did. -/
def guildDoesUptoRow : OpenClaim := { program := "ytfihmpkkpgmdhac", sum := "ac17423f0eb286310a359730b565b7edec16d4685fcee62e8ac0db7d79f3fec1", func := "vergers/vergerslaw.GuildDoes", spec := "guildDoes", apart := false, narrowed := true }
def GuildDoesUptoSaid : Prop := guildDoesUptoRow.holds Try.pinned (OpenSpec.upto guildDoesSpec)

/-- 'vergerslaw.StoryOnce', WHERE WHAT IT READS IS OF BULK AT MOST 1048576: true; the input reads as it did. -/
def storyOnceUptoRow : OpenClaim := { program := "ytfihmpkkpgmdhac", sum := "ac17423f0eb286310a359730b565b7edec16d4685fcee62e8ac0db7d79f3fec1", func := "vergers/vergerslaw.StoryOnce", spec := "storyOnce", apart := false, narrowed := true }
def StoryOnceUptoSaid : Prop := storyOnceUptoRow.holds Try.pinned (OpenSpec.upto storyOnceSpec)

/-- 'vergerslaw.StoryTells', WHERE WHAT IT READS IS OF BULK AT MOST 1048576: true; the input reads as it did. -/
def storyTellsUptoRow : OpenClaim := { program := "ytfihmpkkpgmdhac", sum := "ac17423f0eb286310a359730b565b7edec16d4685fcee62e8ac0db7d79f3fec1", func := "vergers/vergerslaw.StoryTells", spec := "storyTells", apart := false, narrowed := true }
def StoryTellsUptoSaid : Prop := storyTellsUptoRow.holds Try.pinned (OpenSpec.upto storyTellsSpec)

end Rows
end Go.Proofs.Ytfihmpkkpgmdhac
