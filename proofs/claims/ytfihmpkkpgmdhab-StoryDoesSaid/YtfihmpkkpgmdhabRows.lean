/-
  No cell of these rows narrows 'for every input' (looked for: loops, veiled, ifaces, maps, wideKeys, modest, calm, conditions, laid).
  DERIVED. THE GIVEN ROWS OF THIS SEAT. 12 by the template 'for every input the law returns true; each argument reads behind the call as it read before'; 0 by the template 'total and deterministic' (their statements: YtfihmpkkpgmdhabTotals.lean).
  GIVEN WITH THE SEED: the statements are not yours to turn. If you find one false, say at which input.
  Laid BY PROGRAM, IN A SANDBOX (cutbox-rows.mjs): the forced cells as the released guide's own fill.sh prints them over the translation df3242429ec78ff4… (all of the seat's roots in one cut). By AI agents, Wed Nov 11 2026. No macro, syntax, notation, axiom, sorry.
-/
import Derived.Test.YtfihmpkkpgmdhabChecked
import GoSem.Claim
import GoSem.ClaimJoined
import GoSem.ClaimMapViews
import Derived.JoinedTies
import Derived.KernelRfl
namespace Go.Proofs.Ytfihmpkkpgmdhab
/- THE CELL 'sum', in the pinned program and in every row, IS THE sha256 OF THE DUMP (.gsa) THAT YtfihmpkkpgmdhabProg.lean LOADS. Nothing in Lean hashes anything: it is a label: what it is worth is what the hold of that sum in a sandbox is worth. -/
noncomputable def Try.pinned : Pinned := { name := "ytfihmpkkpgmdhab", sum := "df3242429ec78ff4d4f843cdb4b5897f6e2e686658240fb2ceef08f64b15af4d", checked := Try.checked }
namespace Rows
def none {H : Type} : Left H := { results := [], args := [] }

/-- 'vergerslaw.JobsRefuses': WHATEVER THE INPUT: true; the input reads as it did. -/
def jobsRefusesSpec : ChangeSpec := { name := "jobsRefuses", fn := fun _ => fun
  | [d] => { results := [.lit (.bool true)], args := [d] }
  | _ => none }
def jobsRefusesRow : OpenClaim := { program := "ytfihmpkkpgmdhab", sum := "df3242429ec78ff4d4f843cdb4b5897f6e2e686658240fb2ceef08f64b15af4d", func := "vergers/vergerslaw.JobsRefuses", spec := "jobsRefuses", apart := false }
def JobsRefusesSaid : Prop := jobsRefusesRow.holds Try.pinned (OpenSpec.ofChange jobsRefusesSpec)

/-- ITS FALSE NEIGHBOUR: 'it returns false'. Refute it at one input. -/
def jobsRefusesWrong : ChangeSpec := { name := "jobsRefuses", fn := fun _ => fun
  | [d] => { results := [.lit (.bool false)], args := [d] }
  | _ => none }
def JobsRefusesWrongFalsely : Prop := jobsRefusesRow.holds Try.pinned (OpenSpec.ofChange jobsRefusesWrong)

/-- 'vergerslaw.JobsTime': WHATEVER THE INPUT: true; the input reads as it did. -/
def jobsTimeSpec : ChangeSpec := { name := "jobsTime", fn := fun _ => fun
  | [d1, d2, d3] => { results := [.lit (.bool true)], args := [d1, d2, d3] }
  | _ => none }
def jobsTimeRow : OpenClaim := { program := "ytfihmpkkpgmdhab", sum := "df3242429ec78ff4d4f843cdb4b5897f6e2e686658240fb2ceef08f64b15af4d", func := "vergers/vergerslaw.JobsTime", spec := "jobsTime", apart := false }
def JobsTimeSaid : Prop := jobsTimeRow.holds Try.pinned (OpenSpec.ofChange jobsTimeSpec)

/-- ITS FALSE NEIGHBOUR: 'it returns false'. Refute it at one input. -/
def jobsTimeWrong : ChangeSpec := { name := "jobsTime", fn := fun _ => fun
  | [d1, d2, d3] => { results := [.lit (.bool false)], args := [d1, d2, d3] }
  | _ => none }
def JobsTimeWrongFalsely : Prop := jobsTimeRow.holds Try.pinned (OpenSpec.ofChange jobsTimeWrong)

/-- 'vergerslaw.JobsFirst': WHATEVER THE INPUT: true; the input reads as it did. -/
def jobsFirstSpec : ChangeSpec := { name := "jobsFirst", fn := fun _ => fun
  | [d1, d2, d3] => { results := [.lit (.bool true)], args := [d1, d2, d3] }
  | _ => none }
def jobsFirstRow : OpenClaim := { program := "ytfihmpkkpgmdhab", sum := "df3242429ec78ff4d4f843cdb4b5897f6e2e686658240fb2ceef08f64b15af4d", func := "vergers/vergerslaw.JobsFirst", spec := "jobsFirst", apart := false }
def JobsFirstSaid : Prop := jobsFirstRow.holds Try.pinned (OpenSpec.ofChange jobsFirstSpec)

/-- ITS FALSE NEIGHBOUR: 'it returns false'. Refute it at one input. -/
def jobsFirstWrong : ChangeSpec := { name := "jobsFirst", fn := fun _ => fun
  | [d1, d2, d3] => { results := [.lit (.bool false)], args := [d1, d2, d3] }
  | _ => none }
def JobsFirstWrongFalsely : Prop := jobsFirstRow.holds Try.pinned (OpenSpec.ofChange jobsFirstWrong)

/-- 'vergerslaw.JobsOwn': WHATEVER THE INPUT: true; the input reads as it did. -/
def jobsOwnSpec : ChangeSpec := { name := "jobsOwn", fn := fun _ => fun
  | [d1, d2, d3] => { results := [.lit (.bool true)], args := [d1, d2, d3] }
  | _ => none }
def jobsOwnRow : OpenClaim := { program := "ytfihmpkkpgmdhab", sum := "df3242429ec78ff4d4f843cdb4b5897f6e2e686658240fb2ceef08f64b15af4d", func := "vergers/vergerslaw.JobsOwn", spec := "jobsOwn", apart := false }
def JobsOwnSaid : Prop := jobsOwnRow.holds Try.pinned (OpenSpec.ofChange jobsOwnSpec)

/-- ITS FALSE NEIGHBOUR: 'it returns false'. Refute it at one input. -/
def jobsOwnWrong : ChangeSpec := { name := "jobsOwn", fn := fun _ => fun
  | [d1, d2, d3] => { results := [.lit (.bool false)], args := [d1, d2, d3] }
  | _ => none }
def JobsOwnWrongFalsely : Prop := jobsOwnRow.holds Try.pinned (OpenSpec.ofChange jobsOwnWrong)

/-- 'vergerslaw.StoryParts': WHATEVER THE INPUT: true; the input reads as it did. -/
def storyPartsSpec : ChangeSpec := { name := "storyParts", fn := fun _ => fun
  | [d1, d2] => { results := [.lit (.bool true)], args := [d1, d2] }
  | _ => none }
def storyPartsRow : OpenClaim := { program := "ytfihmpkkpgmdhab", sum := "df3242429ec78ff4d4f843cdb4b5897f6e2e686658240fb2ceef08f64b15af4d", func := "vergers/vergerslaw.StoryParts", spec := "storyParts", apart := false }
def StoryPartsSaid : Prop := storyPartsRow.holds Try.pinned (OpenSpec.ofChange storyPartsSpec)

/-- ITS FALSE NEIGHBOUR: 'it returns false'. Refute it at one input. -/
def storyPartsWrong : ChangeSpec := { name := "storyParts", fn := fun _ => fun
  | [d1, d2] => { results := [.lit (.bool false)], args := [d1, d2] }
  | _ => none }
def StoryPartsWrongFalsely : Prop := storyPartsRow.holds Try.pinned (OpenSpec.ofChange storyPartsWrong)

/-- 'vergerslaw.StoryDoes': WHATEVER THE INPUT: true; the input reads as it did. -/
def storyDoesSpec : ChangeSpec := { name := "storyDoes", fn := fun _ => fun
  | [d1, d2, d3, d4] => { results := [.lit (.bool true)], args := [d1, d2, d3, d4] }
  | _ => none }
def storyDoesRow : OpenClaim := { program := "ytfihmpkkpgmdhab", sum := "df3242429ec78ff4d4f843cdb4b5897f6e2e686658240fb2ceef08f64b15af4d", func := "vergers/vergerslaw.StoryDoes", spec := "storyDoes", apart := false }
def StoryDoesSaid : Prop := storyDoesRow.holds Try.pinned (OpenSpec.ofChange storyDoesSpec)

/-- ITS FALSE NEIGHBOUR: 'it returns false'. Refute it at one input. -/
def storyDoesWrong : ChangeSpec := { name := "storyDoes", fn := fun _ => fun
  | [d1, d2, d3, d4] => { results := [.lit (.bool false)], args := [d1, d2, d3, d4] }
  | _ => none }
def StoryDoesWrongFalsely : Prop := storyDoesRow.holds Try.pinned (OpenSpec.ofChange storyDoesWrong)

/-- 'vergerslaw.NodeFenced': WHATEVER THE INPUT: true; the input reads as it did. -/
def nodeFencedSpec : ChangeSpec := { name := "nodeFenced", fn := fun _ => fun
  | [d1, d2, d3] => { results := [.lit (.bool true)], args := [d1, d2, d3] }
  | _ => none }
def nodeFencedRow : OpenClaim := { program := "ytfihmpkkpgmdhab", sum := "df3242429ec78ff4d4f843cdb4b5897f6e2e686658240fb2ceef08f64b15af4d", func := "vergers/vergerslaw.NodeFenced", spec := "nodeFenced", apart := false }
def NodeFencedSaid : Prop := nodeFencedRow.holds Try.pinned (OpenSpec.ofChange nodeFencedSpec)

/-- ITS FALSE NEIGHBOUR: 'it returns false'. Refute it at one input. -/
def nodeFencedWrong : ChangeSpec := { name := "nodeFenced", fn := fun _ => fun
  | [d1, d2, d3] => { results := [.lit (.bool false)], args := [d1, d2, d3] }
  | _ => none }
def NodeFencedWrongFalsely : Prop := nodeFencedRow.holds Try.pinned (OpenSpec.ofChange nodeFencedWrong)

/-- 'vergerslaw.NodeTears': WHATEVER THE INPUT: true; the input reads as it did. -/
def nodeTearsSpec : ChangeSpec := { name := "nodeTears", fn := fun _ => fun
  | [d1, d2, d3, d4] => { results := [.lit (.bool true)], args := [d1, d2, d3, d4] }
  | _ => none }
def nodeTearsRow : OpenClaim := { program := "ytfihmpkkpgmdhab", sum := "df3242429ec78ff4d4f843cdb4b5897f6e2e686658240fb2ceef08f64b15af4d", func := "vergers/vergerslaw.NodeTears", spec := "nodeTears", apart := false }
def NodeTearsSaid : Prop := nodeTearsRow.holds Try.pinned (OpenSpec.ofChange nodeTearsSpec)

/-- ITS FALSE NEIGHBOUR: 'it returns false'. Refute it at one input. -/
def nodeTearsWrong : ChangeSpec := { name := "nodeTears", fn := fun _ => fun
  | [d1, d2, d3, d4] => { results := [.lit (.bool false)], args := [d1, d2, d3, d4] }
  | _ => none }
def NodeTearsWrongFalsely : Prop := nodeTearsRow.holds Try.pinned (OpenSpec.ofChange nodeTearsWrong)

/-- 'vergerslaw.NodeAnswers': WHATEVER THE INPUT: true; the input reads as it did. -/
def nodeAnswersSpec : ChangeSpec := { name := "nodeAnswers", fn := fun _ => fun
  | [d1, d2] => { results := [.lit (.bool true)], args := [d1, d2] }
  | _ => none }
def nodeAnswersRow : OpenClaim := { program := "ytfihmpkkpgmdhab", sum := "df3242429ec78ff4d4f843cdb4b5897f6e2e686658240fb2ceef08f64b15af4d", func := "vergers/vergerslaw.NodeAnswers", spec := "nodeAnswers", apart := false }
def NodeAnswersSaid : Prop := nodeAnswersRow.holds Try.pinned (OpenSpec.ofChange nodeAnswersSpec)

/-- ITS FALSE NEIGHBOUR: 'it returns false'. Refute it at one input. -/
def nodeAnswersWrong : ChangeSpec := { name := "nodeAnswers", fn := fun _ => fun
  | [d1, d2] => { results := [.lit (.bool false)], args := [d1, d2] }
  | _ => none }
def NodeAnswersWrongFalsely : Prop := nodeAnswersRow.holds Try.pinned (OpenSpec.ofChange nodeAnswersWrong)

/-- 'vergerslaw.NodeDoes': WHATEVER THE INPUT: true; the input reads as it did. -/
def nodeDoesSpec : ChangeSpec := { name := "nodeDoes", fn := fun _ => fun
  | [d1, d2] => { results := [.lit (.bool true)], args := [d1, d2] }
  | _ => none }
def nodeDoesRow : OpenClaim := { program := "ytfihmpkkpgmdhab", sum := "df3242429ec78ff4d4f843cdb4b5897f6e2e686658240fb2ceef08f64b15af4d", func := "vergers/vergerslaw.NodeDoes", spec := "nodeDoes", apart := false }
def NodeDoesSaid : Prop := nodeDoesRow.holds Try.pinned (OpenSpec.ofChange nodeDoesSpec)

/-- ITS FALSE NEIGHBOUR: 'it returns false'. Refute it at one input. -/
def nodeDoesWrong : ChangeSpec := { name := "nodeDoes", fn := fun _ => fun
  | [d1, d2] => { results := [.lit (.bool false)], args := [d1, d2] }
  | _ => none }
def NodeDoesWrongFalsely : Prop := nodeDoesRow.holds Try.pinned (OpenSpec.ofChange nodeDoesWrong)

/-- 'vergerslaw.NodeAgain': WHATEVER THE INPUT: true; the input reads as it did. -/
def nodeAgainSpec : ChangeSpec := { name := "nodeAgain", fn := fun _ => fun
  | [d1, d2] => { results := [.lit (.bool true)], args := [d1, d2] }
  | _ => none }
def nodeAgainRow : OpenClaim := { program := "ytfihmpkkpgmdhab", sum := "df3242429ec78ff4d4f843cdb4b5897f6e2e686658240fb2ceef08f64b15af4d", func := "vergers/vergerslaw.NodeAgain", spec := "nodeAgain", apart := false }
def NodeAgainSaid : Prop := nodeAgainRow.holds Try.pinned (OpenSpec.ofChange nodeAgainSpec)

/-- ITS FALSE NEIGHBOUR: 'it returns false'. Refute it at one input. -/
def nodeAgainWrong : ChangeSpec := { name := "nodeAgain", fn := fun _ => fun
  | [d1, d2] => { results := [.lit (.bool false)], args := [d1, d2] }
  | _ => none }
def NodeAgainWrongFalsely : Prop := nodeAgainRow.holds Try.pinned (OpenSpec.ofChange nodeAgainWrong)

/-- 'vergerslaw.GuildStays': WHATEVER THE INPUT: true; the input reads as it did. -/
def guildStaysSpec : ChangeSpec := { name := "guildStays", fn := fun _ => fun
  | [d] => { results := [.lit (.bool true)], args := [d] }
  | _ => none }
def guildStaysRow : OpenClaim := { program := "ytfihmpkkpgmdhab", sum := "df3242429ec78ff4d4f843cdb4b5897f6e2e686658240fb2ceef08f64b15af4d", func := "vergers/vergerslaw.GuildStays", spec := "guildStays", apart := false }
def GuildStaysSaid : Prop := guildStaysRow.holds Try.pinned (OpenSpec.ofChange guildStaysSpec)

/-- ITS FALSE NEIGHBOUR: 'it returns false'. Refute it at one input. -/
def guildStaysWrong : ChangeSpec := { name := "guildStays", fn := fun _ => fun
  | [d] => { results := [.lit (.bool false)], args := [d] }
  | _ => none }
def GuildStaysWrongFalsely : Prop := guildStaysRow.holds Try.pinned (OpenSpec.ofChange guildStaysWrong)

/- THE SECOND FORM. 'bulk': how many values and letters a reading holds, each counted each time it is reached (what is shared counts as often as it is met; a slice's spare places count too). A statement '..UptoSaid' is the law's where the arguments, and the package variables that the reading takes, are together of bulk at most 1048576: NARROWER than '..Said'. Prove '..Said' where nothing that the law and all that it calls make is longer than what came in: it says more and counts as full. Else prove '..UptoSaid'. A law counts once. -/
mutual
def uptoBulk {H : Type} : DataW H → Nat
  | .lit (.string bytes) => bytes.length + 1
  | .lit _ => 1
  | .nil => 1
  | .ptr d => uptoBulk d + 1
  | .slice elems spare => uptoBulkAll elems + uptoBulkAll spare + 1
  | .agg parts => uptoBulkAll parts + 1
  | .iface _ d => uptoBulk d + 1
  | .map entries => uptoBulkEntries entries + 1
  | .held _ => 1
def uptoBulkAll {H : Type} : List (DataW H) → Nat
  | [] => 0
  | d :: r => uptoBulk d + uptoBulkAll r
def uptoBulkEntries {H : Type} : List (Lit × DataW H) → Nat
  | [] => 0
  | x :: r => uptoBulkEntry x + uptoBulkEntries r
def uptoBulkEntry {H : Type} : Lit × DataW H → Nat
  | (.string bytes, d) => bytes.length + uptoBulk d + 1
  | (_, d) => uptoBulk d + 1
 end
def uptoSmall : (H : Type) → List (DataW H) → Bool := fun _ ds => decide (uptoBulkAll ds ≤ 1048576)
def OpenSpec.upto (s : _root_.Go.ChangeSpec) : _root_.Go.OpenSpec := { _root_.Go.OpenSpec.ofChange s with cond := some uptoSmall }

/-- 'vergerslaw.JobsRefuses', WHERE WHAT IT READS IS OF BULK AT MOST 1048576: true; the input reads as it did. -/
def jobsRefusesUptoRow : OpenClaim := { program := "ytfihmpkkpgmdhab", sum := "df3242429ec78ff4d4f843cdb4b5897f6e2e686658240fb2ceef08f64b15af4d", func := "vergers/vergerslaw.JobsRefuses", spec := "jobsRefuses", apart := false, narrowed := true }
def JobsRefusesUptoSaid : Prop := jobsRefusesUptoRow.holds Try.pinned (OpenSpec.upto jobsRefusesSpec)

/-- 'vergerslaw.JobsTime', WHERE WHAT IT READS IS OF BULK AT MOST 1048576: true; the input reads as it did. -/
def jobsTimeUptoRow : OpenClaim := { program := "ytfihmpkkpgmdhab", sum := "df3242429ec78ff4d4f843cdb4b5897f6e2e686658240fb2ceef08f64b15af4d", func := "vergers/vergerslaw.JobsTime", spec := "jobsTime", apart := false, narrowed := true }
def JobsTimeUptoSaid : Prop := jobsTimeUptoRow.holds Try.pinned (OpenSpec.upto jobsTimeSpec)

/-- 'vergerslaw.JobsFirst', WHERE WHAT IT READS IS OF BULK AT MOST 1048576: true; the input reads as it did. -/
def jobsFirstUptoRow : OpenClaim := { program := "ytfihmpkkpgmdhab", sum := "df3242429ec78ff4d4f843cdb4b5897f6e2e686658240fb2ceef08f64b15af4d", func := "vergers/vergerslaw.JobsFirst", spec := "jobsFirst", apart := false, narrowed := true }
def JobsFirstUptoSaid : Prop := jobsFirstUptoRow.holds Try.pinned (OpenSpec.upto jobsFirstSpec)

/-- 'vergerslaw.JobsOwn', WHERE WHAT IT READS IS OF BULK AT MOST 1048576: true; the input reads as it did. -/
def jobsOwnUptoRow : OpenClaim := { program := "ytfihmpkkpgmdhab", sum := "df3242429ec78ff4d4f843cdb4b5897f6e2e686658240fb2ceef08f64b15af4d", func := "vergers/vergerslaw.JobsOwn", spec := "jobsOwn", apart := false, narrowed := true }
def JobsOwnUptoSaid : Prop := jobsOwnUptoRow.holds Try.pinned (OpenSpec.upto jobsOwnSpec)

/-- 'vergerslaw.StoryParts', WHERE WHAT IT READS IS OF BULK AT MOST 1048576: true; the input reads as it did. -/
def storyPartsUptoRow : OpenClaim := { program := "ytfihmpkkpgmdhab", sum := "df3242429ec78ff4d4f843cdb4b5897f6e2e686658240fb2ceef08f64b15af4d", func := "vergers/vergerslaw.StoryParts", spec := "storyParts", apart := false, narrowed := true }
def StoryPartsUptoSaid : Prop := storyPartsUptoRow.holds Try.pinned (OpenSpec.upto storyPartsSpec)

/-- 'vergerslaw.StoryDoes', WHERE WHAT IT READS IS OF BULK AT MOST 1048576: true; the input reads as it did. -/
def storyDoesUptoRow : OpenClaim := { program := "ytfihmpkkpgmdhab", sum := "df3242429ec78ff4d4f843cdb4b5897f6e2e686658240fb2ceef08f64b15af4d", func := "vergers/vergerslaw.StoryDoes", spec := "storyDoes", apart := false, narrowed := true }
def StoryDoesUptoSaid : Prop := storyDoesUptoRow.holds Try.pinned (OpenSpec.upto storyDoesSpec)

/-- 'vergerslaw.NodeFenced', WHERE WHAT IT READS IS OF BULK AT MOST 1048576: true; the input reads as it did. -/
def nodeFencedUptoRow : OpenClaim := { program := "ytfihmpkkpgmdhab", sum := "df3242429ec78ff4d4f843cdb4b5897f6e2e686658240fb2ceef08f64b15af4d", func := "vergers/vergerslaw.NodeFenced", spec := "nodeFenced", apart := false, narrowed := true }
def NodeFencedUptoSaid : Prop := nodeFencedUptoRow.holds Try.pinned (OpenSpec.upto nodeFencedSpec)

/-- 'vergerslaw.NodeTears', WHERE WHAT IT READS IS OF BULK AT MOST 1048576: true; the input reads as it did. -/
def nodeTearsUptoRow : OpenClaim := { program := "ytfihmpkkpgmdhab", sum := "df3242429ec78ff4d4f843cdb4b5897f6e2e686658240fb2ceef08f64b15af4d", func := "vergers/vergerslaw.NodeTears", spec := "nodeTears", apart := false, narrowed := true }
def NodeTearsUptoSaid : Prop := nodeTearsUptoRow.holds Try.pinned (OpenSpec.upto nodeTearsSpec)

/-- 'vergerslaw.NodeAnswers', WHERE WHAT IT READS IS OF BULK AT MOST 1048576: true; the input reads as it did. -/
def nodeAnswersUptoRow : OpenClaim := { program := "ytfihmpkkpgmdhab", sum := "df3242429ec78ff4d4f843cdb4b5897f6e2e686658240fb2ceef08f64b15af4d", func := "vergers/vergerslaw.NodeAnswers", spec := "nodeAnswers", apart := false, narrowed := true }
def NodeAnswersUptoSaid : Prop := nodeAnswersUptoRow.holds Try.pinned (OpenSpec.upto nodeAnswersSpec)

/-- 'vergerslaw.NodeDoes', WHERE WHAT IT READS IS OF BULK AT MOST 1048576: true; the input reads as it did. -/
def nodeDoesUptoRow : OpenClaim := { program := "ytfihmpkkpgmdhab", sum := "df3242429ec78ff4d4f843cdb4b5897f6e2e686658240fb2ceef08f64b15af4d", func := "vergers/vergerslaw.NodeDoes", spec := "nodeDoes", apart := false, narrowed := true }
def NodeDoesUptoSaid : Prop := nodeDoesUptoRow.holds Try.pinned (OpenSpec.upto nodeDoesSpec)

/-- 'vergerslaw.NodeAgain', WHERE WHAT IT READS IS OF BULK AT MOST 1048576: true; the input reads as it did. -/
def nodeAgainUptoRow : OpenClaim := { program := "ytfihmpkkpgmdhab", sum := "df3242429ec78ff4d4f843cdb4b5897f6e2e686658240fb2ceef08f64b15af4d", func := "vergers/vergerslaw.NodeAgain", spec := "nodeAgain", apart := false, narrowed := true }
def NodeAgainUptoSaid : Prop := nodeAgainUptoRow.holds Try.pinned (OpenSpec.upto nodeAgainSpec)

/-- 'vergerslaw.GuildStays', WHERE WHAT IT READS IS OF BULK AT MOST 1048576: true; the input reads as it did. -/
def guildStaysUptoRow : OpenClaim := { program := "ytfihmpkkpgmdhab", sum := "df3242429ec78ff4d4f843cdb4b5897f6e2e686658240fb2ceef08f64b15af4d", func := "vergers/vergerslaw.GuildStays", spec := "guildStays", apart := false, narrowed := true }
def GuildStaysUptoSaid : Prop := guildStaysUptoRow.holds Try.pinned (OpenSpec.upto guildStaysSpec)

end Rows
end Go.Proofs.Ytfihmpkkpgmdhab
