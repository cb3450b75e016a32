/-
  No cell of these rows narrows 'for every input' (looked for: loops, veiled, ifaces, maps, wideKeys, modest, calm, conditions, laid).
  DERIVED. THE GIVEN ROWS OF THIS SEAT. 10 by the template 'for every input the law returns true; each argument reads behind the call as it read before'; 0 by the template 'total and deterministic' (their statements: YtfihmpkkpgmdhaaTotals.lean).
  GIVEN WITH THE SEED: the statements are not yours to turn. If you find one false, say at which input.
  Laid BY PROGRAM, IN A SANDBOX (cutbox-rows.mjs): the forced cells as the released guide's own fill.sh prints them over the translation 97b0d65c7056260c… (all of the seat's roots in one cut). By AI agents, Wed Nov 11 2026. No macro, syntax, notation, axiom, sorry.
-/
import Derived.Test.YtfihmpkkpgmdhaaChecked
import GoSem.Claim
import GoSem.ClaimJoined
import GoSem.ClaimMapViews
import Derived.JoinedTies
import Derived.KernelRfl
namespace Go.Proofs.Ytfihmpkkpgmdhaa
/- THE CELL 'sum', in the pinned program and in every row, IS THE sha256 OF THE DUMP (.gsa) THAT YtfihmpkkpgmdhaaProg.lean LOADS. Nothing in Lean hashes anything: it is a label: what it is worth is what the hold of that sum in a sandbox is worth. -/
noncomputable def Try.pinned : Pinned := { name := "ytfihmpkkpgmdhaa", sum := "97b0d65c7056260c98e6fa9d41183ee4ad5c541fcec1aecc6d47638df71b3d8b", checked := Try.checked }
namespace Rows
def none {H : Type} : Left H := { results := [], args := [] }

/-- 'vergerslaw.DiskDoes': WHATEVER THE INPUT: true; the input reads as it did. -/
def diskDoesSpec : ChangeSpec := { name := "diskDoes", fn := fun _ => fun
  | [d] => { results := [.lit (.bool true)], args := [d] }
  | _ => none }
def diskDoesRow : OpenClaim := { program := "ytfihmpkkpgmdhaa", sum := "97b0d65c7056260c98e6fa9d41183ee4ad5c541fcec1aecc6d47638df71b3d8b", func := "vergers/vergerslaw.DiskDoes", spec := "diskDoes", apart := false }
def DiskDoesSaid : Prop := diskDoesRow.holds Try.pinned (OpenSpec.ofChange diskDoesSpec)

/-- ITS FALSE NEIGHBOUR: 'it returns false'. Refute it at one input. -/
def diskDoesWrong : ChangeSpec := { name := "diskDoes", fn := fun _ => fun
  | [d] => { results := [.lit (.bool false)], args := [d] }
  | _ => none }
def DiskDoesWrongFalsely : Prop := diskDoesRow.holds Try.pinned (OpenSpec.ofChange diskDoesWrong)

/-- 'vergerslaw.DiskFence': WHATEVER THE INPUT: true; the input reads as it did. -/
def diskFenceSpec : ChangeSpec := { name := "diskFence", fn := fun _ => fun
  | [d1, d2] => { results := [.lit (.bool true)], args := [d1, d2] }
  | _ => none }
def diskFenceRow : OpenClaim := { program := "ytfihmpkkpgmdhaa", sum := "97b0d65c7056260c98e6fa9d41183ee4ad5c541fcec1aecc6d47638df71b3d8b", func := "vergers/vergerslaw.DiskFence", spec := "diskFence", apart := false }
def DiskFenceSaid : Prop := diskFenceRow.holds Try.pinned (OpenSpec.ofChange diskFenceSpec)

/-- ITS FALSE NEIGHBOUR: 'it returns false'. Refute it at one input. -/
def diskFenceWrong : ChangeSpec := { name := "diskFence", fn := fun _ => fun
  | [d1, d2] => { results := [.lit (.bool false)], args := [d1, d2] }
  | _ => none }
def DiskFenceWrongFalsely : Prop := diskFenceRow.holds Try.pinned (OpenSpec.ofChange diskFenceWrong)

/-- 'vergerslaw.DiskKeeps': WHATEVER THE INPUT: true; the input reads as it did. -/
def diskKeepsSpec : ChangeSpec := { name := "diskKeeps", fn := fun _ => fun
  | [d] => { results := [.lit (.bool true)], args := [d] }
  | _ => none }
def diskKeepsRow : OpenClaim := { program := "ytfihmpkkpgmdhaa", sum := "97b0d65c7056260c98e6fa9d41183ee4ad5c541fcec1aecc6d47638df71b3d8b", func := "vergers/vergerslaw.DiskKeeps", spec := "diskKeeps", apart := false }
def DiskKeepsSaid : Prop := diskKeepsRow.holds Try.pinned (OpenSpec.ofChange diskKeepsSpec)

/-- ITS FALSE NEIGHBOUR: 'it returns false'. Refute it at one input. -/
def diskKeepsWrong : ChangeSpec := { name := "diskKeeps", fn := fun _ => fun
  | [d] => { results := [.lit (.bool false)], args := [d] }
  | _ => none }
def DiskKeepsWrongFalsely : Prop := diskKeepsRow.holds Try.pinned (OpenSpec.ofChange diskKeepsWrong)

/-- 'vergerslaw.CodecDoes': WHATEVER THE INPUT: true; the input reads as it did. -/
def codecDoesSpec : ChangeSpec := { name := "codecDoes", fn := fun _ => fun
  | [d1, d2] => { results := [.lit (.bool true)], args := [d1, d2] }
  | _ => none }
def codecDoesRow : OpenClaim := { program := "ytfihmpkkpgmdhaa", sum := "97b0d65c7056260c98e6fa9d41183ee4ad5c541fcec1aecc6d47638df71b3d8b", func := "vergers/vergerslaw.CodecDoes", spec := "codecDoes", apart := false }
def CodecDoesSaid : Prop := codecDoesRow.holds Try.pinned (OpenSpec.ofChange codecDoesSpec)

/-- ITS FALSE NEIGHBOUR: 'it returns false'. Refute it at one input. -/
def codecDoesWrong : ChangeSpec := { name := "codecDoes", fn := fun _ => fun
  | [d1, d2] => { results := [.lit (.bool false)], args := [d1, d2] }
  | _ => none }
def CodecDoesWrongFalsely : Prop := codecDoesRow.holds Try.pinned (OpenSpec.ofChange codecDoesWrong)

/-- 'vergerslaw.CodecBack': WHATEVER THE INPUT: true; the input reads as it did. -/
def codecBackSpec : ChangeSpec := { name := "codecBack", fn := fun _ => fun
  | [d1, d2, d3] => { results := [.lit (.bool true)], args := [d1, d2, d3] }
  | _ => none }
def codecBackRow : OpenClaim := { program := "ytfihmpkkpgmdhaa", sum := "97b0d65c7056260c98e6fa9d41183ee4ad5c541fcec1aecc6d47638df71b3d8b", func := "vergers/vergerslaw.CodecBack", spec := "codecBack", apart := false }
def CodecBackSaid : Prop := codecBackRow.holds Try.pinned (OpenSpec.ofChange codecBackSpec)

/-- ITS FALSE NEIGHBOUR: 'it returns false'. Refute it at one input. -/
def codecBackWrong : ChangeSpec := { name := "codecBack", fn := fun _ => fun
  | [d1, d2, d3] => { results := [.lit (.bool false)], args := [d1, d2, d3] }
  | _ => none }
def CodecBackWrongFalsely : Prop := codecBackRow.holds Try.pinned (OpenSpec.ofChange codecBackWrong)

/-- 'vergerslaw.CodecTurn': WHATEVER THE INPUT: true; the input reads as it did. -/
def codecTurnSpec : ChangeSpec := { name := "codecTurn", fn := fun _ => fun
  | [d1, d2, d3] => { results := [.lit (.bool true)], args := [d1, d2, d3] }
  | _ => none }
def codecTurnRow : OpenClaim := { program := "ytfihmpkkpgmdhaa", sum := "97b0d65c7056260c98e6fa9d41183ee4ad5c541fcec1aecc6d47638df71b3d8b", func := "vergers/vergerslaw.CodecTurn", spec := "codecTurn", apart := false }
def CodecTurnSaid : Prop := codecTurnRow.holds Try.pinned (OpenSpec.ofChange codecTurnSpec)

/-- ITS FALSE NEIGHBOUR: 'it returns false'. Refute it at one input. -/
def codecTurnWrong : ChangeSpec := { name := "codecTurn", fn := fun _ => fun
  | [d1, d2, d3] => { results := [.lit (.bool false)], args := [d1, d2, d3] }
  | _ => none }
def CodecTurnWrongFalsely : Prop := codecTurnRow.holds Try.pinned (OpenSpec.ofChange codecTurnWrong)

/-- 'vergerslaw.CodecCut': WHATEVER THE INPUT: true; the input reads as it did. -/
def codecCutSpec : ChangeSpec := { name := "codecCut", fn := fun _ => fun
  | [d1, d2] => { results := [.lit (.bool true)], args := [d1, d2] }
  | _ => none }
def codecCutRow : OpenClaim := { program := "ytfihmpkkpgmdhaa", sum := "97b0d65c7056260c98e6fa9d41183ee4ad5c541fcec1aecc6d47638df71b3d8b", func := "vergers/vergerslaw.CodecCut", spec := "codecCut", apart := false }
def CodecCutSaid : Prop := codecCutRow.holds Try.pinned (OpenSpec.ofChange codecCutSpec)

/-- ITS FALSE NEIGHBOUR: 'it returns false'. Refute it at one input. -/
def codecCutWrong : ChangeSpec := { name := "codecCut", fn := fun _ => fun
  | [d1, d2] => { results := [.lit (.bool false)], args := [d1, d2] }
  | _ => none }
def CodecCutWrongFalsely : Prop := codecCutRow.holds Try.pinned (OpenSpec.ofChange codecCutWrong)

/-- 'vergerslaw.JobsDoes': WHATEVER THE INPUT: true; the input reads as it did. -/
def jobsDoesSpec : ChangeSpec := { name := "jobsDoes", fn := fun _ => fun
  | [d1, d2] => { results := [.lit (.bool true)], args := [d1, d2] }
  | _ => none }
def jobsDoesRow : OpenClaim := { program := "ytfihmpkkpgmdhaa", sum := "97b0d65c7056260c98e6fa9d41183ee4ad5c541fcec1aecc6d47638df71b3d8b", func := "vergers/vergerslaw.JobsDoes", spec := "jobsDoes", apart := false }
def JobsDoesSaid : Prop := jobsDoesRow.holds Try.pinned (OpenSpec.ofChange jobsDoesSpec)

/-- ITS FALSE NEIGHBOUR: 'it returns false'. Refute it at one input. -/
def jobsDoesWrong : ChangeSpec := { name := "jobsDoes", fn := fun _ => fun
  | [d1, d2] => { results := [.lit (.bool false)], args := [d1, d2] }
  | _ => none }
def JobsDoesWrongFalsely : Prop := jobsDoesRow.holds Try.pinned (OpenSpec.ofChange jobsDoesWrong)

/-- 'vergerslaw.JobsTries': WHATEVER THE INPUT: true; the input reads as it did. -/
def jobsTriesSpec : ChangeSpec := { name := "jobsTries", fn := fun _ => fun
  | [d] => { results := [.lit (.bool true)], args := [d] }
  | _ => none }
def jobsTriesRow : OpenClaim := { program := "ytfihmpkkpgmdhaa", sum := "97b0d65c7056260c98e6fa9d41183ee4ad5c541fcec1aecc6d47638df71b3d8b", func := "vergers/vergerslaw.JobsTries", spec := "jobsTries", apart := false }
def JobsTriesSaid : Prop := jobsTriesRow.holds Try.pinned (OpenSpec.ofChange jobsTriesSpec)

/-- ITS FALSE NEIGHBOUR: 'it returns false'. Refute it at one input. -/
def jobsTriesWrong : ChangeSpec := { name := "jobsTries", fn := fun _ => fun
  | [d] => { results := [.lit (.bool false)], args := [d] }
  | _ => none }
def JobsTriesWrongFalsely : Prop := jobsTriesRow.holds Try.pinned (OpenSpec.ofChange jobsTriesWrong)

/-- 'vergerslaw.JobsDone': WHATEVER THE INPUT: true; the input reads as it did. -/
def jobsDoneSpec : ChangeSpec := { name := "jobsDone", fn := fun _ => fun
  | [d] => { results := [.lit (.bool true)], args := [d] }
  | _ => none }
def jobsDoneRow : OpenClaim := { program := "ytfihmpkkpgmdhaa", sum := "97b0d65c7056260c98e6fa9d41183ee4ad5c541fcec1aecc6d47638df71b3d8b", func := "vergers/vergerslaw.JobsDone", spec := "jobsDone", apart := false }
def JobsDoneSaid : Prop := jobsDoneRow.holds Try.pinned (OpenSpec.ofChange jobsDoneSpec)

/-- ITS FALSE NEIGHBOUR: 'it returns false'. Refute it at one input. -/
def jobsDoneWrong : ChangeSpec := { name := "jobsDone", fn := fun _ => fun
  | [d] => { results := [.lit (.bool false)], args := [d] }
  | _ => none }
def JobsDoneWrongFalsely : Prop := jobsDoneRow.holds Try.pinned (OpenSpec.ofChange jobsDoneWrong)

/- THE SECOND FORM. 'bulk': how many values and letters a reading holds, each counted each time it is reached (what is shared counts as often as it is met; a slice's spare places count too). A statement '..UptoSaid' is the law's where the arguments, and the package variables that the reading takes, are together of bulk at most 1048576: NARROWER than '..Said'. Prove '..Said' where nothing that the law and all that it calls make is longer than what came in: it says more and counts as full. Else prove '..UptoSaid'. A law counts once. -/
mutual
def uptoBulk {H : Type} : DataW H → Nat
  | .lit (.string bytes) => bytes.length + 1
  | .lit _ => 1
  | .nil => 1
  | .ptr d => uptoBulk d + 1
  | .slice elems spare => uptoBulkAll elems + uptoBulkAll spare + 1
  | .agg parts => uptoBulkAll parts + 1
  | .iface _ d => uptoBulk d + 1
  | .map entries => uptoBulkEntries entries + 1
  | .held _ => 1
def uptoBulkAll {H : Type} : List (DataW H) → Nat
  | [] => 0
  | d :: r => uptoBulk d + uptoBulkAll r
def uptoBulkEntries {H : Type} : List (Lit × DataW H) → Nat
  | [] => 0
  | x :: r => uptoBulkEntry x + uptoBulkEntries r
def uptoBulkEntry {H : Type} : Lit × DataW H → Nat
  | (.string bytes, d) => bytes.length + uptoBulk d + 1
  | (_, d) => uptoBulk d + 1
 end
def uptoSmall : (H : Type) → List (DataW H) → Bool := fun _ ds => decide (uptoBulkAll ds ≤ 1048576)
def OpenSpec.upto (s : _root_.Go.ChangeSpec) : _root_.Go.OpenSpec := { _root_.Go.OpenSpec.ofChange s with cond := some uptoSmall }

/-- 'vergerslaw.DiskDoes', WHERE WHAT IT READS IS OF BULK AT MOST 1048576: true; the input reads as it did. -/
def diskDoesUptoRow : OpenClaim := { program := "ytfihmpkkpgmdhaa", sum := "97b0d65c7056260c98e6fa9d41183ee4ad5c541fcec1aecc6d47638df71b3d8b", func := "vergers/vergerslaw.DiskDoes", spec := "diskDoes", apart := false, narrowed := true }
def DiskDoesUptoSaid : Prop := diskDoesUptoRow.holds Try.pinned (OpenSpec.upto diskDoesSpec)

/-- 'vergerslaw.DiskFence', WHERE WHAT IT READS IS OF BULK AT MOST 1048576: true; the input reads as it did. -/
def diskFenceUptoRow : OpenClaim := { program := "ytfihmpkkpgmdhaa", sum := "97b0d65c7056260c98e6fa9d41183ee4ad5c541fcec1aecc6d47638df71b3d8b", func := "vergers/vergerslaw.DiskFence", spec := "diskFence", apart := false, narrowed := true }
def DiskFenceUptoSaid : Prop := diskFenceUptoRow.holds Try.pinned (OpenSpec.upto diskFenceSpec)

/-- 'vergerslaw.DiskKeeps', WHERE WHAT IT READS IS OF BULK AT MOST 1048576: true; the input reads as it did. -/
def diskKeepsUptoRow : OpenClaim := { program := "ytfihmpkkpgmdhaa", sum := "97b0d65c7056260c98e6fa9d41183ee4ad5c541fcec1aecc6d47638df71b3d8b", func := "vergers/vergerslaw.DiskKeeps", spec := "diskKeeps", apart := false, narrowed := true }
def DiskKeepsUptoSaid : Prop := diskKeepsUptoRow.holds Try.pinned (OpenSpec.upto diskKeepsSpec)

/-- 'vergerslaw.CodecDoes', WHERE WHAT IT READS IS OF BULK AT MOST 1048576: true; the input reads as it did. -/
def codecDoesUptoRow : OpenClaim := { program := "ytfihmpkkpgmdhaa", sum := "97b0d65c7056260c98e6fa9d41183ee4ad5c541fcec1aecc6d47638df71b3d8b", func := "vergers/vergerslaw.CodecDoes", spec := "codecDoes", apart := false, narrowed := true }
def CodecDoesUptoSaid : Prop := codecDoesUptoRow.holds Try.pinned (OpenSpec.upto codecDoesSpec)

/-- 'vergerslaw.CodecBack', WHERE WHAT IT READS IS OF BULK AT MOST 1048576: true; the input reads as it did. -/
def codecBackUptoRow : OpenClaim := { program := "ytfihmpkkpgmdhaa", sum := "97b0d65c7056260c98e6fa9d41183ee4ad5c541fcec1aecc6d47638df71b3d8b", func := "vergers/vergerslaw.CodecBack", spec := "codecBack", apart := false, narrowed := true }
def CodecBackUptoSaid : Prop := codecBackUptoRow.holds Try.pinned (OpenSpec.upto codecBackSpec)

/-- 'vergerslaw.CodecTurn', WHERE WHAT IT READS IS OF BULK AT MOST 1048576: true; the input reads as it did. -/
def codecTurnUptoRow : OpenClaim := { program := "ytfihmpkkpgmdhaa", sum := "97b0d65c7056260c98e6fa9d41183ee4ad5c541fcec1aecc6d47638df71b3d8b", func := "vergers/vergerslaw.CodecTurn", spec := "codecTurn", apart := false, narrowed := true }
def CodecTurnUptoSaid : Prop := codecTurnUptoRow.holds Try.pinned (OpenSpec.upto codecTurnSpec)

/-- 'vergerslaw.CodecCut', WHERE WHAT IT READS IS OF BULK AT MOST 1048576: true; the input reads as it did. -/
def codecCutUptoRow : OpenClaim := { program := "ytfihmpkkpgmdhaa", sum := "97b0d65c7056260c98e6fa9d41183ee4ad5c541fcec1aecc6d47638df71b3d8b", func := "vergers/vergerslaw.CodecCut", spec := "codecCut", apart := false, narrowed := true }
def CodecCutUptoSaid : Prop := codecCutUptoRow.holds Try.pinned (OpenSpec.upto codecCutSpec)

/-- 'vergerslaw.JobsDoes', WHERE WHAT IT READS IS OF BULK AT MOST 1048576: true; the input reads as it did. -/
def jobsDoesUptoRow : OpenClaim := { program := "ytfihmpkkpgmdhaa", sum := "97b0d65c7056260c98e6fa9d41183ee4ad5c541fcec1aecc6d47638df71b3d8b", func := "vergers/vergerslaw.JobsDoes", spec := "jobsDoes", apart := false, narrowed := true }
def JobsDoesUptoSaid : Prop := jobsDoesUptoRow.holds Try.pinned (OpenSpec.upto jobsDoesSpec)

/-- 'vergerslaw.JobsTries', WHERE WHAT IT READS IS OF BULK AT MOST 1048576: true; the input reads as it did. -/
def jobsTriesUptoRow : OpenClaim := { program := "ytfihmpkkpgmdhaa", sum := "97b0d65c7056260c98e6fa9d41183ee4ad5c541fcec1aecc6d47638df71b3d8b", func := "vergers/vergerslaw.JobsTries", spec := "jobsTries", apart := false, narrowed := true }
def JobsTriesUptoSaid : Prop := jobsTriesUptoRow.holds Try.pinned (OpenSpec.upto jobsTriesSpec)

/-- 'vergerslaw.JobsDone', WHERE WHAT IT READS IS OF BULK AT MOST 1048576: true; the input reads as it did. -/
def jobsDoneUptoRow : OpenClaim := { program := "ytfihmpkkpgmdhaa", sum := "97b0d65c7056260c98e6fa9d41183ee4ad5c541fcec1aecc6d47638df71b3d8b", func := "vergers/vergerslaw.JobsDone", spec := "jobsDone", apart := false, narrowed := true }
def JobsDoneUptoSaid : Prop := jobsDoneUptoRow.holds Try.pinned (OpenSpec.upto jobsDoneSpec)

end Rows
end Go.Proofs.Ytfihmpkkpgmdhaa
