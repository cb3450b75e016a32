/-
  What comes in: steps of a guild.
-/
import Derived.Test.YtfihmpkkpgmdhacStpV
import Derived.Test.YtfihmpkkpgmdhacGuildM
namespace Go.Proofs.Ytfihmpkkpgmdhac
set_option linter.unusedSimpArgs false
set_option linter.unusedVariables false
open Go.RowKit Go.ChangeShapes Go.WideShapes Go.Deep
section
variable {H : Type} {enc : TypeId × Value → H} {w : World} {base : Nat} {spare : Nat → Bool} {held : Bool}
theorem gstepsAt_of {fuel : Nat} {a : Option Addr} {len cap : Nat} {x : DataW H × List MemPlace} (h : DataW.trod enc Try.prog w base spare held fuel 22 [.slice a len cap] = some x) :
    ∃ l : List Stp, l.length = len ∧ (∀ r ∈ l, ∀ n ∈ r.ints, I64' n) ∧ RowAt w (.slice a len cap) l.length (svs l) := by
  obtain ⟨zs, hl, hz, hr⟩ := row_of (d := 5) Try.underlying22 (by kernel_rfl) (show Try.prog.cellsOf 30 = 9 by kernel_rfl) (by decide) h
  obtain ⟨l, rfl⟩ := stps_of zs fun z h => (hz z h).1
  rw [stps_cells] at hr
  simp only [List.length_map] at hl
  subst hl
  exact ⟨l, rfl, fun r hr' n hn => (hz r.ints (List.mem_map.2 ⟨r, hr', rfl⟩)).2 n hn, hr⟩
end
end Go.Proofs.Ytfihmpkkpgmdhac
