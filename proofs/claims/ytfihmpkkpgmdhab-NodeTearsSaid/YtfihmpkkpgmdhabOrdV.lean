/-
  What comes in: an order, by value.
-/
import Derived.Test.YtfihmpkkpgmdhabView2
import Derived.Test.YtfihmpkkpgmdhabJobsG
namespace Go.Proofs.Ytfihmpkkpgmdhab
set_option maxRecDepth 100000
set_option linter.unusedSimpArgs false
set_option linter.unusedVariables false
open Go.RowKit Go.ChangeShapes Go.WideShapes Go.Deep
def Ord.nums (r : Ord) : List Int := [r.kind, r.now, r.job, r.tr, r.wk, r.tm]
theorem ordn_of {z : List Int} (h : z.length = 6) : ∃ r : Ord, z = r.nums := by
  match z, h with
  | [b, c, d, e, f, g], _ => exact ⟨⟨b, c, d, e, f, g⟩, rfl⟩
section
variable {H : Type} {enc : TypeId × Value → H} {w : World} {base : Nat} {spare : Nat → Bool} {held : Bool}
/-- An order by value. -/
theorem ordVal_of {v : Value} {d : DataW H} {ps : List MemPlace} {r : Reach} {b0 : Nat} (hval : Value.okWide Try.prog w r b0 35 v) (h : DataW.Trod enc Try.prog w base spare held 35 v d ps) :
    ∃ q : Ord, v = .agg (ivs q.nums).toArray ∧ ∀ n ∈ q.nums, I64' n := by
  obtain ⟨cs, rfl, hcs⟩ := okWide_struct Try.underlying35 hval
  obtain ⟨fuel, hf⟩ := h
  have hf' : DataW.trod enc Try.prog w base spare held fuel 35 cs.toList = some (d, ps) := by simpa [Value.cells] using hf
  obtain ⟨z, hz, hzi⟩ := ints_of cs.toList (flat_ints 5 35 (by kernel_rfl) hf')
  have h7 : Try.prog.cellsOf 35 = 6 := by kernel_rfl
  have hl : z.length = 6 := by
    have := congrArg List.length hz
    simp [ivs] at this; omega
  obtain ⟨q, rfl⟩ := ordn_of hl
  refine ⟨q, ?_, hzi⟩
  congr 1
  rw [← hz]
end
end Go.Proofs.Ytfihmpkkpgmdhab
