/-
  What comes in: orders.
-/
import Derived.Test.YtfihmpkkpgmdhaaView2
import Derived.Test.YtfihmpkkpgmdhaaJobsLaw
namespace Go.Proofs.Ytfihmpkkpgmdhaa
set_option linter.unusedSimpArgs false
set_option linter.unusedVariables false
open Go.RowKit Go.ChangeShapes Go.WideShapes Go.Deep
def Ord.ints (r : Ord) : List Int := [r.kind, r.now, r.job, r.tr, r.wk, r.tm]
theorem Ord.ints_cells (r : Ord) : ivs r.ints = ocells r := rfl
theorem ord_of {z : List Int} (h : z.length = 6) : ∃ r : Ord, z = r.ints := by
  match z, h with
  | [b, c, d, e, f, g], _ => exact ⟨⟨b, c, d, e, f, g⟩, rfl⟩
theorem ords_of : ∀ (zs : List (List Int)), (∀ z ∈ zs, z.length = 6) → ∃ l : List Ord, zs = l.map Ord.ints
  | [], _ => ⟨[], rfl⟩
  | z :: zs, h => by
    obtain ⟨r, rfl⟩ := ord_of (h z (by simp))
    obtain ⟨l, rfl⟩ := ords_of zs fun z hz => h z (by simp [hz])
    exact ⟨r :: l, rfl⟩
theorem ords_cells (l : List Ord) : (l.map Ord.ints).flatMap ivs = ovs l := by
  induction l with
  | nil => rfl
  | cons r l ih => simp only [List.map_cons, List.flatMap_cons, ih]; rfl
section
variable {H : Type} {enc : TypeId × Value → H} {w : World} {base : Nat} {spare : Nat → Bool} {held : Bool}
theorem ordsAt_of {fuel : Nat} {a : Option Addr} {len cap : Nat} {x : DataW H × List MemPlace} (h : DataW.trod enc Try.prog w base spare held fuel 58 [.slice a len cap] = some x) :
    ∃ l : List Ord, l.length = len ∧ (∀ r ∈ l, ∀ n ∈ r.ints, I64' n) ∧ RowAt w (.slice a len cap) l.length (ovs l) := by
  obtain ⟨zs, hl, hz, hr⟩ := row_of (d := 5) Try.underlying58 (by kernel_rfl) (show Try.prog.cellsOf 42 = 6 by kernel_rfl) (by decide) h
  obtain ⟨l, rfl⟩ := ords_of zs fun z h => (hz z h).1
  rw [ords_cells] at hr
  simp only [List.length_map] at hl
  subst hl
  exact ⟨l, rfl, fun r hr' n hn => (hz r.ints (List.mem_map.2 ⟨r, hr', rfl⟩)).2 n hn, hr⟩
end
end Go.Proofs.Ytfihmpkkpgmdhaa
