/-
  Events in memory; what comes in: events.
-/
import Derived.Test.YtfihmpkkpgmdhabView2
import Derived.Test.YtfihmpkkpgmdhabCodecG
import Derived.Test.YtfihmpkkpgmdhabJobsG
import Derived.Test.YtfihmpkkpgmdhabPlainN
namespace Go.Proofs.Ytfihmpkkpgmdhab
set_option linter.unusedSimpArgs false
set_option linter.unusedVariables false
open Go.RowKit Go.ChangeShapes Go.WideShapes Go.Deep
def Ev.ints (e : Ev) : List Int := [e.r.ep, e.r.o.kind, e.r.o.now, e.r.o.job, e.r.o.tr, e.r.o.wk, e.r.o.tm, e.a.code, e.a.job, e.a.tr, e.j.st, e.j.wk, e.j.tr, e.j.un]
def evcells (e : Ev) : List Value := ivs e.ints
def evvs (l : List Ev) : List Value := l.flatMap evcells
theorem evcells_length (e : Ev) : (evcells e).length = 14 := rfl
theorem evvs_append (l m : List Ev) : evvs (l ++ m) = evvs l ++ evvs m := by simp [evvs]
theorem evvs_length (l : List Ev) : (evvs l).length = l.length * 14 := by
  induction l with
  | nil => rfl
  | cons e l ih => simp only [evvs, List.flatMap_cons, List.length_append, evcells_length, List.length_cons] at *; omega
theorem evvs_get (l : List Ev) : ∀ (i j : Nat), j < 14 → (evvs l)[i * 14 + j]? = (l[i]?).bind fun r => (evcells r)[j]? := by
  induction l with
  | nil => intro i j _; simp [evvs]
  | cons r l ih =>
    intro i j hj
    have e : evvs (r :: l) = evcells r ++ evvs l := by simp [evvs]
    rw [e]
    cases i with
    | zero => rw [List.getElem?_append_left (by rw [evcells_length]; omega)]; simp
    | succ i =>
      rw [List.getElem?_append_right (by rw [evcells_length]; omega), evcells_length, show (i + 1) * 14 + j - 14 = i * 14 + j by omega, ih i j hj]
      simp
theorem evvs_cell {w : World} {g off : Nat} {l : List Ev} (h : ∀ j u, (evvs l)[j]? = some u → w.cell? ⟨g, off + j, none⟩ = some u) {i : Nat} {r : Ev} (hi : l[i]? = some r) (j : Nat) (u : Value) (hj : j < 14) (hu : (evcells r)[j]? = some u) : w.cell? ⟨g, off + i * 14 + j, none⟩ = some u := by
  rw [Nat.add_assoc]
  refine h _ _ ?_
  rw [evvs_get l i j hj, hi]
  exact hu
theorem ivs_ones (z : List Int) : Ones (ivs z) := fun u hu => by
  simp only [ivs, List.mem_map] at hu
  obtain ⟨n, _, rfl⟩ := hu
  rfl
theorem evvs_ones (l : List Ev) : Ones (evvs l) := fun u hu => by
  simp only [evvs, List.mem_flatMap] at hu
  obtain ⟨e, _, hu⟩ := hu
  exact ivs_ones _ u hu
def sevs (v : Value) (l : List Ev) : HP := rw_ 50 14 v l.length (evvs l)
theorem Holds.nilE {w : World} {A : HP} (h : Holds w A) : Holds w (sevs (.slice none 0 0) [] * A) := h.nilRow _ _
theorem ev_of {z : List Int} (h : z.length = 14) : ∃ r : Ev, z = r.ints := by
  match z, h with
  | [a, b, c, d, e, f, g, h, i, j, k, l, m, n], _ => exact ⟨⟨⟨a, ⟨b, c, d, e, f, g⟩⟩, ⟨h, i, j⟩, ⟨k, l, m, n⟩⟩, rfl⟩
theorem evl_of : ∀ (zs : List (List Int)), (∀ z ∈ zs, z.length = 14) → ∃ l : List Ev, zs = l.map Ev.ints
  | [], _ => ⟨[], rfl⟩
  | z :: zs, h => by
    obtain ⟨r, rfl⟩ := ev_of (h z (by simp))
    obtain ⟨l, rfl⟩ := evl_of zs fun z hz => h z (by simp [hz])
    exact ⟨r :: l, rfl⟩
theorem evl_cells (l : List Ev) : (l.map Ev.ints).flatMap ivs = evvs l := by
  induction l with
  | nil => rfl
  | cons r l ih => simp only [List.map_cons, List.flatMap_cons, ih]; rfl
section
variable {H : Type} {enc : TypeId × Value → H} {w : World} {base : Nat} {spare : Nat → Bool} {held : Bool}
theorem seventsAt_of {fuel : Nat} {a : Option Addr} {len cap : Nat} {x : DataW H × List MemPlace} (h : DataW.trod enc Try.prog w base spare held fuel 45 [.slice a len cap] = some x) :
    ∃ l : List Ev, l.length = len ∧ RowAt w (.slice a len cap) l.length (evvs l) := by
  obtain ⟨zs, hl, hz, hr⟩ := row_of (d := 5) Try.underlying45 (by kernel_rfl) (show Try.prog.cellsOf 50 = 14 by kernel_rfl) (by decide) h
  obtain ⟨l, rfl⟩ := evl_of zs fun z h => (hz z h).1
  rw [evl_cells] at hr
  simp only [List.length_map] at hl
  subst hl
  exact ⟨l, rfl, hr⟩
end
end Go.Proofs.Ytfihmpkkpgmdhab
