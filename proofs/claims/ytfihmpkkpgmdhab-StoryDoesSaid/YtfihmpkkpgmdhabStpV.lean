/-
  What comes in: steps; the first of records.
-/
import Derived.Test.YtfihmpkkpgmdhabView2
import Derived.Test.YtfihmpkkpgmdhabCodecG
import Derived.Test.YtfihmpkkpgmdhabJobsG
import Derived.Test.YtfihmpkkpgmdhabPlainM
namespace Go.Proofs.Ytfihmpkkpgmdhab
set_option linter.unusedSimpArgs false
set_option linter.unusedVariables false
open Go.RowKit Go.ChangeShapes Go.WideShapes Go.Deep
def Stp.ints (r : Stp) : List Int := [r.kind, r.n, r.keep, r.o.kind, r.o.now, r.o.job, r.o.tr, r.o.wk, r.o.tm]
def stcells (r : Stp) : List Value := ivs r.ints
def svs (l : List Stp) : List Value := l.flatMap stcells
theorem stcells_length (r : Stp) : (stcells r).length = 9 := rfl
theorem svs_get (l : List Stp) : ∀ (i j : Nat), j < 9 → (svs l)[i * 9 + j]? = (l[i]?).bind fun r => (stcells r)[j]? := by
  induction l with
  | nil => intro i j _; simp [svs]
  | cons r l ih =>
    intro i j hj
    have e : svs (r :: l) = stcells r ++ svs l := by simp [svs]
    rw [e]
    cases i with
    | zero => rw [List.getElem?_append_left (by rw [stcells_length]; omega)]; simp
    | succ i =>
      rw [List.getElem?_append_right (by rw [stcells_length]; omega), stcells_length, show (i + 1) * 9 + j - 9 = i * 9 + j by omega, ih i j hj]
      simp
theorem svs_cell {w : World} {g off : Nat} {l : List Stp} (h : ∀ j u, (svs l)[j]? = some u → w.cell? ⟨g, off + j, none⟩ = some u) {i : Nat} {r : Stp} (hi : l[i]? = some r) (j : Nat) (u : Value) (hj : j < 9) (hu : (stcells r)[j]? = some u) : w.cell? ⟨g, off + i * 9 + j, none⟩ = some u := by
  rw [Nat.add_assoc]
  refine h _ _ ?_
  rw [svs_get l i j hj, hi]
  exact hu
/-- A step that came in, in any world where all that there was stands. -/
theorem stp_cells {w : World} {g off n c : Nat} {l : List Stp} (h : RowAt w (.slice (some ⟨g, off, none⟩) n c) l.length (svs l)) {i : Nat} {o : Stp} (hi : l[i]? = some o) {W : World} {A : HP} (hW : Holds W (A * old w)) :
    W.cell? ⟨g, off + i * 9, none⟩ = some (.int .i64 o.kind) ∧ W.cell? ⟨g, off + i * 9 + 1, none⟩ = some (.int .i64 o.n) ∧ W.cell? ⟨g, off + i * 9 + 2, none⟩ = some (.int .i64 o.keep) ∧ W.cell? ⟨g, off + i * 9 + 3, none⟩ = some (.int .i64 o.o.kind) ∧ W.cell? ⟨g, off + i * 9 + 4, none⟩ = some (.int .i64 o.o.now) ∧ W.cell? ⟨g, off + i * 9 + 5, none⟩ = some (.int .i64 o.o.job) ∧ W.cell? ⟨g, off + i * 9 + 6, none⟩ = some (.int .i64 o.o.tr) ∧ W.cell? ⟨g, off + i * 9 + 7, none⟩ = some (.int .i64 o.o.wk) ∧ W.cell? ⟨g, off + i * 9 + 8, none⟩ = some (.int .i64 o.o.tm) := by
  have hl : l.length ≠ 0 := by
    intro e
    have := (List.getElem?_eq_some_iff.1 hi).1
    omega
  obtain ⟨g', off', c', e, _, _, hc⟩ := (h.old hW).get hl
  simp only [Value.slice.injEq, Option.some.injEq, Addr.mk.injEq, and_true] at e
  obtain ⟨⟨rfl, rfl⟩, _, rfl⟩ := e
  exact ⟨svs_cell hc hi 0 _ (by omega) rfl, svs_cell hc hi 1 _ (by omega) rfl, svs_cell hc hi 2 _ (by omega) rfl, svs_cell hc hi 3 _ (by omega) rfl, svs_cell hc hi 4 _ (by omega) rfl, svs_cell hc hi 5 _ (by omega) rfl, svs_cell hc hi 6 _ (by omega) rfl, svs_cell hc hi 7 _ (by omega) rfl, svs_cell hc hi 8 _ (by omega) rfl⟩
theorem stp_of {z : List Int} (h : z.length = 9) : ∃ r : Stp, z = r.ints := by
  match z, h with
  | [a, b, c, d, e, f, g, i, j], _ => exact ⟨⟨a, b, c, ⟨d, e, f, g, i, j⟩⟩, rfl⟩
theorem stps_of : ∀ (zs : List (List Int)), (∀ z ∈ zs, z.length = 9) → ∃ l : List Stp, zs = l.map Stp.ints
  | [], _ => ⟨[], rfl⟩
  | z :: zs, h => by
    obtain ⟨r, rfl⟩ := stp_of (h z (by simp))
    obtain ⟨l, rfl⟩ := stps_of zs fun z hz => h z (by simp [hz])
    exact ⟨r :: l, rfl⟩
theorem stps_cells (l : List Stp) : (l.map Stp.ints).flatMap ivs = svs l := by
  induction l with
  | nil => rfl
  | cons r l ih => simp only [List.map_cons, List.flatMap_cons, ih]; rfl
theorem recs_take {w : World} {a : Option Addr} {n c : Nat} {l : List Rec} (h : RowAt w (.slice a n c) l.length (rvs l)) {q : Nat} (hq : q ≤ l.length) : RowAt w (.slice a q c) (l.take q).length (rvs (l.take q)) := by
  obtain ⟨a', c', e, h1, h2, h3, h4⟩ := h
  simp only [Value.slice.injEq] at e
  obtain ⟨rfl, _, rfl⟩ := e
  have hl : (l.take q).length = q := by simp; omega
  refine ⟨a, c, by rw [hl], by omega, h2, h3, fun hne => ?_⟩
  obtain ⟨g, off, rfl, h5⟩ := h4 (by omega)
  refine ⟨g, off, rfl, fun j u hu => h5 j u ?_⟩
  have e : rvs l = rvs (l.take q) ++ rvs (l.drop q) := by rw [← rvs_append, List.take_append_drop]
  rw [e, List.getElem?_append_left (List.getElem?_eq_some_iff.1 hu).1]
  exact hu
end Go.Proofs.Ytfihmpkkpgmdhab
