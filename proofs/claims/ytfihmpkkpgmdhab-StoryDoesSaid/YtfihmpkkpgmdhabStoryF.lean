/-
  The cells of an event.
-/
import Derived.Test.YtfihmpkkpgmdhabStoryA
import Derived.Test.YtfihmpkkpgmdhabStoryD
namespace Go.Proofs.Ytfihmpkkpgmdhab
set_option linter.unusedSimpArgs false
set_option linter.unusedVariables false
open Go.RowKit
theorem sev_cells {W : World} {g off n c i : Nat} {E : List Ev} {R : HP} (ep2 kd nw jb tr wk tm a0 a1 a2 s1 s2 s3 s4 : Int) (h : Holds W (sevs (.slice (some ⟨g, off, none⟩) n c) E * R)) (hi : E[i]? = some ⟨⟨ep2, ⟨kd, nw, jb, tr, wk, tm⟩⟩, ⟨a0, a1, a2⟩, ⟨s1, s2, s3, s4⟩⟩) : W.cell? ⟨g, off + i * 14, none⟩ = some (.int .i64 ep2) ∧ W.cell? ⟨g, off + i * 14 + 1, none⟩ = some (.int .i64 kd) ∧ W.cell? ⟨g, off + i * 14 + 2, none⟩ = some (.int .i64 nw) ∧ W.cell? ⟨g, off + i * 14 + 3, none⟩ = some (.int .i64 jb) ∧ W.cell? ⟨g, off + i * 14 + 4, none⟩ = some (.int .i64 tr) ∧ W.cell? ⟨g, off + i * 14 + 5, none⟩ = some (.int .i64 wk) ∧ W.cell? ⟨g, off + i * 14 + 6, none⟩ = some (.int .i64 tm) ∧ W.cell? ⟨g, off + i * 14 + 7, none⟩ = some (.int .i64 a0) ∧ W.cell? ⟨g, off + i * 14 + 8, none⟩ = some (.int .i64 a1) ∧ W.cell? ⟨g, off + i * 14 + 9, none⟩ = some (.int .i64 a2) ∧ W.cell? ⟨g, off + i * 14 + 10, none⟩ = some (.int .i64 s1) ∧ W.cell? ⟨g, off + i * 14 + 11, none⟩ = some (.int .i64 s2) ∧ W.cell? ⟨g, off + i * 14 + 12, none⟩ = some (.int .i64 s3) ∧ W.cell? ⟨g, off + i * 14 + 13, none⟩ = some (.int .i64 s4) := by
  have hn : E.length ≠ 0 := by intro e; have := (List.getElem?_eq_some_iff.1 hi).1; omega
  obtain ⟨g', off', c', e, _, _, hc⟩ := h.row.get hn
  simp only [Value.slice.injEq, Option.some.injEq, Addr.mk.injEq, and_true] at e
  obtain ⟨⟨rfl, rfl⟩, _, rfl⟩ := e
  exact ⟨evvs_cell0 hc hi, evvs_cell hc hi 1 _ (by omega) rfl, evvs_cell hc hi 2 _ (by omega) rfl, evvs_cell hc hi 3 _ (by omega) rfl, evvs_cell hc hi 4 _ (by omega) rfl, evvs_cell hc hi 5 _ (by omega) rfl, evvs_cell hc hi 6 _ (by omega) rfl, evvs_cell hc hi 7 _ (by omega) rfl, evvs_cell hc hi 8 _ (by omega) rfl, evvs_cell hc hi 9 _ (by omega) rfl, evvs_cell hc hi 10 _ (by omega) rfl, evvs_cell hc hi 11 _ (by omega) rfl, evvs_cell hc hi 12 _ (by omega) rfl, evvs_cell hc hi 13 _ (by omega) rfl⟩
theorem sev_shape {W : World} {v : Value} {E : List Ev} {R : HP} (h : Holds W (sevs v E * R)) {i : Nat} (hi : i < E.length) : ∃ g off c, v = .slice (some ⟨g, off, none⟩) E.length c := by
  obtain ⟨g, off, c, e, _⟩ := h.row.get (by omega)
  exact ⟨g, off, c, e⟩
end Go.Proofs.Ytfihmpkkpgmdhab
