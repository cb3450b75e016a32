/-
  Tables of jobs: contracts beside whatever else stands in memory; the orders that come in.
-/
import Derived.Test.YtfihmpkkpgmdhabBoard1
namespace Go.Proofs.Ytfihmpkkpgmdhab
set_option linter.unusedSimpArgs false
set_option linter.unusedVariables false
open Go.RowKit
/-- A table of the program's. -/
def tab (b : Nat) (t : Tbl) : HP := tb b 103 t
theorem Holds.tab {w : World} {b : Nat} {t : Tbl} {A : HP} (h : Holds w (tab b t * A)) : TableAt w b t := h.bl
theorem do_sl (b : Nat) (t : Tbl) (c n j r k m : Int) (w : World) {R : HP} (h : Holds w (tab b t * R)) (hok : t.Ok) :
    Calls Try.prog 19 #[.pointer (some ⟨b, 0, none⟩), .agg #[.int .i64 c, .int .i64 n, .int .i64 j, .int .i64 r, .int .i64 k, .int .i64 m]] w
      (Post w R (.agg #[.int .i64 (t.did ⟨c, n, j, r, k, m⟩).2.code, .int .i64 (t.did ⟨c, n, j, r, k, m⟩).2.job, .int .i64 (t.did ⟨c, n, j, r, k, m⟩).2.tr]) (tab b (t.did ⟨c, n, j, r, k, m⟩).1)) :=
  (do_any b t c n j r k m w h.tab hok).mono fun e w' ⟨he, hg, ht⟩ => ⟨he, Quiet.grown hg, Holds.grown h hg ht⟩
theorem new_sl (w : World) {R : HP} (h : Holds w R) : Calls Try.prog 16 #[] w (PostX w R (fun b : Nat => .pointer (some ⟨b, 0, none⟩)) fun b => tab b Tbl.zero) :=
  (new_any w).mono fun e w' ⟨b, he, hl, hb, ht⟩ => ⟨b, he, Quiet.below hb, h.newB hb ht hl⟩
theorem own_sl (b : Nat) (t : Tbl) (w : World) {R : HP} (h : Holds w (tab b t * R)) : Calls Try.prog 20 #[.pointer (some ⟨b, 0, none⟩)] w (PostX w (tab b t * R) (fun b : Nat => .pointer (some ⟨b, 0, none⟩)) fun b' => tab b' t) :=
  (own_any b t w h.tab).mono fun e w' ⟨b', he, hl, hb, ht⟩ => ⟨b', he, Quiet.below hb, h.newB hb ht hl⟩
theorem now_sl (b : Nat) (t : Tbl) (w : World) {R : HP} (h : Holds w (tab b t * R)) : Calls Try.prog 17 #[.pointer (some ⟨b, 0, none⟩)] w fun e w' => e = .returned (.int .i64 t.now) ∧ w = w' := now_any b t w h.tab
theorem job_sl (b : Nat) (t : Tbl) (n : Int) (w : World) {R : HP} (h : Holds w (tab b t * R)) : Calls Try.prog 18 #[.pointer (some ⟨b, 0, none⟩), .int .i64 n] w fun e w' => e = .returned (t.job n).val ∧ Below w.heap.size w w' := job_any b t n w h.tab

def acells (a : Ans) : List Value := [.int .i64 a.code, .int .i64 a.job, .int .i64 a.tr]
/-- The cells of orders. -/
def ovs (l : List Ord) : List Value := l.flatMap ocells
theorem ocells_length (o : Ord) : (ocells o).length = 6 := rfl
theorem ovs_get (l : List Ord) : ∀ (i j : Nat), j < 6 → (ovs l)[i * 6 + j]? = (l[i]?).bind fun r => (ocells r)[j]? := by
  induction l with
  | nil => intro i j _; simp [ovs]
  | cons r l ih =>
    intro i j hj
    have e : ovs (r :: l) = ocells r ++ ovs l := by simp [ovs]
    rw [e]
    cases i with
    | zero => rw [List.getElem?_append_left (by rw [ocells_length]; omega)]; simp
    | succ i =>
      rw [List.getElem?_append_right (by rw [ocells_length]; omega), ocells_length, show (i + 1) * 6 + j - 6 = i * 6 + j by omega, ih i j hj]
      simp
theorem ovs_cell {w : World} {g off : Nat} {l : List Ord} (h : ∀ j u, (ovs l)[j]? = some u → w.cell? ⟨g, off + j, none⟩ = some u) {i : Nat} {r : Ord} (hi : l[i]? = some r) (j : Nat) (u : Value) (hj : j < 6) (hu : (ocells r)[j]? = some u) : w.cell? ⟨g, off + i * 6 + j, none⟩ = some u := by
  rw [Nat.add_assoc]
  refine h _ _ ?_
  rw [ovs_get l i j hj, hi]
  exact hu
/-- An order that came in, in any world where all that there was stands. -/
theorem ord_cells {w : World} {g off n c : Nat} {l : List Ord} (h : RowAt w (.slice (some ⟨g, off, none⟩) n c) l.length (ovs l)) {i : Nat} {o : Ord} (hi : l[i]? = some o) {W : World} {A : HP} (hW : Holds W (A * old w)) :
    W.cell? ⟨g, off + i * 6, none⟩ = some (.int .i64 o.kind) ∧ W.cell? ⟨g, off + i * 6 + 1, none⟩ = some (.int .i64 o.now) ∧ W.cell? ⟨g, off + i * 6 + 2, none⟩ = some (.int .i64 o.job) ∧ W.cell? ⟨g, off + i * 6 + 3, none⟩ = some (.int .i64 o.tr) ∧ W.cell? ⟨g, off + i * 6 + 4, none⟩ = some (.int .i64 o.wk) ∧ W.cell? ⟨g, off + i * 6 + 5, none⟩ = some (.int .i64 o.tm) := by
  have hl : l.length ≠ 0 := by
    intro e
    have := (List.getElem?_eq_some_iff.1 hi).1
    omega
  obtain ⟨g', off', c', e, _, _, hc⟩ := (h.old hW).get hl
  simp only [Value.slice.injEq, Option.some.injEq, Addr.mk.injEq, and_true] at e
  obtain ⟨⟨rfl, rfl⟩, _, rfl⟩ := e
  exact ⟨ovs_cell hc hi 0 _ (by omega) rfl, ovs_cell hc hi 1 _ (by omega) rfl, ovs_cell hc hi 2 _ (by omega) rfl, ovs_cell hc hi 3 _ (by omega) rfl, ovs_cell hc hi 4 _ (by omega) rfl, ovs_cell hc hi 5 _ (by omega) rfl⟩
end Go.Proofs.Ytfihmpkkpgmdhab
