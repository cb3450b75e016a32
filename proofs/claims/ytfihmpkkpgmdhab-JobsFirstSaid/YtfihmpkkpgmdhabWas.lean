/-
  A row of jobs of the call's own: what was.
-/
import Derived.Test.YtfihmpkkpgmdhabJobsLaw
namespace Go.Proofs.Ytfihmpkkpgmdhab
set_option linter.unusedSimpArgs false
set_option linter.unusedVariables false
open Go.RowKit
def jrow (f : Nat → Job) : List Value := jcells (f 0) ++ (jcells (f 1) ++ (jcells (f 2) ++ (jcells (f 3) ++ (jcells (f 4) ++ jcells (f 5)))))
theorem jrow_congr {f g : Nat → Job} (h : ∀ i, i < 6 → f i = g i) : jrow f = jrow g := by
  unfold jrow
  rw [h 0 (by omega), h 1 (by omega), h 2 (by omega), h 3 (by omega), h 4 (by omega), h 5 (by omega)]
theorem jrow_job (f : Nat → Job) (i : Nat) (hi : i < 6) : (jrow f)[i * 4]? = some (.int .i64 (f i).st) ∧ (jrow f)[i * 4 + 1]? = some (.int .i64 (f i).wk) ∧ (jrow f)[i * 4 + 2]? = some (.int .i64 (f i).tr) ∧ (jrow f)[i * 4 + 3]? = some (.int .i64 (f i).un) := by
  match i, hi with
  | 0, _ | 1, _ | 2, _ | 3, _ | 4, _ | 5, _ => exact ⟨rfl, rfl, rfl, rfl⟩
theorem jrow_set (f : Nat → Job) (i : Nat) (hi : i < 6) (j : Job) : ((((jrow f).set (i * 4) (.int .i64 j.st)).set (i * 4 + 1) (.int .i64 j.wk)).set (i * 4 + 2) (.int .i64 j.tr)).set (i * 4 + 3) (.int .i64 j.un) = jrow (fun k => if k = i then j else f k) := by
  match i, hi with
  | 0, _ | 1, _ | 2, _ | 3, _ | 4, _ | 5, _ => rfl
/-- The first m jobs of a table, as they were. -/
def wasTo (T : Tbl) (m : Nat) : Nat → Job := fun i => if i < m then T.jobs i else Job.zero
theorem BlockAt.jrow {w : World} {b : Nat} {ty : TypeId} {f : Nat → Job} (h : BlockAt w b ty (jrow f)) {i : Nat} (hi : i < 6) :
    w.cell? ⟨b, i * 4, none⟩ = some (.int .i64 (f i).st) ∧ w.cell? ⟨b, i * 4 + 1, none⟩ = some (.int .i64 (f i).wk) ∧ w.cell? ⟨b, i * 4 + 2, none⟩ = some (.int .i64 (f i).tr) ∧ w.cell? ⟨b, i * 4 + 3, none⟩ = some (.int .i64 (f i).un) := by
  obtain ⟨a, b, c, d⟩ := jrow_job f i hi
  exact ⟨h.cell _ _ a, h.cell _ _ b, h.cell _ _ c, h.cell _ _ d⟩
theorem Holds.setWas {w : World} {b : Nat} {ty : TypeId} {T : Tbl} {m : Nat} {A : HP} (h : Holds w (Go.Proofs.Ytfihmpkkpgmdhab.bl b ty (jrow (wasTo T m)) * A)) (hm : m < 6) :
    Holds ((((w.setCell ⟨b, m * 4, none⟩ (.int .i64 (T.jobs m).st)).setCell ⟨b, m * 4 + 1, none⟩ (.int .i64 (T.jobs m).wk)).setCell ⟨b, m * 4 + 2, none⟩ (.int .i64 (T.jobs m).tr)).setCell ⟨b, m * 4 + 3, none⟩ (.int .i64 (T.jobs m).un)) (Go.Proofs.Ytfihmpkkpgmdhab.bl b ty (jrow (wasTo T (m + 1))) * A) := by
  have h1 := (((h.setB (m * 4) (.int .i64 (T.jobs m).st)).setB (m * 4 + 1) (.int .i64 (T.jobs m).wk)).setB (m * 4 + 2) (.int .i64 (T.jobs m).tr)).setB (m * 4 + 3) (.int .i64 (T.jobs m).un)
  rw [jrow_set _ m hm (T.jobs m)] at h1
  rw [show jrow (wasTo T (m + 1)) = jrow (fun k => if k = m then T.jobs m else wasTo T m k) from jrow_congr fun i _ => by
    unfold wasTo
    by_cases e : i = m
    · subst e; simp
    · by_cases h2 : i < m
      · simp [e, h2, show i < m + 1 by omega]
      · simp [e, h2, show ¬ i < m + 1 by omega]]
  exact h1
theorem was_start (T : Tbl) : jrow (wasTo T 0) = jrow (fun _ => Job.zero) := jrow_congr fun i _ => by simp [wasTo]
theorem was_end (T : Tbl) : jrow (wasTo T 6) = jrow T.jobs := jrow_congr fun i hi => by simp [wasTo, hi]
theorem job_in (T : Tbl) {m : Nat} (hm : m < 6) : T.job m = T.jobs m := by
  unfold Tbl.job
  rw [if_pos (by omega)]; rfl
theorem jrowOf {w : World} {b : Nat} {ty : TypeId} {f : Nat → Job} (h : BlockAt w b ty (jrow f)) {i : Nat} (hi : i < 6) {st wk tr un : Int} (hj : f i = ⟨st, wk, tr, un⟩) :
    w.cell? ⟨b, i * 4, none⟩ = some (.int .i64 st) ∧ w.cell? ⟨b, i * 4 + 1, none⟩ = some (.int .i64 wk) ∧ w.cell? ⟨b, i * 4 + 2, none⟩ = some (.int .i64 tr) ∧ w.cell? ⟨b, i * 4 + 3, none⟩ = some (.int .i64 un) := by
  have := h.jrow hi
  rw [hj] at this
  exact this
/-- The state of a job by value. -/
theorem run_field_job (a b c d : Value) (W : World) : (Instr.field 27 (.agg #[a, b, c, d]) 0).run Try.prog W = .ok a W := by kernel_rfl
end Go.Proofs.Ytfihmpkkpgmdhab
