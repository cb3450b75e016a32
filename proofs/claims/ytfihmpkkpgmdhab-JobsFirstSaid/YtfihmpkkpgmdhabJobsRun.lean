/-
  What the laws share that begin with a run of orders.
-/
import Derived.Test.YtfihmpkkpgmdhabWas
import Derived.Test.YtfihmpkkpgmdhabUidx
namespace Go.Proofs.Ytfihmpkkpgmdhab
set_option linter.unusedSimpArgs false
set_option linter.unusedVariables false
open Go.RowKit
/-- A job in a box. -/
def jbox (b : Nat) (j : Job) : HP := bl b 27 (jcells j)
theorem tjob_set (t : Tbl) {n : Nat} (hn : n < 6) (j : Job) : (t.set n j).job n = j := by
  rw [job_in _ hn, set_jobs, if_pos rfl]
end Go.Proofs.Ytfihmpkkpgmdhab
