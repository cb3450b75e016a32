/-
  A row of six integers.
-/
import Derived.Test.YtfihmpkkpgmdhacPlainM
import Derived.Test.YtfihmpkkpgmdhacMem
namespace Go.Proofs.Ytfihmpkkpgmdhac
def iv6 (f : Nat → Int) : List Value := [.int .i64 (f 0), .int .i64 (f 1), .int .i64 (f 2), .int .i64 (f 3), .int .i64 (f 4), .int .i64 (f 5)]
theorem iv6_get (f : Nat → Int) {i : Nat} (hi : i < 6) : (iv6 f)[i]? = some (Value.int .i64 (f i)) := by
  match i, hi with
  | 0, _ | 1, _ | 2, _ | 3, _ | 4, _ | 5, _ => rfl
theorem iv6_set (f : Nat → Int) {i : Nat} (hi : i < 6) (x : Int) : (iv6 f).set i (Value.int .i64 x) = iv6 (upd f i x) := by
  match i, hi with
  | 0, _ | 1, _ | 2, _ | 3, _ | 4, _ | 5, _ => rfl
end Go.Proofs.Ytfihmpkkpgmdhac
