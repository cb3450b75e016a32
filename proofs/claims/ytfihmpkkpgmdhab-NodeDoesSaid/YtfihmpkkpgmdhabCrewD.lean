/-
  A crew's step whole.
-/
import Derived.Test.YtfihmpkkpgmdhabCrewC
import Derived.Test.YtfihmpkkpgmdhabNodeB
import Derived.Test.YtfihmpkkpgmdhabNodeV
namespace Go.Proofs.Ytfihmpkkpgmdhab
set_option linter.unusedSimpArgs false
set_option linter.unusedVariables false
open Go.RowKit
theorem cstep_sl (b bd bp : Nat) (vn vv : Value) (pn pv : List Nat) (c v : Crw) (do_ k kp kd2 nw jb tr wk tm : Int) (w : World) {R : HP} (h : Holds w (CH b bd bp vn vv pn pv c v R)) (ok : Cok pn pv c v) :
    Calls Try.prog 35 #[.pointer (some ⟨b, 0, none⟩), .agg #[.int .i64 do_, .int .i64 k, .int .i64 kp, .int .i64 kd2, .int .i64 nw, .int .i64 jb, .int .i64 tr, .int .i64 wk, .int .i64 tm]] w (CPost w b bd bp c v R) := by
  by_cases hd : do_ = 0
  · subst hd
    exact cstep_open b bd bp vn vv pn pv c v k kp kd2 nw jb tr wk tm w h ok
  · exact cstep_act b bd bp vn vv pn pv c v do_ k kp kd2 nw jb tr wk tm w h ok hd
theorem cok_zero {l : List UInt8} (h : l.length ≤ 1400) : Cok [] [] ⟨⟨1, l⟩, []⟩ ⟨⟨1, l⟩, []⟩ :=
  ⟨Crw.empty_good (newCrew_disk h).2.2.2, Crw.empty_good (newCrew_disk h).2.2.2, rfl, rfl, rfl, rfl⟩
end Go.Proofs.Ytfihmpkkpgmdhab
