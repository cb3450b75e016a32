/-
  The document's board, walked: Did, whatever is ordered; Do.
-/
import Derived.Test.YtfihmpkkpgmdhabBoard4
import Derived.Test.YtfihmpkkpgmdhabBoard5
import Derived.Test.YtfihmpkkpgmdhabBoard6
import Derived.Test.YtfihmpkkpgmdhabBoard7
import Derived.Test.YtfihmpkkpgmdhabBoard8
namespace Go.Proofs.Ytfihmpkkpgmdhab
set_option linter.unusedSimpArgs false
set_option linter.unusedVariables false
open Go.RowKit
theorem bdid_any (t : Tbl) (kd nw jb tr wk tm : Int) (w : World) (hok : t.Ok) : Calls Try.prog 55 #[.agg (tcells t).toArray, .agg #[.int .i64 kd, .int .i64 nw, .int .i64 jb, .int .i64 tr, .int .i64 wk, .int .i64 tm]] w (DidPost w (t.did ⟨kd, nw, jb, tr, wk, tm⟩)) := by
  by_cases ho : chk ⟨kd, nw, jb, tr, wk, tm⟩ = 0
  · obtain ⟨hj, hk, _⟩ := chk_zero ho
    dsimp only at hj hk
    obtain ⟨q, rfl⟩ := Int.eq_ofNat_of_zero_le hj.1
    have hq : q < 6 := by omega
    by_cases h2 : kd = 2
    · subst h2; exact bdid_take t nw q tr wk tm w hok ho
    · by_cases hs : ((t.pass nw).jobs q).st = 0
      · by_cases h1 : kd = 1
        · subst h1; exact bdid_add0 t nw tr wk tm q w hok ho hq hs
        · exact bdid_abs t kd nw tr wk tm q w hok ho hq (by omega) hs
      · by_cases h1 : kd = 1
        · subst h1; exact bdid_add1 t nw tr wk tm q w hok ho hq hs
        · have hk' : kd = 3 ∨ kd = 4 ∨ kd = 5 := by omega
          by_cases hh : ((t.pass nw).jobs q).st = 2 ∧ ((t.pass nw).jobs q).wk = wk ∧ ((t.pass nw).jobs q).tr = tr
          · obtain ⟨a, b, c⟩ := hh
            rcases hk' with rfl | rfl | rfl
            · exact bdid_renew t nw tr wk tm q w hok ho hq a b c
            · exact bdid_done t nw tr wk tm q w hok ho hq a b c
            · exact bdid_give t nw tr wk tm q w hok ho hq a b c
          · refine bdid_else t kd nw tr wk tm q w hok ho hq hk' hs ?_
            by_cases a : ((t.pass nw).jobs q).st = 2
            · by_cases b : ((t.pass nw).jobs q).wk = wk
              · exact .inr (.inr fun c => hh ⟨a, b, c⟩)
              · exact .inr (.inl b)
            · exact .inl a
  · exact bdid_no t kd nw jb tr wk tm w ho
end Go.Proofs.Ytfihmpkkpgmdhab
