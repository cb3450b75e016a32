/-
  Numbers, one behind the other: SameInts, of the same ones.
-/
import Derived.Test.YtfihmpkkpgmdhabView2
import Derived.Test.YtfihmpkkpgmdhabSep
namespace Go.Proofs.Ytfihmpkkpgmdhab
set_option maxRecDepth 100000
set_option linter.unusedSimpArgs false
set_option linter.unusedVariables false
open Go.RowKit
set_option maxHeartbeats 2000000 in
theorem same_ints (v v' : Value) (n : Nat) (l : List Int) (w : World) (hn : l.length = n) (h : RowAt w v n (ivs l)) (h' : RowAt w v' n (ivs l)) (hl : n ≤ 100000) :
    Calls Try.prog 32 #[v, v'] w fun e w' => e = .returned (.bool true) ∧ ∃ n, w' = w.drewN n := by
  subst hn
  by_cases h0 : l.length = 0
  · obtain ⟨a, c, rfl, c1, c2⟩ := h.shape
    obtain ⟨a', c', rfl, c1', c2'⟩ := h'.shape
    rw [h0] at *
    go_enter Try.func32, Try.ntmps32
    go_wp2
    go_loopw [5] (fun i wr => i = .int .i64 0 ∧ ∃ n, wr = w.drewN n) (fun i _ => 0)
    case atStart => exact ⟨rfl, 0, rfl⟩
    case round =>
      obtain ⟨rfl, n, rfl⟩ := hrel
      go_wp2
      go_ret
      exact ⟨rfl, n, rfl⟩
  · obtain ⟨g, off, c, rfl, c1, c2, hc⟩ := h.get h0
    obtain ⟨g', off', c', rfl, c1', c2', hc'⟩ := h'.get h0
    have HC := Lib.hid hc; have HC' := Lib.hid hc'
    clear h h' hc hc' h0
    go_enter Try.func32, Try.ntmps32
    go_wp2
    go_loopw [5] (fun i wr => ∃ k : Nat, k ≤ l.length ∧ i = .int .i64 k ∧ ∃ n, wr = w.drewN n) (fun i _ => l.length - (intOf i).toNat)
    case atStart => exact ⟨0, by omega, rfl, 0, rfl⟩
    case round =>
      obtain ⟨k, hk, rfl, n, rfl⟩ := hrel
      by_cases hlt : k < l.length
      · obtain ⟨x, hx⟩ : ∃ x, l[k]? = some x := ⟨_, List.getElem?_eq_getElem hlt⟩
        have a0 := HC.out k (.int .i64 x) (by simp [ivs, hx])
        have b0 := HC'.out k (.int .i64 x) (by simp [ivs, hx])
        clear hx
        go_wp2
        go_quiet (fail)
        go_wp2
        go_roundw
        case rel => exact ⟨k + 1, by omega, by go_num, _, rfl⟩
        case measure => simp [intOf]; omega
      · obtain rfl : k = l.length := by omega
        go_wp2
        go_ret
        exact ⟨rfl, n, rfl⟩
end Go.Proofs.Ytfihmpkkpgmdhab
