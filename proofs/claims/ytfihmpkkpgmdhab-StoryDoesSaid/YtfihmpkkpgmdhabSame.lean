/-
  Records, one behind the other: SameRecords, of the same ones.
-/
import Derived.Test.YtfihmpkkpgmdhabAll
namespace Go.Proofs.Ytfihmpkkpgmdhab
set_option maxRecDepth 100000
set_option linter.unusedSimpArgs false
set_option linter.unusedVariables false
open Go.RowKit
theorem rvs_cell {w : World} {g off : Nat} {l : List Rec} (h : ∀ j u, (rvs l)[j]? = some u → w.cell? ⟨g, off + j, none⟩ = some u) {i : Nat} {r : Rec} (hi : l[i]? = some r) (j : Nat) (u : Value) (hj : j < 7) (hu : (rcells r)[j]? = some u) : w.cell? ⟨g, off + i * 7 + j, none⟩ = some u := by
  rw [Nat.add_assoc]
  refine h _ _ ?_
  rw [rvs_get l i j hj, hi]
  exact hu
set_option maxRecDepth 100000 in
set_option maxHeartbeats 2000000 in
theorem same_recs (v v' : Value) (l : List Rec) (w : World) (h : RowAt w v l.length (rvs l)) (h' : RowAt w v' l.length (rvs l)) (hl : l.length ≤ 100000) :
    Calls Try.prog 44 #[v, v'] w fun e w' => e = .returned (.bool true) ∧ ∃ n, w' = w.drewN n := by
  by_cases h0 : l.length = 0
  · obtain ⟨a, c, rfl, c1, c2⟩ := h.shape
    obtain ⟨a', c', rfl, c1', c2'⟩ := h'.shape
    rw [h0] at *
    go_enter Try.func44, Try.ntmps44
    go_wp2
    go_loopw [5] (fun i wr => i = .int .i64 0 ∧ ∃ n, wr = w.drewN n) (fun i _ => 0)
    case atStart => exact ⟨rfl, 0, rfl⟩
    case round =>
      obtain ⟨rfl, n, rfl⟩ := hrel
      go_wp2
      go_ret
      exact ⟨rfl, n, rfl⟩
  · obtain ⟨g, off, c, rfl, c1, c2, hc⟩ := h.get h0
    obtain ⟨g', off', c', rfl, c1', c2', hc'⟩ := h'.get h0
    have HC := Lib.hid hc; have HC' := Lib.hid hc'
    clear h h' hc hc' h0
    go_enter Try.func44, Try.ntmps44
    go_wp2
    go_loopw [5] (fun i wr => ∃ k : Nat, k ≤ l.length ∧ i = .int .i64 k ∧ ∃ n, wr = w.drewN n) (fun i _ => l.length - (intOf i).toNat)
    case atStart => exact ⟨0, by omega, rfl, 0, rfl⟩
    case round =>
      obtain ⟨k, hk, rfl, n, rfl⟩ := hrel
      by_cases hlt : k < l.length
      · obtain ⟨r, hr⟩ : ∃ r, l[k]? = some r := ⟨_, List.getElem?_eq_getElem hlt⟩
        have a0 := rvs_cell HC.out hr 0 _ (by omega) rfl
        have a1 := rvs_cell HC.out hr 1 _ (by omega) rfl
        have a2 := rvs_cell HC.out hr 2 _ (by omega) rfl
        have a3 := rvs_cell HC.out hr 3 _ (by omega) rfl
        have a4 := rvs_cell HC.out hr 4 _ (by omega) rfl
        have a5 := rvs_cell HC.out hr 5 _ (by omega) rfl
        have a6 := rvs_cell HC.out hr 6 _ (by omega) rfl
        have b0 := rvs_cell HC'.out hr 0 _ (by omega) rfl
        have b1 := rvs_cell HC'.out hr 1 _ (by omega) rfl
        have b2 := rvs_cell HC'.out hr 2 _ (by omega) rfl
        have b3 := rvs_cell HC'.out hr 3 _ (by omega) rfl
        have b4 := rvs_cell HC'.out hr 4 _ (by omega) rfl
        have b5 := rvs_cell HC'.out hr 5 _ (by omega) rfl
        have b6 := rvs_cell HC'.out hr 6 _ (by omega) rfl
        rw [Nat.add_zero] at a0 b0
        clear hr
        obtain ⟨ep, ⟨q, nw, j, t, wk, m⟩⟩ := r
        dsimp only at a0 a1 a2 a3 a4 a5 a6 b0 b1 b2 b3 b4 b5 b6
        go_wp2
        go_quiet (fail)
        go_wp2
        go_roundw
        case rel => exact ⟨k + 1, by omega, by go_num, _, rfl⟩
        case measure => simp [intOf]; omega
      · obtain rfl : k = l.length := by omega
        go_wp2
        go_ret
        exact ⟨rfl, n, rfl⟩
end Go.Proofs.Ytfihmpkkpgmdhab
