/-
  The document's Behind, walked: a board behind records.
-/
import Derived.Test.YtfihmpkkpgmdhabBoardD
import Derived.Test.YtfihmpkkpgmdhabCodecG
import Derived.Test.YtfihmpkkpgmdhabPlainM
namespace Go.Proofs.Ytfihmpkkpgmdhab
set_option linter.unusedSimpArgs false
set_option linter.unusedVariables false
open Go.RowKit
set_option maxRecDepth 100000 in
set_option maxHeartbeats 4000000 in
theorem behind_any (v : Value) (l : List Rec) (w : World) (h : RowAt w v l.length (rvs l)) (hl : l.length ≤ 100000) : Calls Try.prog 28 #[v] w (PostX w (old w) (fun b : Nat => .pointer (some ⟨b, 0, none⟩)) fun b => tb b 41 (behind l)) := by
  obtain ⟨a, cc, rfl, c1, c2⟩ := h.shape
  have HV := Lib.hid h; clear h
  have H0 := Lib.hid ((Holds.old (w := w)).boxB (ty := 41) (cs := tcells Tbl.zero) rfl)
  have Q0 := Lib.hid ((Quiet.refl w).alloc (.cells (tcells Tbl.zero).toArray 41))
  go_enter Try.func28, Try.ntmps28
  go_wp2_with fail
  go_loopw [4] (fun i wr => ∃ k : Nat, k ≤ l.length ∧ i = .int .i64 k ∧ Holds wr (tb w.heap.size 41 (runL Tbl.zero (l.take k)) * old w) ∧ Quiet w wr) (fun i _ => l.length - (intOf i).toNat)
  case atStart => exact ⟨0, by omega, rfl, H0.out, Q0.out⟩
  case round =>
    obtain ⟨k, hk, rfl, hh, hq⟩ := hrel
    have HK := Lib.hid hk
    by_cases hlt : k < l.length
    · obtain ⟨r, hr⟩ : ∃ r, l[k]? = some r := ⟨_, List.getElem?_eq_getElem hlt⟩
      obtain ⟨g, off, cx, e, _, _, hc0⟩ := (HV.out.old hh).get (by omega)
      simp only [Value.slice.injEq] at e
      obtain ⟨rfl, _, rfl⟩ := e
      have hrun := Lib.hid (runL_step hr Tbl.zero)
      have hin := Lib.hid (runL_in Tbl.zero_in (l.take k))
      obtain ⟨ep2, ⟨kd, nw, jb, tr, wk, tm⟩⟩ := r
      have y1 := rvs_cell hc0 hr 1 _ (by omega) rfl
      have y2 := rvs_cell hc0 hr 2 _ (by omega) rfl
      have y3 := rvs_cell hc0 hr 3 _ (by omega) rfl
      have y4 := rvs_cell hc0 hr 4 _ (by omega) rfl
      have y5 := rvs_cell hc0 hr 5 _ (by omega) rfl
      have y6 := rvs_cell hc0 hr 6 _ (by omega) rfl
      dsimp only at y1 y2 y3 y4 y5 y6
      have HH := Lib.hid hh; have HQ := Lib.hid hq
      clear hh hq hr hc0
      dsimp only at hrun
      obtain ⟨T, hT⟩ : ∃ T, runL Tbl.zero (l.take k) = T := ⟨_, rfl⟩
      rw [hT] at HH hin hrun
      clear hT
      go_wp2_with fail
      clear y1 y2 y3 y4 y5 y6
      refine (bdo_sl w.heap.size T kd nw jb tr wk tm _ HH.out hin.out.ok).mono ?_
      rintro e w2 ⟨rfl, q2, h2⟩
      have H2 := Lib.hid h2; have Q2 := Lib.hid (HQ.out.trans q2); clear h2 q2
      go_wp2_with fail
      go_roundw
      case rel => exact ⟨k + 1, by omega, by go_num, by rw [hrun.out]; exact H2.out, Q2.out⟩
      case measure => simp [intOf]; omega
    · obtain rfl : k = l.length := by omega
      go_wp2
      go_ret
      exact ⟨_, rfl, hq, by rw [List.take_length] at hh; exact hh⟩
theorem behind_sl (v : Value) (l : List Rec) (w : World) (h : RowAt w v l.length (rvs l)) (hl : l.length ≤ 100000) {R : HP} (hr : Holds w R) : Calls Try.prog 28 #[v] w (PostX w R (fun b : Nat => .pointer (some ⟨b, 0, none⟩)) fun b => tb b 41 (behind l)) :=
  (behind_any v l w h hl).mono fun e w' ⟨x, he, hq, hh⟩ => ⟨x, he, hq, hh.frame hr⟩
end Go.Proofs.Ytfihmpkkpgmdhab
