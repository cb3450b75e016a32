/-
  A table of the program's, and the document's board: do they tell the same?
-/
import Derived.Test.YtfihmpkkpgmdhabBoardD
import Derived.Test.YtfihmpkkpgmdhabJobsG
namespace Go.Proofs.Ytfihmpkkpgmdhab
set_option linter.unusedSimpArgs false
set_option linter.unusedVariables false
open Go.RowKit
set_option maxRecDepth 100000 in
set_option maxHeartbeats 4000000 in
theorem same_sl (b g : Nat) (t : Tbl) (w : World) {R : HP} (h : Holds w (tab b t * (tb g 41 t * R))) :
    Calls Try.prog 22 #[.pointer (some ⟨b, 0, none⟩), .pointer (some ⟨g, 0, none⟩)] w fun e w' => e = .returned (.bool true) ∧ Below w.heap.size w w' := by
  have H := Lib.hid h; clear h
  go_enter Try.func22, Try.ntmps22
  go_wp2_with fail
  refine wp_region_lex (fun W => W.cell? ⟨g, 24, none⟩ = some (.int .i64 t.now)) [4] (by kernel_rfl) (by kernel_rfl) (H.out.right.drew.bl.cell 24 _ rfl) ?_
  repeat (first | (refine LexL.none (by rfl) ?_; (try simp only [Act.put, List.setIfInBounds_toArray, List.set_cons_zero, List.set_cons_succ])) | (refine LexL.still (v := ?_) (by rfl) ?_ ?_; rotate_left; (focus (intro W hW; (try dsimp only at hW); go_simp; (try (with_reducible rfl)); done)); (try simp only [Act.put, List.setIfInBounds_toArray, List.set_cons_zero, List.set_cons_succ])))
  refine LexL.call (f := 17) (args := #[.pointer (some ⟨b, 0, none⟩)]) (w1 := w.drew) (by rfl) (by decide) (by go_simp) ?_
  refine (now_sl b t _ H.out.drew).mono ?_
  rintro e w1 ⟨rfl, rfl⟩
  refine ⟨_, rfl, H.out.right.drew.bl.cell 24 _ rfl, ?_⟩
  try simp only [Act.put, List.setIfInBounds_toArray, List.set_cons_zero, List.set_cons_succ]
  repeat (first | (refine LexL.none (by rfl) ?_; (try simp only [Act.put, List.setIfInBounds_toArray, List.set_cons_zero, List.set_cons_succ])) | (refine LexL.still (v := ?_) (by rfl) ?_ ?_; rotate_left; (focus (intro W hW; (try dsimp only at hW); go_simp; (try (with_reducible rfl)); done)); (try simp only [Act.put, List.setIfInBounds_toArray, List.set_cons_zero, List.set_cons_succ])))
  refine LexL.done ?_
  go_wp2_with fail
  go_loopw [5] (fun n wr => ∃ m : Nat, m ≤ 8 ∧ n = .int .i64 ((m : Int) - 1) ∧ Holds wr (tab b t * (tb g 41 t * R)) ∧ Below w.heap.size w wr) (fun n _ => (7 - intOf n).toNat)
  case atStart => exact ⟨0, by omega, by go_num, H.out.drew, Below.drew (Below.refl _ _)⟩
  case round =>
    obtain ⟨m, hm, rfl, hh, hq⟩ := hrel
    have HH := Lib.hid hh; have HQ := Lib.hid hq; clear hh hq
    obtain ⟨n, hn⟩ : ∃ n : Int, (m : Int) - 1 = n := ⟨_, rfl⟩
    rw [hn]
    have hn1 : n ≤ 7 := by omega
    have hn0 : -1 ≤ n := by omega
    have HN := Lib.hid hn; clear hn
    by_cases hlt : n ≤ 6
    · obtain ⟨⟨s1, s2, s3, s4⟩, hJ⟩ : ∃ J, t.job n = J := ⟨_, rfl⟩
      have HJ := Lib.hid hJ; clear hJ
      go_wp2_with fail
      refine (job_sl b t n _ HH.out).mono ?_
      rw [HJ.out]
      simp only [Job.val, jcells]
      rintro e w2 ⟨rfl, hb2⟩
      have H2 := Lib.hid (HH.out.below hb2); have Q2 := Lib.hid (HQ.out.trans (hb2.mono HQ.out.size)); clear hb2
      go_wp2_with fail
      refine (bjob_sl g t n _ H2.out.right).mono ?_
      rw [HJ.out]
      simp only [Job.val, jcells]
      rintro e w3 ⟨rfl, hb3⟩
      have H3 := Lib.hid (H2.out.below hb3); have Q3 := Lib.hid (Q2.out.trans (hb3.mono Q2.out.size)); clear hb3
      go_wp2_with fail
      go_roundw
      case rel => exact ⟨m + 1, by have := HN.out; omega, by have := HN.out; rw [show n + 1 = ((m + 1 : Nat) : Int) - 1 by omega], H3.out, Q3.out⟩
      case measure => simp [intOf]; omega
    · go_wp2_with fail
      go_ret
      exact ⟨rfl, HQ.out⟩
end Go.Proofs.Ytfihmpkkpgmdhab
