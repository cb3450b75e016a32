/-
  The document's board, walked: Job.
-/
import Derived.Test.YtfihmpkkpgmdhabBoard1
namespace Go.Proofs.Ytfihmpkkpgmdhab
set_option linter.unusedSimpArgs false
set_option linter.unusedVariables false
open Go.RowKit
set_option maxRecDepth 100000 in
set_option maxHeartbeats 1000000 in
theorem bjob_any (b : Nat) (ty : TypeId) (cs : List Value) (t : Tbl) (n : Int) (w : World) (h : BlockAt w b ty (tcells t ++ cs)) :
    Calls Try.prog 45 #[.pointer (some ⟨b, 0, none⟩), .int .i64 n] w fun e w' => e = .returned (t.job n).val ∧ Below w.heap.size w w' := by
  have hlt := h.lt
  by_cases h0 : n < 0
  · have HJ : Hid (t.job n = Job.zero) := by simp only [Hid, Tbl.job, if_neg (show ¬ (0 ≤ n ∧ n ≤ 5) by omega)]
    clear h
    go_enter Try.func45, Try.ntmps45
    go_wp2
    rw [HJ.out]
    refine bodyPost_ret (v := Job.zero.val) (by simp [results, Try.results45, go_sem, Job.val, jcells, Job.zero]) rfl ⟨rfl, ?_⟩
    repeat refine Below.setCell ?_ (Nat.le_refl _) _
    exact (Below.refl _ _).alloc (Nat.le_refl _) _
  · by_cases h5 : 6 ≤ n
    · have HJ : Hid (t.job n = Job.zero) := by simp only [Hid, Tbl.job, if_neg (show ¬ (0 ≤ n ∧ n ≤ 5) by omega)]
      clear h
      go_enter Try.func45, Try.ntmps45
      go_wp2
      rw [HJ.out]
      refine bodyPost_ret (v := Job.zero.val) (by simp [results, Try.results45, go_sem, Job.val, jcells, Job.zero]) rfl ⟨rfl, ?_⟩
      repeat refine Below.setCell ?_ (Nat.le_refl _) _
      exact (Below.refl _ _).alloc (Nat.le_refl _) _
    · obtain ⟨k, rfl⟩ := Int.eq_ofNat_of_zero_le (show 0 ≤ n by omega)
      have hk6 : k < 6 := by omega
      have HJ : Hid (t.job k = t.jobs k) := by simp only [Hid, Tbl.job, if_pos (show 0 ≤ (k : Int) ∧ (k : Int) ≤ 5 by omega)]; rfl
      have hcell : ∀ j v, j < 25 → (tcells t)[j]? = some v → w.cell? ⟨b, j, none⟩ = some v := fun j v hj hv => h.cell j v (by rw [List.getElem?_append_left (by rw [tcells_len]; exact hj)]; exact hv)
      obtain ⟨e0, e1, e2, e3⟩ := tcells_job t k hk6
      rw [Nat.mul_comm] at e0 e1 e2 e3
      have c0 := hcell _ _ (by omega) e0
      have c1 := hcell _ _ (by omega) e1
      have c2 := hcell _ _ (by omega) e2
      have c3 := hcell _ _ (by omega) e3
      clear e0 e1 e2 e3 hcell h h0 h5
      go_enter Try.func45, Try.ntmps45
      go_wp2
      rw [HJ.out]
      refine bodyPost_ret (v := (t.jobs k).val) (by simp [results, Try.results45, go_sem, Job.val, jcells]) rfl ⟨rfl, ?_⟩
      repeat refine Below.setCell ?_ (Nat.le_refl _) _
      exact (Below.refl _ _).alloc (Nat.le_refl _) _
end Go.Proofs.Ytfihmpkkpgmdhab
