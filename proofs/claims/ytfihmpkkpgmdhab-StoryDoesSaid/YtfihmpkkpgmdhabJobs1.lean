/-
  Contracts: the package jobs, walked.
-/
import Derived.Test.YtfihmpkkpgmdhabMem
import Derived.RegionTactic
import Derived.BigRegion
namespace Go.Proofs.Ytfihmpkkpgmdhab
open Go.RowKit

theorem in_any (n a b : Int) (w : World) :
    Calls Try.prog 52 #[.int .i64 n, .int .i64 a, .int .i64 b] w fun e w' => e = .returned (.bool (inB n a b)) ∧ w = w' := by
  by_cases h : a ≤ n
  · go_enter Try.func52, Try.ntmps52
    go_wp2
    go_ret
    exact ⟨by simp [inB]; omega, rfl⟩
  · go_enter Try.func52, Try.ntmps52
    go_wp2
    go_ret
    exact ⟨by simp [inB]; omega, rfl⟩

theorem own_any (b : Nat) (t : Tbl) (w : World) (h : TableAt w b t) :
    Calls Try.prog 20 #[.pointer (some ⟨b, 0, none⟩)] w fun e w' => ∃ b', e = .returned (.pointer (some ⟨b', 0, none⟩)) ∧ w.heap.size ≤ b' ∧ Below w.heap.size w w' ∧ TableAt w' b' t := by
  have hr := Lib.hid h; clear h
  go_enter Try.func20, Try.ntmps20
  go_wp2_with (first | (refine wpList_load_whole rfl 103 _ rfl b rfl (tcells t) hr.out Try.underlying103 rfl (by kernel_rfl) ?_) | (refine wpList_store_whole rfl 103 _ _ rfl w.heap.size (tcells t) rfl rfl (BlockAt.new w 103 (tcells Tbl.zero)) (by simp [tcells_len]) (by kernel_rfl) (tcells_ones t) ?_; intro w' h1 h2 h3))
  go_ret
  exact ⟨_, rfl, Nat.le_refl _, ((Below.refl _ _).alloc (Nat.le_refl _) _).grown h2 (by simp) (by rintro k ⟨⟩; exact Nat.le_refl _), h1⟩

theorem new_any (w : World) :
    Calls Try.prog 16 #[] w fun e w' => ∃ b, e = .returned (.pointer (some ⟨b, 0, none⟩)) ∧ w.heap.size ≤ b ∧ Below w.heap.size w w' ∧ TableAt w' b Tbl.zero := by
  go_enter Try.func16, Try.ntmps16
  go_wp2
  go_ret
  exact ⟨_, rfl, Nat.le_refl _, (Below.refl _ _).alloc (Nat.le_refl _) _, BlockAt.new w _ _⟩
theorem now_any (b : Nat) (t : Tbl) (w : World) (h : TableAt w b t) :
    Calls Try.prog 17 #[.pointer (some ⟨b, 0, none⟩)] w fun e w' => e = .returned (.int .i64 t.now) ∧ w = w' := by
  have hnow := h.cell 24 _ rfl
  have H := Lib.hid h; clear h
  go_enter Try.func17, Try.ntmps17
  go_wp2
  go_ret
  exact ⟨rfl, rfl⟩

set_option maxHeartbeats 1000000 in
theorem job_any (b : Nat) (t : Tbl) (n : Int) (w : World) (h : TableAt w b t) :
    Calls Try.prog 18 #[.pointer (some ⟨b, 0, none⟩), .int .i64 n] w fun e w' => e = .returned (t.job n).val ∧ Below w.heap.size w w' := by
  by_cases hn : 0 ≤ n ∧ n ≤ 5
  · obtain ⟨k, rfl⟩ := Int.eq_ofNat_of_zero_le hn.1
    obtain ⟨c0, c1, c2, c3⟩ := h.job (show k < 6 by omega)
    have hlt := h.lt
    have hb : inB k 0 5 = true := by simp [inB]; omega
    have HB := Lib.hid hb; clear hb
    have hn2 : (k : Int) ≤ 5 := hn.2
    have HJ : Hid (t.job k = t.jobs k) := by simp [Hid, Tbl.job, hn2]
    clear hn
    have H := Lib.hid h; clear h
    go_enter Try.func18, Try.ntmps18
    go_wp2_with (go_at_call 52; refine (in_any _ _ _ _).mono ?_; rw [HB.out]; rintro e w' ⟨rfl, rfl⟩)
    rw [HJ.out]
    refine bodyPost_ret (v := (t.jobs k).val) (by simp [results, Try.results18, go_sem, Job.val, jcells]) rfl ⟨rfl, ?_⟩
    repeat refine Below.setCell ?_ (Nat.le_refl _) _
    exact (Below.refl _ _).alloc (Nat.le_refl _) _
  · have hb : inB n 0 5 = false := by simp [inB]; omega
    have HB := Lib.hid hb; clear hb
    have HJ : Hid (t.job n = Job.zero) := by simp only [Hid, Tbl.job, if_neg hn]
    clear hn h
    go_enter Try.func18, Try.ntmps18
    go_wp2_with (go_at_call 52; refine (in_any _ _ _ _).mono ?_; rw [HB.out]; rintro e w' ⟨rfl, rfl⟩)
    rw [HJ.out]
    refine bodyPost_ret (v := Job.zero.val) (by simp [results, Try.results18, go_sem, Job.val, jcells, Job.zero]) rfl ⟨rfl, ?_⟩
    repeat refine Below.setCell ?_ (Nat.le_refl _) _
    exact (Below.refl _ _).alloc (Nat.le_refl _) _
set_option maxHeartbeats 2000000 in
theorem check_any (c n j t k m : Int) (w : World) :
    Calls Try.prog 51 #[.agg #[.int .i64 c, .int .i64 n, .int .i64 j, .int .i64 t, .int .i64 k, .int .i64 m]] w fun e w' =>
      e = .returned (.int .i64 (chk ⟨c, n, j, t, k, m⟩)) ∧ Below w.heap.size w w' := by
  by_cases hc : 1 ≤ c ∧ c ≤ 5
  · obtain rfl | rfl | rfl | rfl | rfl : c = 1 ∨ c = 2 ∨ c = 3 ∨ c = 4 ∨ c = 5 := by omega
    all_goals
      clear hc
      have g0 : inB 1 1 5 = true := rfl
      have g1 : inB 2 1 5 = true := rfl
      have g2 : inB 3 1 5 = true := rfl
      have g3 : inB 4 1 5 = true := rfl
      have g4 : inB 5 1 5 = true := rfl
      go_enter Try.func51, Try.ntmps51
      go_wp2_with (go_at_call 52; refine (in_any _ _ _ _).mono ?_; rintro e w' ⟨rfl, rfl⟩)
      go_quiet (fail)
      go_wp2_with (go_at_call 52; refine (in_any _ _ _ _).mono ?_; rintro e w' ⟨rfl, rfl⟩)
      all_goals clear g0 g1 g2 g3 g4
    all_goals
      go_ret
      refine ⟨ret_i64 ?_, below_drewN ((Below.refl _ _).alloc (Nat.le_refl _) _) _⟩
      try simp only [Bool.not_eq_eq_eq_not, Bool.not_true, Bool.not_false, inB_true, inB_false, bne_iff_ne, ne_eq, bne_eq_false_iff_eq] at *
      unfold chk
      dsimp only
      repeat' split
      all_goals omega
  · have hb : inB c 1 5 = false := inB_false.2 hc
    have HC := Lib.hid hc; clear hc
    go_enter Try.func51, Try.ntmps51
    go_wp2_with (go_at_call 52; refine (in_any _ _ _ _).mono ?_; rintro e w' ⟨rfl, rfl⟩)
    go_ret
    exact ⟨ret_i64 (by rw [chk, if_pos HC.out]), (Below.refl _ _).alloc (Nat.le_refl _) _⟩
set_option maxHeartbeats 2000000 in
theorem pass_any (b : Nat) (t : Tbl) (n : Int) (w : World) (h : TableAt w b t) :
    Calls Try.prog 53 #[.pointer (some ⟨b, 0, none⟩), .int .i64 n] w fun e w' => e = .returned (.tuple #[]) ∧ w.grownBy w' (some b) ∧ TableAt w' b (t.pass n) := by
  have hnow := h.cell 24 _ rfl
  have hf := h.free 24
  have H := Lib.hid h; clear h
  obtain ⟨m, hm, hcase⟩ : ∃ m, Hid (m = max t.now n) ∧ (t.now < n ∧ n = m ∨ n ≤ t.now ∧ t.now = m) := ⟨_, rfl, by omega⟩
  rcases hcase with ⟨hlt0, rfl⟩ | ⟨hlt0, rfl⟩
  all_goals
    go_enter Try.func53, Try.ntmps53
    go_wp2
    go_loopw [15, 4, 5] (fun i _ _ wr => ∃ (k : Nat) (m : Int), k ≤ 6 ∧ i = .int .i64 k ∧ w.grownBy wr (some b) ∧ Hid (m = max t.now n) ∧ TableAt wr b (passTo t m k)) (fun i _ _ _ => 6 - (intOf i).toNat)
    case atStart => exact ⟨0, _, by omega, rfl, grown_setCell (grown_refl w _) _ _, hm, passTo_start t _ H.out⟩
    case round =>
      obtain ⟨k, m, hk, rfl, hg, hm', ht⟩ := hrel
      by_cases hlt : k < 6
      · obtain ⟨c0, c1, c2, c3⟩ := ht.job hlt
        have c24 := ht.cell 24 _ rfl
        simp only [passTo] at c0 c1 c2 c3 c24
        have f0 := ht.free (k * 4)
        have f1 := ht.free (k * 4 + 1)
        have f2 := ht.free (k * 4 + 2)
        have f3 := ht.free (k * 4 + 3)
        have HT := Lib.hid ht; clear ht
        by_cases hs : (t.jobs k).st = 2
        · have hs1 : ((t.jobs k).st != 2) = false := by simpa using hs
          have HS := Lib.hid hs; clear hs
          by_cases hu : (t.jobs k).un ≤ m
          · by_cases h3 : 3 ≤ (t.jobs k).tr
            · go_wp2
              go_quiet (fail)
              go_wp2
              go_roundw
              case rel => exact ⟨k + 1, m, by omega, by go_num, grown_setCell (grown_setCell (grown_setCell (grown_setCell (grown_drewN hg _) _ _) _ _) _ _) _ _, hm', passTo_set _ _ _ (by rw [expire, if_pos ⟨HS.out, hu⟩, if_pos h3]; exact TableAt.setJob HT.out hlt ⟨4, 0, (t.jobs k).tr, 0⟩)⟩
              case measure => simp [intOf]; omega
            · go_wp2
              go_quiet (fail)
              go_wp2
              go_roundw
              case rel => exact ⟨k + 1, m, by omega, by go_num, grown_setCell (grown_setCell (grown_setCell (grown_setCell (grown_drewN hg _) _ _) _ _) _ _) _ _, hm', passTo_set _ _ _ (by rw [expire, if_pos ⟨HS.out, hu⟩, if_neg (by omega)]; exact TableAt.setJob HT.out hlt ⟨1, 0, (t.jobs k).tr, 0⟩)⟩
              case measure => simp [intOf]; omega
          · go_wp2
            go_quiet (fail)
            go_wp2
            go_roundw
            case rel => exact ⟨k + 1, m, by omega, by go_num, grown_drewN hg _, hm', passTo_keep _ _ _ HT.out (by rw [expire, if_neg (fun h => absurd h.2 (by omega))])⟩
            case measure => simp [intOf]; omega
        · have hs1 : ((t.jobs k).st != 2) = true := by simpa using hs
          have HS := Lib.hid hs; clear hs
          go_wp2
          go_quiet (fail)
          go_wp2
          go_roundw
          case rel => exact ⟨k + 1, m, by omega, by go_num, grown_drewN hg _, hm', passTo_keep _ _ _ HT.out (by rw [expire, if_neg (fun h => HS.out h.1)])⟩
          case measure => simp [intOf]; omega
      · obtain rfl : k = 6 := by omega
        go_wp2
        go_end0
        exact ⟨rfl, hg, passTo_end _ _ (by rw [← hm'.out]; exact ht)⟩
end Go.Proofs.Ytfihmpkkpgmdhab
