/-
  The package guild, walked: Step.
-/
import Derived.Test.YtfihmpkkpgmdhacGuildB
import Derived.StillTailTactics
namespace Go.Proofs.Ytfihmpkkpgmdhac
set_option linter.unusedSimpArgs false
set_option linter.unusedVariables false
open Go.RowKit
def GPost (w : World) (bg : Nat) (R : HP) (x : Gld × Ans) (e : Ending) (w' : World) : Prop := e = .returned x.2.val ∧ Quiet w w' ∧ Holds w' (gld bg x.1 * R)
def sarg (kd x kp : Int) (o : Ord) : Value := .agg #[.int .i64 kd, .int .i64 x, .int .i64 kp, .int .i64 o.kind, .int .i64 o.now, .int .i64 o.job, .int .i64 o.tr, .int .i64 o.wk, .int .i64 o.tm]
/-- What stands when the step begins. -/
def stepBox (g0 ga : Nat) (kd x kp c nw j r k m : Int) : HP := bl ga 32 [.int .i64 0, .int .i64 0, .int .i64 0] * bl g0 30 [.int .i64 kd, .int .i64 x, .int .i64 kp, .int .i64 c, .int .i64 nw, .int .i64 j, .int .i64 r, .int .i64 k, .int .i64 m]
set_option maxRecDepth 100000 in
set_option maxHeartbeats 4000000 in
theorem gStep_open (bg bd : Nat) (vs : Nat → Value) (g : Gld) (x kp c nw j r k m : Int) (w : World) {R : HP} (h : Holds w (gblk bg bd vs g.now * (dsk bd g.d * (nodes3 bd vs g.f * R)))) (hd : g.d.Ok) :
    Calls Try.prog 11 #[.pointer (some ⟨bg, 0, none⟩), .agg #[.int .i64 1, .int .i64 x, .int .i64 kp, .int .i64 c, .int .i64 nw, .int .i64 j, .int .i64 r, .int .i64 k, .int .i64 m]] w (GPost w bg R (g.step ⟨1, x, kp, ⟨c, nw, j, r, k, m⟩⟩)) := by
  obtain ⟨w0, hw0, H0, Q0⟩ : ∃ w0, (w.alloc (.cells #[.int .i64 1, .int .i64 x, .int .i64 kp, .int .i64 c, .int .i64 nw, .int .i64 j, .int .i64 r, .int .i64 k, .int .i64 m] 30)).alloc (.cells #[.int .i64 0, .int .i64 0, .int .i64 0] 32) = w0 ∧ Hid (Holds w0 (bl (w.heap.size + 1) 32 [.int .i64 0, .int .i64 0, .int .i64 0] * (bl w.heap.size 30 [.int .i64 1, .int .i64 x, .int .i64 kp, .int .i64 c, .int .i64 nw, .int .i64 j, .int .i64 r, .int .i64 k, .int .i64 m] * (gblk bg bd vs g.now * (dsk bd g.d * (nodes3 bd vs g.f * R)))))) ∧ Hid (Quiet w w0) :=
    ⟨_, rfl, Lib.hid ((h.boxB (ty := 30) (cs := [.int .i64 1, .int .i64 x, .int .i64 kp, .int .i64 c, .int .i64 nw, .int .i64 j, .int .i64 r, .int .i64 k, .int .i64 m]) rfl).boxB (ty := 32) (cs := [.int .i64 0, .int .i64 0, .int .i64 0]) (g := w.heap.size + 1) (by simp)), Lib.hid (((Quiet.refl w).alloc _).alloc _)⟩
  clear h
  obtain ⟨g0, hg0⟩ : ∃ g0, w.heap.size = g0 := ⟨_, rfl⟩
  rw [hg0] at H0
  obtain ⟨ga, hga⟩ : ∃ ga, g0 + 1 = ga := ⟨_, rfl⟩
  rw [hga] at H0
  have co := H0.out.two.bl.cells
  have HD := Lib.hid hd; clear hd
  obtain ⟨d, f, now⟩ := g
  dsimp only at H0 HD
  by_cases hx : x < 0 ∨ 3 ≤ x
  · have he : (⟨d, f, now⟩ : Gld).step ⟨1, x, kp, ⟨c, nw, j, r, k, m⟩⟩ = (⟨d, f, now⟩, ⟨3, 0, 0⟩) := by
      unfold Gld.step; rw [if_pos rfl, if_pos hx]
    rw [he]; clear he
    have HX := Lib.hid hx; clear hx
    go_enter Try.func11, Try.ntmps11
    go_wp2_with fail
    clear hw0 hg0 hga
    refine (gopen_bad bg x _ HX.out).mono ?_
    rintro e w1 ⟨rfl, rfl⟩
    have ca := H0.out.bl.cells
    have fa := H0.out.bl.frees
    have la := H0.out.bl.lt
    go_wp2
    have hf := ((H0.out.setB 0 (.int .i64 3)).setB 1 (.int .i64 0)).setB 2 (.int .i64 0)
    have hl := run_load_part (P := Try.prog) (off := 0) (ty := 32) (vs := [.int .i64 3, .int .i64 0, .int .i64 0]) hf.bl rfl Try.underlying32 rfl (by kernel_rfl)
    exact bodyPost_ret (results_cell1 rfl rfl hl) rfl ⟨rfl, ((Q0.out.setCell _ _).setCell _ _).setCell _ _, gld_close hf.right.right⟩
  · obtain ⟨q, rfl⟩ := Int.eq_ofNat_of_zero_le (show 0 ≤ x by omega)
    have hq : q < 3 := by omega
    by_cases hc : 100 ≤ d.ep
    · have he : (⟨d, f, now⟩ : Gld).step ⟨1, q, kp, ⟨c, nw, j, r, k, m⟩⟩ = (⟨d, f, now⟩, ⟨8, 0, 0⟩) := by
        unfold Gld.step; rw [if_pos rfl, if_neg hx, if_pos hc]
      rw [he]; clear he hx
      have HC := Lib.hid hc; clear hc
      go_enter Try.func11, Try.ntmps11
      go_wp2_with fail
      clear hw0 hg0 hga
      refine (gopen_full bg bd vs now d q _ (H0.out.eq (by ac_rfl : _ = gblk bg bd vs now * (dsk bd d * (bl ga 32 [.int .i64 0, .int .i64 0, .int .i64 0] * (bl g0 30 [.int .i64 1, .int .i64 q, .int .i64 kp, .int .i64 c, .int .i64 nw, .int .i64 j, .int .i64 r, .int .i64 k, .int .i64 m] * (nodes3 bd vs f * R)))))) hq HD.out HC.out).mono ?_
      rintro e w1 ⟨rfl, q1, h1⟩
      have h2 := h1.eq (by ac_rfl : _ = bl ga 32 [.int .i64 0, .int .i64 0, .int .i64 0] * (bl g0 30 [.int .i64 1, .int .i64 q, .int .i64 kp, .int .i64 c, .int .i64 nw, .int .i64 j, .int .i64 r, .int .i64 k, .int .i64 m] * (gblk bg bd vs now * (dsk bd d * (nodes3 bd vs f * R)))))
      have ca := h2.bl.cells
      have fa := h2.bl.frees
      have la := h2.bl.lt
      have H2 := Lib.hid h2; have Q2 := Lib.hid (Q0.out.trans q1)
      clear h1 h2 q1 co H0 Q0
      go_wp2
      have hf := ((H2.out.setB 0 (.int .i64 8)).setB 1 (.int .i64 0)).setB 2 (.int .i64 0)
      have hl := run_load_part (P := Try.prog) (off := 0) (ty := 32) (vs := [.int .i64 8, .int .i64 0, .int .i64 0]) hf.bl rfl Try.underlying32 rfl (by kernel_rfl)
      exact bodyPost_ret (results_cell1 rfl rfl hl) rfl ⟨rfl, ((Q2.out.setCell _ _).setCell _ _).setCell _ _, gld_close hf.right.right⟩
    · have he : (⟨d, f, now⟩ : Gld).step ⟨1, q, kp, ⟨c, nw, j, r, k, m⟩⟩ = (⟨(opened d).1, putN f q ⟨behind (found d), d.ep + 1, false⟩, now⟩, ⟨0, 0, 0⟩) := by
        unfold Gld.step; rw [if_pos rfl, if_neg hx, if_neg hc]; rfl
      rw [he]; clear he hx
      have HC := Lib.hid hc; clear hc
      go_enter Try.func11, Try.ntmps11
      go_wp2_with fail
      clear hw0 hg0 hga
      refine (gopen_ok bg bd vs f now d q _ (H0.out.eq (by ac_rfl : _ = gblk bg bd vs now * (dsk bd d * (nodes3 bd vs f * (bl ga 32 [.int .i64 0, .int .i64 0, .int .i64 0] * (bl g0 30 [.int .i64 1, .int .i64 q, .int .i64 kp, .int .i64 c, .int .i64 nw, .int .i64 j, .int .i64 r, .int .i64 k, .int .i64 m] * R)))))) hq HD.out (by have := HC.out; omega)).mono ?_
      rintro e w1 ⟨rfl, q1, vs', h1⟩
      have h2 := h1.eq (by ac_rfl : _ = bl ga 32 [.int .i64 0, .int .i64 0, .int .i64 0] * (bl g0 30 [.int .i64 1, .int .i64 q, .int .i64 kp, .int .i64 c, .int .i64 nw, .int .i64 j, .int .i64 r, .int .i64 k, .int .i64 m] * (gblk bg bd vs' now * (dsk bd (opened d).1 * (nodes3 bd vs' (putN f q ⟨behind (found d), d.ep + 1, false⟩) * R)))))
      have ca := h2.bl.cells
      have fa := h2.bl.frees
      have la := h2.bl.lt
      have H2 := Lib.hid h2; have Q2 := Lib.hid (Q0.out.trans q1)
      clear h1 h2 q1 co H0 Q0
      go_wp2
      have hf := ((H2.out.setB 0 (.int .i64 0)).setB 1 (.int .i64 0)).setB 2 (.int .i64 0)
      have hl := run_load_part (P := Try.prog) (off := 0) (ty := 32) (vs := [.int .i64 0, .int .i64 0, .int .i64 0]) hf.bl rfl Try.underlying32 rfl (by kernel_rfl)
      exact bodyPost_ret (results_cell1 rfl rfl hl) rfl ⟨rfl, ((Q2.out.setCell _ _).setCell _ _).setCell _ _, gld_close (g := ⟨(opened d).1, putN f q ⟨behind (found d), d.ep + 1, false⟩, now⟩) hf.right.right⟩
set_option maxRecDepth 100000 in
set_option maxHeartbeats 4000000 in
theorem gStep_kind (bg bd : Nat) (vs : Nat → Value) (g : Gld) (kd x kp c nw j r k m : Int) (w : World) {R : HP} (h : Holds w (gblk bg bd vs g.now * (dsk bd g.d * (nodes3 bd vs g.f * R)))) (h1 : kd ≠ 1) (h2 : kd ≠ 2) (h3 : kd ≠ 3) (h4 : kd ≠ 4) (h5 : kd ≠ 5) :
    Calls Try.prog 11 #[.pointer (some ⟨bg, 0, none⟩), .agg #[.int .i64 kd, .int .i64 x, .int .i64 kp, .int .i64 c, .int .i64 nw, .int .i64 j, .int .i64 r, .int .i64 k, .int .i64 m]] w (GPost w bg R (g.step ⟨kd, x, kp, ⟨c, nw, j, r, k, m⟩⟩)) := by
  obtain ⟨w0, hw0, H0, Q0⟩ : ∃ w0, (w.alloc (.cells #[.int .i64 kd, .int .i64 x, .int .i64 kp, .int .i64 c, .int .i64 nw, .int .i64 j, .int .i64 r, .int .i64 k, .int .i64 m] 30)).alloc (.cells #[.int .i64 0, .int .i64 0, .int .i64 0] 32) = w0 ∧ Hid (Holds w0 (bl (w.heap.size + 1) 32 [.int .i64 0, .int .i64 0, .int .i64 0] * (bl w.heap.size 30 [.int .i64 kd, .int .i64 x, .int .i64 kp, .int .i64 c, .int .i64 nw, .int .i64 j, .int .i64 r, .int .i64 k, .int .i64 m] * (gblk bg bd vs g.now * (dsk bd g.d * (nodes3 bd vs g.f * R)))))) ∧ Hid (Quiet w w0) :=
    ⟨_, rfl, Lib.hid ((h.boxB (ty := 30) (cs := [.int .i64 kd, .int .i64 x, .int .i64 kp, .int .i64 c, .int .i64 nw, .int .i64 j, .int .i64 r, .int .i64 k, .int .i64 m]) rfl).boxB (ty := 32) (cs := [.int .i64 0, .int .i64 0, .int .i64 0]) (g := w.heap.size + 1) (by simp)), Lib.hid (((Quiet.refl w).alloc _).alloc _)⟩
  clear h
  obtain ⟨g0, hg0⟩ : ∃ g0, w.heap.size = g0 := ⟨_, rfl⟩
  rw [hg0] at H0
  obtain ⟨ga, hga⟩ : ∃ ga, g0 + 1 = ga := ⟨_, rfl⟩
  rw [hga] at H0
  have co := H0.out.two.bl.cells
  obtain ⟨d, f, now⟩ := g
  dsimp only at H0
  have he : (⟨d, f, now⟩ : Gld).step ⟨kd, x, kp, ⟨c, nw, j, r, k, m⟩⟩ = (⟨d, f, now⟩, ⟨1, 0, 0⟩) := by
    unfold Gld.step; dsimp only; rw [if_neg h1, if_neg h5, if_neg (by omega)]
  rw [he]; clear he
  have b1 : (kd == 1) = false := by simpa using h1
  have b2 : (kd == 2) = false := by simpa using h2
  have b3 : (kd == 3) = false := by simpa using h3
  have b4 : (kd == 4) = false := by simpa using h4
  have b5 : (kd == 5) = false := by simpa using h5
  clear h1 h2 h3 h4 h5
  have ca := H0.out.bl.cells
  have fa := H0.out.bl.frees
  have la := H0.out.bl.lt
  go_enter Try.func11, Try.ntmps11
  go_wp2
  have hf := ((H0.out.setB 0 (.int .i64 1)).setB 1 (.int .i64 0)).setB 2 (.int .i64 0)
  have hl := run_load_part (P := Try.prog) (off := 0) (ty := 32) (vs := [.int .i64 1, .int .i64 0, .int .i64 0]) hf.bl rfl Try.underlying32 rfl (by kernel_rfl)
  exact bodyPost_ret (results_cell1 rfl rfl hl) rfl ⟨rfl, ((Q0.out.setCell _ _).setCell _ _).setCell _ _, gld_close hf.right.right⟩
set_option maxRecDepth 100000 in
set_option maxHeartbeats 4000000 in
theorem gStep_tick (bg bd : Nat) (vs : Nat → Value) (g : Gld) (x kp c nw j r k m : Int) (w : World) {R : HP} (h : Holds w (gblk bg bd vs g.now * (dsk bd g.d * (nodes3 bd vs g.f * R)))) (hn : 0 ≤ g.now ∧ g.now ≤ 60000) :
    Calls Try.prog 11 #[.pointer (some ⟨bg, 0, none⟩), .agg #[.int .i64 5, .int .i64 x, .int .i64 kp, .int .i64 c, .int .i64 nw, .int .i64 j, .int .i64 r, .int .i64 k, .int .i64 m]] w (GPost w bg R (g.step ⟨5, x, kp, ⟨c, nw, j, r, k, m⟩⟩)) := by
  obtain ⟨w0, hw0, H0, Q0⟩ : ∃ w0, (w.alloc (.cells #[.int .i64 5, .int .i64 x, .int .i64 kp, .int .i64 c, .int .i64 nw, .int .i64 j, .int .i64 r, .int .i64 k, .int .i64 m] 30)).alloc (.cells #[.int .i64 0, .int .i64 0, .int .i64 0] 32) = w0 ∧ Hid (Holds w0 (bl (w.heap.size + 1) 32 [.int .i64 0, .int .i64 0, .int .i64 0] * (bl w.heap.size 30 [.int .i64 5, .int .i64 x, .int .i64 kp, .int .i64 c, .int .i64 nw, .int .i64 j, .int .i64 r, .int .i64 k, .int .i64 m] * (gblk bg bd vs g.now * (dsk bd g.d * (nodes3 bd vs g.f * R)))))) ∧ Hid (Quiet w w0) :=
    ⟨_, rfl, Lib.hid ((h.boxB (ty := 30) (cs := [.int .i64 5, .int .i64 x, .int .i64 kp, .int .i64 c, .int .i64 nw, .int .i64 j, .int .i64 r, .int .i64 k, .int .i64 m]) rfl).boxB (ty := 32) (cs := [.int .i64 0, .int .i64 0, .int .i64 0]) (g := w.heap.size + 1) (by simp)), Lib.hid (((Quiet.refl w).alloc _).alloc _)⟩
  clear h
  obtain ⟨g0, hg0⟩ : ∃ g0, w.heap.size = g0 := ⟨_, rfl⟩
  rw [hg0] at H0
  obtain ⟨ga, hga⟩ : ∃ ga, g0 + 1 = ga := ⟨_, rfl⟩
  rw [hga] at H0
  have co := H0.out.two.bl.cells
  obtain ⟨d, f, now⟩ := g
  dsimp only at H0 hn
  have hn0 := hn.1
  have hn1 := hn.2
  clear hn
  have hsub : IntKind.i64.wrap (60000 - now) = 60000 - now := by rw [IntKind.wrap_i64]; omega
  by_cases hx : x < 0
  · have he : (⟨d, f, now⟩ : Gld).step ⟨5, x, kp, ⟨c, nw, j, r, k, m⟩⟩ = (⟨d, f, now⟩, ⟨3, 0, 0⟩) := by
      unfold Gld.step; dsimp only; rw [if_neg (by decide), if_pos rfl, if_pos (.inl hx)]
    rw [he]; clear he
    have hxb : decide (x < 0) = true := by simpa using hx
    go_enter Try.func11, Try.ntmps11
    go_wp2_with fail
    clear hw0 hg0 hga
    refine wp_region_lex (fun W => (∀ o, W.cell? ⟨g0, o, none⟩ = [.int .i64 5, .int .i64 x, .int .i64 kp, .int .i64 c, .int .i64 nw, .int .i64 j, .int .i64 r, .int .i64 k, .int .i64 m][o]?) ∧ W.cell? ⟨bg, 4, none⟩ = some (.int .i64 now)) [] (by kernel_rfl) (by kernel_rfl) ⟨H0.out.two.drew.bl.cells, (show BlockAt _ bg 49 (gcells bd vs now) from H0.out.three.drew.bl).cell 4 _ rfl⟩ ?_
    repeat (first | (refine LexL.none (by rfl) ?_; (try simp only [Act.put, List.setIfInBounds_toArray, List.set_cons_zero, List.set_cons_succ])) | (refine LexL.still (v := ?_) (by rfl) ?_ ?_; rotate_left; (focus (intro W hW; (try dsimp only at hW); go_simp; (try (with_reducible rfl)); done)); (try simp only [Act.put, List.setIfInBounds_toArray, List.set_cons_zero, List.set_cons_succ])))
    refine LexL.done ?_
    obtain ⟨w1, hw1, H1, Q1⟩ : ∃ w1, w0.drew = w1 ∧ Hid (Holds w1 (bl ga 32 [.int .i64 0, .int .i64 0, .int .i64 0] * (bl g0 30 [.int .i64 5, .int .i64 x, .int .i64 kp, .int .i64 c, .int .i64 nw, .int .i64 j, .int .i64 r, .int .i64 k, .int .i64 m] * (gblk bg bd vs now * (dsk bd d * (nodes3 bd vs f * R)))))) ∧ Hid (Quiet w w1) := ⟨_, rfl, Lib.hid H0.out.drew, Lib.hid Q0.out.drew⟩
    rw [hw1]
    clear hw1 co H0 Q0
    have ca := H1.out.bl.cells
    have fa := H1.out.bl.frees
    have la := H1.out.bl.lt
    go_wp2
    have hf := ((H1.out.setB 0 (.int .i64 3)).setB 1 (.int .i64 0)).setB 2 (.int .i64 0)
    have hl := run_load_part (P := Try.prog) (off := 0) (ty := 32) (vs := [.int .i64 3, .int .i64 0, .int .i64 0]) hf.bl rfl Try.underlying32 rfl (by kernel_rfl)
    exact bodyPost_ret (results_cell1 rfl rfl hl) rfl ⟨rfl, ((Q1.out.setCell _ _).setCell _ _).setCell _ _, gld_close hf.right.right⟩
  · by_cases hy : 60000 - now < x
    · have he : (⟨d, f, now⟩ : Gld).step ⟨5, x, kp, ⟨c, nw, j, r, k, m⟩⟩ = (⟨d, f, now⟩, ⟨3, 0, 0⟩) := by
        unfold Gld.step; dsimp only; rw [if_neg (by decide), if_pos rfl, if_pos (.inr hy)]
      rw [he]; clear he
      have hxb : decide (x < 0) = false := by simpa using hx
      have hyb : decide (60000 - now < x) = true := by simpa using hy
      go_enter Try.func11, Try.ntmps11
      go_wp2_with fail
      clear hw0 hg0 hga
      refine wp_region_lex (fun W => (∀ o, W.cell? ⟨g0, o, none⟩ = [.int .i64 5, .int .i64 x, .int .i64 kp, .int .i64 c, .int .i64 nw, .int .i64 j, .int .i64 r, .int .i64 k, .int .i64 m][o]?) ∧ W.cell? ⟨bg, 4, none⟩ = some (.int .i64 now)) [] (by kernel_rfl) (by kernel_rfl) ⟨H0.out.two.drew.bl.cells, (show BlockAt _ bg 49 (gcells bd vs now) from H0.out.three.drew.bl).cell 4 _ rfl⟩ ?_
      repeat (first | (refine LexL.none (by rfl) ?_; (try simp only [Act.put, List.setIfInBounds_toArray, List.set_cons_zero, List.set_cons_succ])) | (refine LexL.still (v := ?_) (by rfl) ?_ ?_; rotate_left; (focus (intro W hW; (try dsimp only at hW); go_simp; (try (with_reducible rfl)); done)); (try simp only [Act.put, List.setIfInBounds_toArray, List.set_cons_zero, List.set_cons_succ])))
      refine LexL.done ?_
      obtain ⟨w1, hw1, H1, Q1⟩ : ∃ w1, w0.drew = w1 ∧ Hid (Holds w1 (bl ga 32 [.int .i64 0, .int .i64 0, .int .i64 0] * (bl g0 30 [.int .i64 5, .int .i64 x, .int .i64 kp, .int .i64 c, .int .i64 nw, .int .i64 j, .int .i64 r, .int .i64 k, .int .i64 m] * (gblk bg bd vs now * (dsk bd d * (nodes3 bd vs f * R)))))) ∧ Hid (Quiet w w1) := ⟨_, rfl, Lib.hid H0.out.drew, Lib.hid Q0.out.drew⟩
      rw [hw1]
      clear hw1 co H0 Q0
      have ca := H1.out.bl.cells
      have fa := H1.out.bl.frees
      have la := H1.out.bl.lt
      go_wp2
      have hf := ((H1.out.setB 0 (.int .i64 3)).setB 1 (.int .i64 0)).setB 2 (.int .i64 0)
      have hl := run_load_part (P := Try.prog) (off := 0) (ty := 32) (vs := [.int .i64 3, .int .i64 0, .int .i64 0]) hf.bl rfl Try.underlying32 rfl (by kernel_rfl)
      exact bodyPost_ret (results_cell1 rfl rfl hl) rfl ⟨rfl, ((Q1.out.setCell _ _).setCell _ _).setCell _ _, gld_close hf.right.right⟩
    · have he : (⟨d, f, now⟩ : Gld).step ⟨5, x, kp, ⟨c, nw, j, r, k, m⟩⟩ = (⟨d, f, now + x⟩, ⟨0, 0, 0⟩) := by
        unfold Gld.step; dsimp only; rw [if_neg (by decide), if_pos rfl, if_neg (by omega)]
      rw [he]; clear he
      have hxb : decide (x < 0) = false := by simpa using hx
      have hyb : decide (60000 - now < x) = false := by simpa using hy
      go_enter Try.func11, Try.ntmps11
      go_wp2_with fail
      clear hw0 hg0 hga
      refine wp_region_lex (fun W => (∀ o, W.cell? ⟨g0, o, none⟩ = [.int .i64 5, .int .i64 x, .int .i64 kp, .int .i64 c, .int .i64 nw, .int .i64 j, .int .i64 r, .int .i64 k, .int .i64 m][o]?) ∧ W.cell? ⟨bg, 4, none⟩ = some (.int .i64 now)) [] (by kernel_rfl) (by kernel_rfl) ⟨H0.out.two.drew.bl.cells, (show BlockAt _ bg 49 (gcells bd vs now) from H0.out.three.drew.bl).cell 4 _ rfl⟩ ?_
      repeat (first | (refine LexL.none (by rfl) ?_; (try simp only [Act.put, List.setIfInBounds_toArray, List.set_cons_zero, List.set_cons_succ])) | (refine LexL.still (v := ?_) (by rfl) ?_ ?_; rotate_left; (focus (intro W hW; (try dsimp only at hW); go_simp; (try (with_reducible rfl)); done)); (try simp only [Act.put, List.setIfInBounds_toArray, List.set_cons_zero, List.set_cons_succ])))
      refine LexL.done ?_
      obtain ⟨w1, hw1, H1, Q1⟩ : ∃ w1, w0.drew = w1 ∧ Hid (Holds w1 (bl ga 32 [.int .i64 0, .int .i64 0, .int .i64 0] * (bl g0 30 [.int .i64 5, .int .i64 x, .int .i64 kp, .int .i64 c, .int .i64 nw, .int .i64 j, .int .i64 r, .int .i64 k, .int .i64 m] * (gblk bg bd vs now * (dsk bd d * (nodes3 bd vs f * R)))))) ∧ Hid (Quiet w w1) := ⟨_, rfl, Lib.hid H0.out.drew, Lib.hid Q0.out.drew⟩
      rw [hw1]
      clear hw1 co H0 Q0
      have ca := H1.out.bl.cells
      have fa := H1.out.bl.frees
      have la := H1.out.bl.lt
      go_wp2_with fail
      refine wp_region_still_tail 9 (by kernel_rfl) (by kernel_rfl) ?_
      simp only [List.take_succ_cons, List.take_zero, List.drop_succ_cons, List.drop_zero]
      change wpStill _ _ w1.drew (fun a' => wpList _ _ _ _ a' w1.drew) _ _
      obtain ⟨w2, hw2, H2, Q2⟩ : ∃ w2, w1.drew = w2 ∧ Hid (Holds w2 (bl ga 32 [.int .i64 0, .int .i64 0, .int .i64 0] * (bl g0 30 [.int .i64 5, .int .i64 x, .int .i64 kp, .int .i64 c, .int .i64 nw, .int .i64 j, .int .i64 r, .int .i64 k, .int .i64 m] * (gblk bg bd vs now * (dsk bd d * (nodes3 bd vs f * R)))))) ∧ Hid (Quiet w w2) := ⟨_, rfl, Lib.hid H1.out.drew, Lib.hid Q1.out.drew⟩
      rw [hw2]
      clear hw2 ca fa la H1 Q1
      have cs := H2.out.two.bl.cells
      have c4 := (show BlockAt _ bg 49 (gcells bd vs now) from H2.out.three.bl).cell 4 _ rfl
      have f4 := (show BlockAt _ bg 49 (gcells bd vs now) from H2.out.three.bl).frees
      have l4 := (show BlockAt _ bg 49 (gcells bd vs now) from H2.out.three.bl).lt
      have hsum : IntKind.i64.wrap (now + x) = now + x := by rw [IntKind.wrap_i64]; omega
      have ca := H2.out.bl.cells
      have fa := H2.out.bl.frees
      have la := H2.out.bl.lt
      have hne1 : bg ≠ ga := BlockAt.ne (show BlockAt w2 bg 49 (gcells bd vs now) from H2.out.three.bl) H2.out.bl (by decide)
      have hne2 := Ne.symm hne1
      repeat still_step
      refine wpStill_nil ?_
      go_wp2
      have h3 := H2.out.three.setB 4 (.int .i64 (now + x))
      have hf := ((h3.two.setB 0 (.int .i64 0)).setB 1 (.int .i64 0)).setB 2 (.int .i64 0)
      have hl := run_load_part (P := Try.prog) (off := 0) (ty := 32) (vs := [.int .i64 0, .int .i64 0, .int .i64 0]) hf.bl rfl Try.underlying32 rfl (by kernel_rfl)
      exact bodyPost_ret (results_cell1 rfl rfl hl) rfl ⟨rfl, (((Q2.out.setCell _ _).setCell _ _).setCell _ _).setCell _ _, gld_close (g := ⟨d, f, now + x⟩) hf.right.two.right⟩
end Go.Proofs.Ytfihmpkkpgmdhac
