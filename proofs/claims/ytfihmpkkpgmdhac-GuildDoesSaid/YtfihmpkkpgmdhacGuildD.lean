/-
  The package guild, walked: Step, whatever it is.
-/
import Derived.Test.YtfihmpkkpgmdhacGuildC
import Derived.Deep.Cut
namespace Go.Proofs.Ytfihmpkkpgmdhac
set_option linter.unusedSimpArgs false
set_option linter.unusedVariables false
open Go.RowKit
set_option maxRecDepth 100000 in
set_option maxHeartbeats 4000000 in
theorem gStep_none (bg bd : Nat) (vs : Nat → Value) (g : Gld) (kd x kp c nw j r k m : Int) (w : World) {R : HP} (h : Holds w (gblk bg bd vs g.now * (dsk bd g.d * (nodes3 bd vs g.f * R)))) (hk : kd = 2 ∨ kd = 3 ∨ kd = 4) (hn : g.nod x = none) :
    Calls Try.prog 11 #[.pointer (some ⟨bg, 0, none⟩), .agg #[.int .i64 kd, .int .i64 x, .int .i64 kp, .int .i64 c, .int .i64 nw, .int .i64 j, .int .i64 r, .int .i64 k, .int .i64 m]] w (GPost w bg R (g.step ⟨kd, x, kp, ⟨c, nw, j, r, k, m⟩⟩)) := by
  obtain ⟨w0, hw0, H0, Q0⟩ : ∃ w0, (w.alloc (.cells #[.int .i64 kd, .int .i64 x, .int .i64 kp, .int .i64 c, .int .i64 nw, .int .i64 j, .int .i64 r, .int .i64 k, .int .i64 m] 30)).alloc (.cells #[.int .i64 0, .int .i64 0, .int .i64 0] 32) = w0 ∧ Hid (Holds w0 (bl (w.heap.size + 1) 32 [.int .i64 0, .int .i64 0, .int .i64 0] * (bl w.heap.size 30 [.int .i64 kd, .int .i64 x, .int .i64 kp, .int .i64 c, .int .i64 nw, .int .i64 j, .int .i64 r, .int .i64 k, .int .i64 m] * (gblk bg bd vs g.now * (dsk bd g.d * (nodes3 bd vs g.f * R)))))) ∧ Hid (Quiet w w0) :=
    ⟨_, rfl, Lib.hid ((h.boxB (ty := 30) (cs := [.int .i64 kd, .int .i64 x, .int .i64 kp, .int .i64 c, .int .i64 nw, .int .i64 j, .int .i64 r, .int .i64 k, .int .i64 m]) rfl).boxB (ty := 32) (cs := [.int .i64 0, .int .i64 0, .int .i64 0]) (g := w.heap.size + 1) (by simp)), Lib.hid (((Quiet.refl w).alloc _).alloc _)⟩
  clear h
  obtain ⟨g0, hg0⟩ : ∃ g0, w.heap.size = g0 := ⟨_, rfl⟩
  rw [hg0] at H0
  obtain ⟨ga, hga⟩ : ∃ ga, g0 + 1 = ga := ⟨_, rfl⟩
  rw [hga] at H0
  have co := H0.out.two.bl.cells
  obtain ⟨d, f, now⟩ := g
  dsimp only at H0
  have he : (⟨d, f, now⟩ : Gld).step ⟨kd, x, kp, ⟨c, nw, j, r, k, m⟩⟩ = (⟨d, f, now⟩, ⟨5, 0, 0⟩) := by
    unfold Gld.step; dsimp only; rw [if_neg (by omega), if_neg (by omega), if_pos hk, hn]
  rw [he]; clear he
  have hv : gAt vs x = .pointer none := by
    unfold gAt
    unfold Gld.nod at hn
    split
    · rfl
    · rename_i hx
      rw [if_neg hx] at hn
      have hi : x.toNat < 3 := by omega
      have h := H0.out.right.right.right.right.eq (by rw [nodes3_pick bd vs f hi, show f x.toNat = none from hn]; ac_rfl : _ = onod (vs x.toNat) bd none * (nrest bd vs f x.toNat * R))
      exact (onod_none h).1
  have HV := Lib.hid hv
  clear hv hn
  have b1 : (kd == 1) = false := by simp only [beq_eq_false_iff_ne, ne_eq]; omega
  have b5 : (kd == 5) = false := by simp only [beq_eq_false_iff_ne, ne_eq]; omega
  have ca := H0.out.bl.cells
  have fa := H0.out.bl.frees
  have la := H0.out.bl.lt
  obtain ⟨b2, b3, b4, hb⟩ : ∃ b2 b3 b4 : Bool, ((kd == 2) = b2 ∧ (kd == 3) = b3 ∧ (kd == 4) = b4) ∧ (b2 || b3 || b4) = true := ⟨_, _, _, ⟨rfl, rfl, rfl⟩, by rcases hk with rfl | rfl | rfl <;> rfl⟩
  clear hk
  rcases (show (b2 = true ∨ (b2 = false ∧ b3 = true) ∨ (b2 = false ∧ b3 = false ∧ b4 = true)) by revert hb; cases b2 <;> cases b3 <;> cases b4 <;> simp) with rfl | ⟨rfl, rfl⟩ | ⟨rfl, rfl, rfl⟩
  all_goals
    obtain ⟨⟨e2, e3, e4⟩, _⟩ := hb
    go_enter Try.func11, Try.ntmps11
    go_wp2_with fail
    clear hw0 hg0 hga
    refine (gNode_sl bg bd vs now x _ H0.out.three).mono ?_
    rw [HV.out]
    rintro e w1 ⟨rfl, rfl⟩
    go_wp2
    have hf := ((H0.out.setB 0 (.int .i64 5)).setB 1 (.int .i64 0)).setB 2 (.int .i64 0)
    have hl := run_load_part (P := Try.prog) (off := 0) (ty := 32) (vs := [.int .i64 5, .int .i64 0, .int .i64 0]) hf.bl rfl Try.underlying32 rfl (by kernel_rfl)
    exact bodyPost_ret (results_cell1 rfl rfl hl) rfl ⟨rfl, ((Q0.out.setCell _ _).setCell _ _).setCell _ _, gld_close hf.right.right⟩
set_option maxRecDepth 100000 in
set_option maxHeartbeats 4000000 in
theorem gStep_node (bg bd : Nat) (vs : Nat → Value) (g : Gld) (n : Nod) (kd x kp c nw j r k m : Int) (w : World) {R : HP} (h : Holds w (gblk bg bd vs g.now * (dsk bd g.d * (nodes3 bd vs g.f * R)))) (hk : kd = 2 ∨ kd = 3 ∨ kd = 4) (hn : g.nod x = some n) (hd : g.d.Ok) (hep : 1 ≤ n.ep) (hok : n.t.Ok) :
    Calls Try.prog 11 #[.pointer (some ⟨bg, 0, none⟩), .agg #[.int .i64 kd, .int .i64 x, .int .i64 kp, .int .i64 c, .int .i64 nw, .int .i64 j, .int .i64 r, .int .i64 k, .int .i64 m]] w (GPost w bg R (g.step ⟨kd, x, kp, ⟨c, nw, j, r, k, m⟩⟩)) := by
  obtain ⟨w0, hw0, H0, Q0⟩ : ∃ w0, (w.alloc (.cells #[.int .i64 kd, .int .i64 x, .int .i64 kp, .int .i64 c, .int .i64 nw, .int .i64 j, .int .i64 r, .int .i64 k, .int .i64 m] 30)).alloc (.cells #[.int .i64 0, .int .i64 0, .int .i64 0] 32) = w0 ∧ Hid (Holds w0 (bl (w.heap.size + 1) 32 [.int .i64 0, .int .i64 0, .int .i64 0] * (bl w.heap.size 30 [.int .i64 kd, .int .i64 x, .int .i64 kp, .int .i64 c, .int .i64 nw, .int .i64 j, .int .i64 r, .int .i64 k, .int .i64 m] * (gblk bg bd vs g.now * (dsk bd g.d * (nodes3 bd vs g.f * R)))))) ∧ Hid (Quiet w w0) :=
    ⟨_, rfl, Lib.hid ((h.boxB (ty := 30) (cs := [.int .i64 kd, .int .i64 x, .int .i64 kp, .int .i64 c, .int .i64 nw, .int .i64 j, .int .i64 r, .int .i64 k, .int .i64 m]) rfl).boxB (ty := 32) (cs := [.int .i64 0, .int .i64 0, .int .i64 0]) (g := w.heap.size + 1) (by simp)), Lib.hid (((Quiet.refl w).alloc _).alloc _)⟩
  clear h
  obtain ⟨g0, hg0⟩ : ∃ g0, w.heap.size = g0 := ⟨_, rfl⟩
  rw [hg0] at H0
  obtain ⟨ga, hga⟩ : ∃ ga, g0 + 1 = ga := ⟨_, rfl⟩
  rw [hga] at H0
  have co := H0.out.two.bl.cells
  obtain ⟨d, f, now⟩ := g
  dsimp only at H0
  obtain ⟨⟨d', n', ⟨a1, a2, a3⟩⟩, hX⟩ : ∃ X, gact d n kd kp ⟨c, now, j, r, k, m⟩ = X := ⟨_, rfl⟩
  have he : (⟨d, f, now⟩ : Gld).step ⟨kd, x, kp, ⟨c, nw, j, r, k, m⟩⟩ = (⟨d', putN f x.toNat n', now⟩, ⟨a1, a2, a3⟩) := by
    unfold Gld.step; dsimp only; rw [if_neg (by omega), if_neg (by omega), if_pos hk, hn]
    unfold gact at hX
    dsimp only [Ord.at]
    by_cases h2 : kd = 2
    · rw [if_pos h2] at hX ⊢; rw [hX]
    · rw [if_neg h2] at hX ⊢
      by_cases h3 : kd = 3
      · rw [if_pos h3] at hX ⊢
        simp only [Prod.mk.injEq] at hX
        obtain ⟨e1, e2, e3⟩ := hX
        rw [e1, e2, e3]
      · rw [if_neg h3] at hX ⊢
        simp only [Prod.mk.injEq] at hX
        obtain ⟨e1, e2, e3⟩ := hX
        rw [e1, e2, e3]
  rw [he]; clear he
  have hnode := fun W (R' : HP) bn (h : Holds W (nod bn bd n * (dsk bd d * R'))) => gnode_sl bg bn bd d n kd x kp c now j r k m W h hd hep hok
  rw [hX] at hnode
  have HN := Lib.hid hnode
  have hxx : ¬ (x < 0 ∨ 3 ≤ x) := by
    intro h; unfold Gld.nod at hn; rw [if_pos h] at hn; cases hn
  obtain ⟨i, rfl⟩ := Int.eq_ofNat_of_zero_le (show 0 ≤ x by omega)
  have hi : i < 3 := by omega
  have hfi : f i = some n := by unfold Gld.nod at hn; rw [if_neg hxx] at hn; exact hn
  have h5 := H0.out.eq (by rw [nodes3_pick bd vs f hi, hfi]; ac_rfl : _ = onod (vs i) bd (some n) * (bl ga 32 [.int .i64 0, .int .i64 0, .int .i64 0] * (bl g0 30 [.int .i64 kd, .int .i64 i, .int .i64 kp, .int .i64 c, .int .i64 nw, .int .i64 j, .int .i64 r, .int .i64 k, .int .i64 m] * (gblk bg bd vs now * (dsk bd d * (nrest bd vs f i * R))))))
  obtain ⟨bn, hvi, h6⟩ := onod_some h5
  have HV := Lib.hid (show gAt vs i = .pointer (some ⟨bn, 0, none⟩) by unfold gAt; rw [if_neg hxx]; exact hvi)
  have HVI := Lib.hid hvi
  have H6 := Lib.hid h6
  clear hnode hX hn hd hep hok hxx hfi h5 h6 hvi H0
  have b1 : (kd == 1) = false := by simp only [beq_eq_false_iff_ne, ne_eq]; omega
  have b5 : (kd == 5) = false := by simp only [beq_eq_false_iff_ne, ne_eq]; omega
  have cg := (show BlockAt w0 bg 49 (gcells bd vs now) from H6.out.four.bl).cell 4 _ rfl
  have fs := H6.out.three.bl.frees
  have ls := H6.out.three.bl.lt
  obtain ⟨b2, b3, b4, hb⟩ : ∃ b2 b3 b4 : Bool, ((kd == 2) = b2 ∧ (kd == 3) = b3 ∧ (kd == 4) = b4) ∧ (b2 || b3 || b4) = true := ⟨_, _, _, ⟨rfl, rfl, rfl⟩, by rcases hk with rfl | rfl | rfl <;> rfl⟩
  clear hk
  rcases (show (b2 = true ∨ (b2 = false ∧ b3 = true) ∨ (b2 = false ∧ b3 = false ∧ b4 = true)) by revert hb; cases b2 <;> cases b3 <;> cases b4 <;> simp) with rfl | ⟨rfl, rfl⟩ | ⟨rfl, rfl, rfl⟩
  all_goals
    obtain ⟨⟨e2, e3, e4⟩, _⟩ := hb
    go_enter Try.func11, Try.ntmps11
    go_wp2_with fail
    clear hw0 hg0 hga
    refine (gNode_sl bg bd vs now i _ H6.out.four).mono ?_
    rw [HV.out]
    rintro e w1 ⟨rfl, rfl⟩
    go_upto_region 16 with fail
    obtain ⟨w2, hw2, H7, Q7⟩ : ∃ w2, w0.setCell ⟨g0, 4, none⟩ (.int .i64 now) = w2 ∧ Hid (Holds w2 (bl g0 30 [.int .i64 kd, .int .i64 i, .int .i64 kp, .int .i64 c, .int .i64 now, .int .i64 j, .int .i64 r, .int .i64 k, .int .i64 m] * (nod bn bd n * (dsk bd d * (bl ga 32 [.int .i64 0, .int .i64 0, .int .i64 0] * (gblk bg bd vs now * (nrest bd vs f i * R))))))) ∧ Hid (Quiet w w2) :=
      ⟨_, rfl, Lib.hid ((H6.out.three.setB 4 (.int .i64 now)).eq (by simp only [List.set_cons_zero, List.set_cons_succ]; ac_rfl)), Lib.hid (Q0.out.setCell _ _)⟩
    rw [hw2]
    clear hw2 cg fs ls co H6 Q0
    go_wp2_with (refine wpList_load_whole rfl 30 _ rfl g0 rfl [.int .i64 kd, .int .i64 i, .int .i64 kp, .int .i64 c, .int .i64 now, .int .i64 j, .int .i64 r, .int .i64 k, .int .i64 m] H7.out.bl Try.underlying30 rfl (by kernel_rfl) ?_)
    refine (HN.out _ _ bn H7.out.right).mono ?_
    rintro e w3 ⟨rfl, q3, h3⟩
    have h8 := h3.eq (by ac_rfl : _ = bl ga 32 [.int .i64 0, .int .i64 0, .int .i64 0] * (nod bn bd n' * (gblk bg bd vs now * (dsk bd d' * (nrest bd vs f i * R)))))
    have ca := h8.bl.cells
    have fa := h8.bl.frees
    have la := h8.bl.lt
    have H8 := Lib.hid h8; have Q8 := Lib.hid (Q7.out.trans q3)
    clear h3 h8 q3 H7 Q7
    simp only [Ans.val]
    go_wp2
    have hf := ((H8.out.setB 0 (.int .i64 a1)).setB 1 (.int .i64 a2)).setB 2 (.int .i64 a3)
    have hl := run_load_part (P := Try.prog) (off := 0) (ty := 32) (vs := [.int .i64 a1, .int .i64 a2, .int .i64 a3]) hf.bl rfl Try.underlying32 rfl (by kernel_rfl)
    have hz := onod_mk hf.right
    rw [← HVI.out] at hz
    exact bodyPost_ret (results_cell1 rfl rfl hl) rfl ⟨rfl, ((Q8.out.setCell _ _).setCell _ _).setCell _ _, gld_close (g := ⟨d', putN f i n', now⟩) (vs := updV vs i (vs i)) (hz.eq (by rw [nodes3_put bd vs f hi, updV_self]; ac_rfl))⟩
theorem gStep_sl (bg : Nat) (g : Gld) (kd x kp c nw j r k m : Int) (l : List Rec) (w : World) {R : HP} (h : Holds w (gld bg g * R)) (hg : g.Ok l) :
    Calls Try.prog 11 #[.pointer (some ⟨bg, 0, none⟩), .agg #[.int .i64 kd, .int .i64 x, .int .i64 kp, .int .i64 c, .int .i64 nw, .int .i64 j, .int .i64 r, .int .i64 k, .int .i64 m]] w (GPost w bg R (g.step ⟨kd, x, kp, ⟨c, nw, j, r, k, m⟩⟩)) := by
  obtain ⟨bd, vs, h⟩ := gld_open h
  by_cases h1 : kd = 1
  · subst h1; exact gStep_open bg bd vs g x kp c nw j r k m w h hg.fam.ok
  by_cases h5 : kd = 5
  · subst h5; exact gStep_tick bg bd vs g x kp c nw j r k m w h hg.now
  by_cases hk : kd = 2 ∨ kd = 3 ∨ kd = 4
  · cases hn : g.nod x with
    | none => exact gStep_none bg bd vs g kd x kp c nw j r k m w h hk hn
    | some n =>
      have hs := hg.fam.sv _ _ (nod_some hn).2.1
      exact gStep_node bg bd vs g n kd x kp c nw j r k m w h hk hn hg.fam.ok hs.1.1 hs.2.1.ok
  · exact gStep_kind bg bd vs g kd x kp c nw j r k m w h h1 (by omega) (by omega) (by omega) h5
end Go.Proofs.Ytfihmpkkpgmdhac
