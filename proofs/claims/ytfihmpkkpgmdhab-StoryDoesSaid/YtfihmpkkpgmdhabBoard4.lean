/-
  The document's board, walked: Did.
-/
import Derived.Test.YtfihmpkkpgmdhabBoard2
namespace Go.Proofs.Ytfihmpkkpgmdhab
set_option linter.unusedSimpArgs false
set_option linter.unusedVariables false
open Go.RowKit
set_option maxRecDepth 100000 in
set_option maxHeartbeats 4000000 in
theorem bdid_add1 (t : Tbl) (nw tr wk tm : Int) (q : Nat) (w : World) (hok : t.Ok) (ho : chk ⟨1, nw, (q : Int), tr, wk, tm⟩ = 0) (hq6 : q < 6) (hs : ((t.pass nw).jobs q).st ≠ 0) : Calls Try.prog 55 #[.agg (tcells t).toArray, .agg #[.int .i64 1, .int .i64 nw, .int .i64 (q : Int), .int .i64 tr, .int .i64 wk, .int .i64 tm]] w (DidPost w (t.did ⟨1, nw, (q : Int), tr, wk, tm⟩)) := by
  have HO := Lib.hid ho; clear ho
  have hok' := pass_ok hok (chk_more HO.out).1.2
  have HOK := Lib.hid hok'; clear hok hok'
  have htm0 := (chk_zero HO.out).2.2.2.1
  have htm1 := (chk_zero HO.out).2.2.2.2
  dsimp only at htm0 htm1
  obtain ⟨X, hX⟩ : ∃ X, t.did ⟨1, nw, (q : Int), tr, wk, tm⟩ = X := ⟨_, rfl⟩
  rw [hX]
  have HX := Lib.hid hX; clear hX
  have h0 := ((((Holds.old (w := w)).boxB (ty := 41) (cs := tcells t) rfl).boxB (ty := 35) (cs := [.int .i64 1, .int .i64 nw, .int .i64 (q : Int), .int .i64 tr, .int .i64 wk, .int .i64 tm]) (g := w.heap.size + 1) (by simp)).boxB (ty := 41) (cs := tcells Tbl.zero) (g := w.heap.size + 1 + 1) (by simp)).boxB (ty := 32) (cs := [.int .i64 0, .int .i64 0, .int .i64 0]) (g := w.heap.size + 1 + 1 + 1) (by simp)
  have H0 := Lib.hid h0; clear h0
  have q0 := ((((Quiet.refl w).alloc (.cells (tcells t).toArray 41)).alloc (.cells ([.int .i64 1, .int .i64 nw, .int .i64 (q : Int), .int .i64 tr, .int .i64 wk, .int .i64 tm] : List Value).toArray 35)).alloc (.cells (tcells Tbl.zero).toArray 41)).alloc (.cells ([.int .i64 0, .int .i64 0, .int .i64 0] : List Value).toArray 32)
  have Q0 := Lib.hid q0; clear q0
  go_enter Try.func55, Try.ntmps55
  go_wp2_with fail
  refine (ofault_any 1 nw (q : Int) tr wk tm _).mono ?_
  rw [HO.out]
  rintro e w1 ⟨rfl, hb1⟩
  have H1 := Lib.hid (H0.out.below hb1); have Q1 := Lib.hid (Q0.out.trans (Quiet.below hb1)); clear hb1 H0 Q0
  have x1 := H1.out.right.right.bl.cells
  have HS0 := Lib.hid H1.out.right.right.right.bl
  go_wp2_with (refine wpList_load_whole rfl 41 _ rfl w.heap.size rfl (tcells t) HS0.out Try.underlying41 rfl (by kernel_rfl) ?_)
  refine (later_any t nw _).mono ?_
  rintro e w2 ⟨rfl, hb2⟩
  obtain ⟨P, hP⟩ : ∃ P, t.pass nw = P := ⟨_, rfl⟩
  rw [hP]
  have HP := Lib.hid hP; clear hP
  have H2 := Lib.hid (H1.out.below hb2); have Q2 := Lib.hid (Q1.out.trans (Quiet.below hb2)); clear hb2 x1 HS0 H1 Q1
  rw [HP.out] at HOK
  have hn0 := HOK.out.now.1
  have hn1 := HOK.out.now.2
  obtain ⟨⟨s0, k0, r0, u0⟩, hJ⟩ : ∃ J, P.jobs q = J := ⟨_, rfl⟩
  have HJ := Lib.hid hJ
  rw [HP.out, hJ] at hs
  dsimp only at hs
  have hs1 : (s0 != 0) = true := by simpa using hs
  have hx : X = (t, ⟨4, 0, 0⟩) := by
    rw [← HX.out]
    refine did_not HO.out (p := P) ?_ (by simp)
    dsimp only
    rw [HP.out]
    simp [Tbl.act, hJ, hs]
  subst hx
  have HS := Lib.hid hs; clear hs
  clear hJ
  go_upto_region 14 with (refine wpList_store_whole rfl 41 _ _ rfl w2.heap.size (tcells P) rfl rfl (BlockAt.new w2 41 (tcells Tbl.zero)) (by simp [tcells_len]) (by kernel_rfl) (tcells_ones P) ?_; intro w3 h1' h2' h3'; have H3 := Lib.hid ((H2.out.allocB 41 (tcells Tbl.zero)).grown h2' h1'); have Q3 := Lib.hid ((Q2.out.alloc (.cells (tcells Tbl.zero).toArray 41)).trans (Quiet.grown h2')); have x1 := H3.out.right.right.right.bl.cells; have HS4 := Lib.hid H3.out.bl; clear h1' h2' h3')
  obtain ⟨c0, c1, c2, c3⟩ := HS4.out.job hq6
  rw [HJ.out] at c0 c1 c2 c3
  dsimp only at c0 c1 c2 c3
  go_upto_region 15 with fail
  have h4 := (H3.out.boxB (ty := 27) (cs := [.int .i64 s0, .int .i64 k0, .int .i64 r0, .int .i64 u0]) rfl)
  have q4 := (Q3.out.alloc (.cells ([.int .i64 s0, .int .i64 k0, .int .i64 r0, .int .i64 u0] : List Value).toArray 27))
  obtain ⟨w4, hw4⟩ : ∃ w4, w3.alloc (.cells ([.int .i64 s0, .int .i64 k0, .int .i64 r0, .int .i64 u0] : List Value).toArray 27) = w4 := ⟨_, rfl⟩
  obtain ⟨bj, hbj⟩ : ∃ bj, w3.heap.size = bj := ⟨_, rfl⟩
  obtain ⟨b4, hb4⟩ : ∃ b4, w2.heap.size = b4 := ⟨_, rfl⟩
  rw [hw4, hbj] at h4
  rw [hb4] at h4
  rw [hw4] at q4
  have hw4' : w3.alloc (.cells #[.int .i64 s0, .int .i64 k0, .int .i64 r0, .int .i64 u0] 27) = w4 := hw4
  rw [hw4', hbj, hb4]
  clear c0 c1 c2 c3 HS4 x1 hw4 hw4' hbj hb4 H3 Q3 H2 Q2
  have x1 := h4.right.right.right.right.bl.cells
  have xj := h4.bl.cells
  have HS4 := Lib.hid h4.two.bl
  have f4 := HS4.out.frees
  have l4 := HS4.out.lt
  have lj := h4.bl.lt
  obtain ⟨c0, c1, c2, c3⟩ := HS4.out.job hq6
  rw [HJ.out] at c0 c1 c2 c3
  dsimp only at c0 c1 c2 c3
  have H4 := Lib.hid h4; have Q4 := Lib.hid q4; clear h4 q4
  go_wp2_with (first | (refine wpList_load_whole rfl 41 _ rfl w.heap.size rfl (tcells t) H4.out.right.right.right.right.right.bl Try.underlying41 rfl (by kernel_rfl) ?_) | (refine wpList_store_whole rfl 41 _ _ rfl (w.heap.size + 1 + 1) (tcells t) rfl rfl H4.out.four.bl (by simp [tcells_len]) (by kernel_rfl) (tcells_ones t) ?_; intro w' h1' h2' h3'; have HE := Lib.hid (H4.out.four.grown h2' h1').four; have QE := Lib.hid (Quiet.grown h2'); have fe := HE.out.bl.frees; have ce := HE.out.bl.cells; have le := HE.out.bl.lt; clear h1' h2' h3'))
  have hf := ((HE.out.setB 0 (.int .i64 4)).setB 1 (.int .i64 0)).setB 2 (.int .i64 0)
  have hl1 := run_load_part (P := Try.prog) (off := 0) (ty := 32) (vs := [.int .i64 4, .int .i64 0, .int .i64 0]) hf.bl rfl Try.underlying32 rfl (by kernel_rfl)
  have hl2 := run_load_part (P := Try.prog) (off := 0) (ty := 41) (vs := tcells t) hf.two.bl (by simp) Try.underlying41 rfl (by kernel_rfl)
  exact bodyPost_ret (results_cell2 rfl rfl rfl hl2 hl1) rfl ⟨rfl, hf.right.right.right.right.right.right.toBelow' ((((Q4.out.trans QE.out).setCell _ _).setCell _ _).setCell _ _)⟩
set_option maxRecDepth 100000 in
set_option maxHeartbeats 4000000 in
theorem bdid_add0 (t : Tbl) (nw tr wk tm : Int) (q : Nat) (w : World) (hok : t.Ok) (ho : chk ⟨1, nw, (q : Int), tr, wk, tm⟩ = 0) (hq6 : q < 6) (hs : ((t.pass nw).jobs q).st = 0) : Calls Try.prog 55 #[.agg (tcells t).toArray, .agg #[.int .i64 1, .int .i64 nw, .int .i64 (q : Int), .int .i64 tr, .int .i64 wk, .int .i64 tm]] w (DidPost w (t.did ⟨1, nw, (q : Int), tr, wk, tm⟩)) := by
  have HO := Lib.hid ho; clear ho
  have hok' := pass_ok hok (chk_more HO.out).1.2
  have HOK := Lib.hid hok'; clear hok hok'
  have htm0 := (chk_zero HO.out).2.2.2.1
  have htm1 := (chk_zero HO.out).2.2.2.2
  dsimp only at htm0 htm1
  obtain ⟨X, hX⟩ : ∃ X, t.did ⟨1, nw, (q : Int), tr, wk, tm⟩ = X := ⟨_, rfl⟩
  rw [hX]
  have HX := Lib.hid hX; clear hX
  have h0 := ((((Holds.old (w := w)).boxB (ty := 41) (cs := tcells t) rfl).boxB (ty := 35) (cs := [.int .i64 1, .int .i64 nw, .int .i64 (q : Int), .int .i64 tr, .int .i64 wk, .int .i64 tm]) (g := w.heap.size + 1) (by simp)).boxB (ty := 41) (cs := tcells Tbl.zero) (g := w.heap.size + 1 + 1) (by simp)).boxB (ty := 32) (cs := [.int .i64 0, .int .i64 0, .int .i64 0]) (g := w.heap.size + 1 + 1 + 1) (by simp)
  have H0 := Lib.hid h0; clear h0
  have q0 := ((((Quiet.refl w).alloc (.cells (tcells t).toArray 41)).alloc (.cells ([.int .i64 1, .int .i64 nw, .int .i64 (q : Int), .int .i64 tr, .int .i64 wk, .int .i64 tm] : List Value).toArray 35)).alloc (.cells (tcells Tbl.zero).toArray 41)).alloc (.cells ([.int .i64 0, .int .i64 0, .int .i64 0] : List Value).toArray 32)
  have Q0 := Lib.hid q0; clear q0
  go_enter Try.func55, Try.ntmps55
  go_wp2_with fail
  refine (ofault_any 1 nw (q : Int) tr wk tm _).mono ?_
  rw [HO.out]
  rintro e w1 ⟨rfl, hb1⟩
  have H1 := Lib.hid (H0.out.below hb1); have Q1 := Lib.hid (Q0.out.trans (Quiet.below hb1)); clear hb1 H0 Q0
  have x1 := H1.out.right.right.bl.cells
  have HS0 := Lib.hid H1.out.right.right.right.bl
  go_wp2_with (refine wpList_load_whole rfl 41 _ rfl w.heap.size rfl (tcells t) HS0.out Try.underlying41 rfl (by kernel_rfl) ?_)
  refine (later_any t nw _).mono ?_
  rintro e w2 ⟨rfl, hb2⟩
  obtain ⟨P, hP⟩ : ∃ P, t.pass nw = P := ⟨_, rfl⟩
  rw [hP]
  have HP := Lib.hid hP; clear hP
  have H2 := Lib.hid (H1.out.below hb2); have Q2 := Lib.hid (Q1.out.trans (Quiet.below hb2)); clear hb2 x1 HS0 H1 Q1
  rw [HP.out] at HOK
  have hn0 := HOK.out.now.1
  have hn1 := HOK.out.now.2
  obtain ⟨⟨s0, k0, r0, u0⟩, hJ⟩ : ∃ J, P.jobs q = J := ⟨_, rfl⟩
  have HJ := Lib.hid hJ
  rw [HP.out, hJ] at hs
  dsimp only at hs
  have hs1 : (s0 != 0) = false := by simpa using hs
  have hx : X = (P.set q ⟨1, 0, 0, 0⟩, ⟨0, 0, 0⟩) := by
    rw [← HX.out]
    refine did_of HO.out ?_ rfl
    dsimp only
    rw [HP.out]
    simp [Tbl.act, hJ, hs]
  subst hx
  have HS := Lib.hid hs; clear hs
  clear hJ
  go_upto_region 14 with (refine wpList_store_whole rfl 41 _ _ rfl w2.heap.size (tcells P) rfl rfl (BlockAt.new w2 41 (tcells Tbl.zero)) (by simp [tcells_len]) (by kernel_rfl) (tcells_ones P) ?_; intro w3 h1' h2' h3'; have H3 := Lib.hid ((H2.out.allocB 41 (tcells Tbl.zero)).grown h2' h1'); have Q3 := Lib.hid ((Q2.out.alloc (.cells (tcells Tbl.zero).toArray 41)).trans (Quiet.grown h2')); have x1 := H3.out.right.right.right.bl.cells; have HS4 := Lib.hid H3.out.bl; clear h1' h2' h3')
  obtain ⟨c0, c1, c2, c3⟩ := HS4.out.job hq6
  rw [HJ.out] at c0 c1 c2 c3
  dsimp only at c0 c1 c2 c3
  go_upto_region 15 with fail
  have h4 := (H3.out.boxB (ty := 27) (cs := [.int .i64 s0, .int .i64 k0, .int .i64 r0, .int .i64 u0]) rfl)
  have q4 := (Q3.out.alloc (.cells ([.int .i64 s0, .int .i64 k0, .int .i64 r0, .int .i64 u0] : List Value).toArray 27))
  obtain ⟨w4, hw4⟩ : ∃ w4, w3.alloc (.cells ([.int .i64 s0, .int .i64 k0, .int .i64 r0, .int .i64 u0] : List Value).toArray 27) = w4 := ⟨_, rfl⟩
  obtain ⟨bj, hbj⟩ : ∃ bj, w3.heap.size = bj := ⟨_, rfl⟩
  obtain ⟨b4, hb4⟩ : ∃ b4, w2.heap.size = b4 := ⟨_, rfl⟩
  rw [hw4, hbj] at h4
  rw [hb4] at h4
  rw [hw4] at q4
  have hw4' : w3.alloc (.cells #[.int .i64 s0, .int .i64 k0, .int .i64 r0, .int .i64 u0] 27) = w4 := hw4
  rw [hw4', hbj, hb4]
  clear c0 c1 c2 c3 HS4 x1 hw4 hw4' hbj hb4 H3 Q3 H2 Q2
  have x1 := h4.right.right.right.right.bl.cells
  have xj := h4.bl.cells
  have HS4 := Lib.hid h4.two.bl
  have f4 := HS4.out.frees
  have l4 := HS4.out.lt
  have lj := h4.bl.lt
  obtain ⟨c0, c1, c2, c3⟩ := HS4.out.job hq6
  rw [HJ.out] at c0 c1 c2 c3
  dsimp only at c0 c1 c2 c3
  have H4 := Lib.hid h4; have Q4 := Lib.hid q4; clear h4 q4
  go_upto_region 19 with fail
  have hg : Holds ((((w4.setCell ⟨b4, q * 4, none⟩ (.int .i64 1)).setCell ⟨b4, q * 4 + 1, none⟩ (.int .i64 0)).setCell ⟨b4, q * 4 + 2, none⟩ (.int .i64 0)).setCell ⟨b4, q * 4 + 3, none⟩ (.int .i64 0)) _ := Holds.setJob H4.out.two hq6 ⟨1, 0, 0, 0⟩
  have qg := ((((Q4.out.setCell ⟨b4, q * 4, none⟩ (.int .i64 1)).setCell ⟨b4, q * 4 + 1, none⟩ (.int .i64 0)).setCell ⟨b4, q * 4 + 2, none⟩ (.int .i64 0)).setCell ⟨b4, q * 4 + 3, none⟩ (.int .i64 0))
  obtain ⟨PT, hPT⟩ : ∃ PT, P.set q ⟨1, 0, 0, 0⟩ = PT := ⟨_, rfl⟩
  obtain ⟨we, hwe⟩ : ∃ we, ((((w4.setCell ⟨b4, q * 4, none⟩ (.int .i64 1)).setCell ⟨b4, q * 4 + 1, none⟩ (.int .i64 0)).setCell ⟨b4, q * 4 + 2, none⟩ (.int .i64 0)).setCell ⟨b4, q * 4 + 3, none⟩ (.int .i64 0)) = we := ⟨_, rfl⟩
  rw [hwe, hPT] at hg
  rw [hwe] at qg ⊢
  have HG := Lib.hid hg; have QG := Lib.hid qg; have HPT := Lib.hid hPT
  clear hg qg hPT hwe x1 xj f4 l4 lj HS4 c0 c1 c2 c3
  go_wp2_with (first | (refine wpList_load_whole rfl 41 _ rfl b4 rfl (tcells PT) HG.out.tb Try.underlying41 rfl (by kernel_rfl) ?_) | (refine wpList_store_whole rfl 41 _ _ rfl (w.heap.size + 1 + 1) (tcells PT) rfl rfl HG.out.four.bl (by simp [tcells_len]) (by kernel_rfl) (tcells_ones PT) ?_; intro w' h1' h2' h3'; have HE := Lib.hid (HG.out.four.grown h2' h1').four; have QE := Lib.hid (Quiet.grown h2'); have fe := HE.out.bl.frees; have ce := HE.out.bl.cells; have le := HE.out.bl.lt; clear h1' h2' h3'))
  have hf := ((HE.out.setB 0 (.int .i64 0)).setB 1 (.int .i64 0)).setB 2 (.int .i64 0)
  have hl1 := run_load_part (P := Try.prog) (off := 0) (ty := 32) (vs := [.int .i64 0, .int .i64 0, .int .i64 0]) hf.bl rfl Try.underlying32 rfl (by kernel_rfl)
  have hl2 := run_load_part (P := Try.prog) (off := 0) (ty := 41) (vs := tcells PT) hf.two.bl (by simp) Try.underlying41 rfl (by kernel_rfl)
  exact bodyPost_ret (results_cell2 rfl rfl rfl hl2 hl1) rfl ⟨by rw [← HPT.out], hf.right.right.right.right.right.right.toBelow' ((((QG.out.trans QE.out).setCell _ _).setCell _ _).setCell _ _)⟩
end Go.Proofs.Ytfihmpkkpgmdhab
