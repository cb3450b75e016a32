/-
  The document's board, walked: Did.
-/
import Derived.Test.YtfihmpkkpgmdhabBoard1
import Derived.Test.YtfihmpkkpgmdhabCodec2
import Derived.Deep.Cut
namespace Go.Proofs.Ytfihmpkkpgmdhab
set_option linter.unusedSimpArgs false
set_option linter.unusedVariables false
open Go.RowKit
/-- What Did leaves. -/
def DidPost (w : World) (x : Tbl × Ans) (e : Ending) (w' : World) : Prop :=
  e = .returned (.tuple #[.agg (tcells x.1).toArray, .agg #[.int .i64 x.2.code, .int .i64 x.2.job, .int .i64 x.2.tr]]) ∧ Below w.heap.size w w'
set_option maxRecDepth 100000 in
set_option maxHeartbeats 4000000 in
theorem bdid_no (t : Tbl) (kd nw jb tr wk tm : Int) (w : World) (ho : chk ⟨kd, nw, jb, tr, wk, tm⟩ ≠ 0) : Calls Try.prog 55 #[.agg (tcells t).toArray, .agg #[.int .i64 kd, .int .i64 nw, .int .i64 jb, .int .i64 tr, .int .i64 wk, .int .i64 tm]] w (DidPost w (t.did ⟨kd, nw, jb, tr, wk, tm⟩)) := by
  rw [did_no ho]
  obtain ⟨C, hC⟩ : ∃ C, chk ⟨kd, nw, jb, tr, wk, tm⟩ = C := ⟨_, rfl⟩
  rw [hC]
  have hc1 : (C != 0) = true := by rw [hC] at ho; simpa using ho
  have HC := Lib.hid hC; clear hC ho
  have h0 := ((((Holds.old (w := w)).boxB (ty := 41) (cs := tcells t) rfl).boxB (ty := 35) (cs := [.int .i64 kd, .int .i64 nw, .int .i64 jb, .int .i64 tr, .int .i64 wk, .int .i64 tm]) (g := w.heap.size + 1) (by simp)).boxB (ty := 41) (cs := tcells Tbl.zero) (g := w.heap.size + 1 + 1) (by simp)).boxB (ty := 32) (cs := [.int .i64 0, .int .i64 0, .int .i64 0]) (g := w.heap.size + 1 + 1 + 1) (by simp)
  have H0 := Lib.hid h0; clear h0
  have q0 := ((((Quiet.refl w).alloc (.cells (tcells t).toArray 41)).alloc (.cells ([.int .i64 kd, .int .i64 nw, .int .i64 jb, .int .i64 tr, .int .i64 wk, .int .i64 tm] : List Value).toArray 35)).alloc (.cells (tcells Tbl.zero).toArray 41)).alloc (.cells ([.int .i64 0, .int .i64 0, .int .i64 0] : List Value).toArray 32)
  have Q0 := Lib.hid q0; clear q0
  go_enter Try.func55, Try.ntmps55
  go_wp2_with fail
  refine (ofault_any kd nw jb tr wk tm _).mono ?_
  rw [HC.out]
  rintro e w1 ⟨rfl, hb1⟩
  have H1 := Lib.hid (H0.out.below hb1); have Q1 := Lib.hid (Q0.out.trans (Quiet.below hb1)); clear hb1 H0 Q0
  have x1 := H1.out.right.right.bl.cells
  have HS0 := Lib.hid H1.out.right.right.right.bl
  go_wp2_with (first | (refine wpList_load_whole rfl 41 _ rfl w.heap.size rfl (tcells t) HS0.out Try.underlying41 rfl (by kernel_rfl) ?_) | (refine wpList_store_whole rfl 41 _ _ rfl (w.heap.size + 1 + 1) (tcells t) rfl rfl H1.out.two.bl (by simp [tcells_len]) (by kernel_rfl) (tcells_ones t) ?_; intro w' h1' h2' h3'; have HE := Lib.hid (H1.out.two.grown h2' h1').two; have QE := Lib.hid (Quiet.grown h2'); have fe := HE.out.bl.frees; have ce := HE.out.bl.cells; have le := HE.out.bl.lt; clear h1' h2' h3'))
  have hf := ((HE.out.setB 0 (.int .i64 C)).setB 1 (.int .i64 0)).setB 2 (.int .i64 0)
  have hl1 := run_load_part (P := Try.prog) (off := 0) (ty := 32) (vs := [.int .i64 C, .int .i64 0, .int .i64 0]) hf.bl rfl Try.underlying32 rfl (by kernel_rfl)
  have hl2 := run_load_part (P := Try.prog) (off := 0) (ty := 41) (vs := tcells t) hf.two.bl (by simp) Try.underlying41 rfl (by kernel_rfl)
  exact bodyPost_ret (results_cell2 rfl rfl rfl hl2 hl1) rfl ⟨rfl, hf.right.right.right.right.toBelow' ((((Q1.out.trans QE.out).setCell _ _).setCell _ _).setCell _ _)⟩
set_option maxRecDepth 100000 in
set_option maxHeartbeats 4000000 in
theorem bdid_take (t : Tbl) (nw jb tr wk tm : Int) (w : World) (hok : t.Ok) (ho : chk ⟨2, nw, jb, tr, wk, tm⟩ = 0) : Calls Try.prog 55 #[.agg (tcells t).toArray, .agg #[.int .i64 2, .int .i64 nw, .int .i64 jb, .int .i64 tr, .int .i64 wk, .int .i64 tm]] w (DidPost w (t.did ⟨2, nw, jb, tr, wk, tm⟩)) := by
  obtain ⟨X, hX⟩ : ∃ X, t.did ⟨2, nw, jb, tr, wk, tm⟩ = X := ⟨_, rfl⟩
  rw [hX]
  have HX := Lib.hid hX; clear hX
  have HO := Lib.hid ho; clear ho
  have hok' := pass_ok hok (chk_more HO.out).1.2
  have htm := (chk_more HO.out).2.2.1 (.inl rfl)
  have htm0 := htm.1
  have htm1 := htm.2
  have HOK := Lib.hid hok'; clear hok hok' htm
  have h0 := ((((Holds.old (w := w)).boxB (ty := 41) (cs := tcells t) rfl).boxB (ty := 35) (cs := [.int .i64 2, .int .i64 nw, .int .i64 jb, .int .i64 tr, .int .i64 wk, .int .i64 tm]) (g := w.heap.size + 1) (by simp)).boxB (ty := 41) (cs := tcells Tbl.zero) (g := w.heap.size + 1 + 1) (by simp)).boxB (ty := 32) (cs := [.int .i64 0, .int .i64 0, .int .i64 0]) (g := w.heap.size + 1 + 1 + 1) (by simp)
  have H0 := Lib.hid h0; clear h0
  have q0 := ((((Quiet.refl w).alloc (.cells (tcells t).toArray 41)).alloc (.cells ([.int .i64 2, .int .i64 nw, .int .i64 jb, .int .i64 tr, .int .i64 wk, .int .i64 tm] : List Value).toArray 35)).alloc (.cells (tcells Tbl.zero).toArray 41)).alloc (.cells ([.int .i64 0, .int .i64 0, .int .i64 0] : List Value).toArray 32)
  have Q0 := Lib.hid q0; clear q0
  go_enter Try.func55, Try.ntmps55
  go_wp2_with fail
  refine (ofault_any 2 nw jb tr wk tm _).mono ?_
  rw [HO.out]
  rintro e w1 ⟨rfl, hb1⟩
  have H1 := Lib.hid (H0.out.below hb1); have Q1 := Lib.hid (Q0.out.trans (Quiet.below hb1)); clear hb1 H0 Q0
  have x1 := H1.out.right.right.bl.cells
  have HS0 := Lib.hid H1.out.right.right.right.bl
  go_wp2_with (refine wpList_load_whole rfl 41 _ rfl w.heap.size rfl (tcells t) HS0.out Try.underlying41 rfl (by kernel_rfl) ?_)
  refine (later_any t nw _).mono ?_
  rintro e w2 ⟨rfl, hb2⟩
  obtain ⟨P, hP⟩ : ∃ P, t.pass nw = P := ⟨_, rfl⟩
  rw [hP]
  have HP := Lib.hid hP; clear hP
  have H2 := Lib.hid (H1.out.below hb2); have Q2 := Lib.hid (Q1.out.trans (Quiet.below hb2)); clear hb2 x1 HS0 H1 Q1
  rw [HP.out] at HOK
  have hn0 := HOK.out.now.1
  have hn1 := HOK.out.now.2
  go_wp2_with (refine wpList_store_whole rfl 41 _ _ rfl w2.heap.size (tcells P) rfl rfl (BlockAt.new w2 41 (tcells Tbl.zero)) (by simp [tcells_len]) (by kernel_rfl) (tcells_ones P) ?_; intro w3 h1' h2' h3'; have H3 := Lib.hid ((H2.out.allocB 41 (tcells Tbl.zero)).grown h2' h1'); have Q3 := Lib.hid ((Q2.out.alloc (.cells (tcells Tbl.zero).toArray 41)).trans (Quiet.grown h2')); have x1 := H3.out.right.right.right.bl.cells; have HS0 := Lib.hid H3.out.right.right.right.right.bl; have HS4 := Lib.hid H3.out.bl; have f4 := HS4.out.frees; have c24 := HS4.out.cell 24 _ rfl; clear h1' h2' h3')
  go_loopw [8] (fun i wr => ∃ q : Nat, q ≤ 6 ∧ i = .int .i64 q ∧ wr = w3 ∧ Hid (∀ i, i < q → (P.jobs i).st ≠ 1)) (fun i _ => 6 - (intOf i).toNat)
  case atStart => exact ⟨0, by omega, rfl, rfl, by simp [Hid]⟩
  case round =>
    obtain ⟨q, hq, rfl, rfl, hno⟩ := hrel
    by_cases hlt : q < 6
    · obtain ⟨c0, c1, c2, c3⟩ := HS4.out.job hlt
      have ht0 := (HOK.out.jobs q).tr.1
      have ht1 := (HOK.out.jobs q).tr.2
      by_cases hs : (P.jobs q).st = 1
      · have hs1 : ((P.jobs q).st == 1) = true := by simpa using hs
        have hx : X = (P.set q ⟨2, wk, (P.jobs q).tr + 1, P.now + tm⟩, ⟨0, q, (P.jobs q).tr + 1⟩) := by
          rw [← HX.out]
          refine did_of HO.out ?_ rfl
          rw [act_take, HP.out, ctake, firstW_some 6 0 q (fun j _ hj => hno.out j hj) (by omega) (by omega) hs]
        subst hx
        have HS := Lib.hid hs; clear hs
        go_upto_region 12 with fail
        have hg : Holds ((((wr.setCell ⟨w2.heap.size, q * 4, none⟩ (.int .i64 2)).setCell ⟨w2.heap.size, q * 4 + 1, none⟩ (.int .i64 wk)).setCell ⟨w2.heap.size, q * 4 + 2, none⟩ (.int .i64 ((P.jobs q).tr + 1))).setCell ⟨w2.heap.size, q * 4 + 3, none⟩ (.int .i64 (P.now + tm))) _ := Holds.setJob H3.out hlt ⟨2, wk, (P.jobs q).tr + 1, P.now + tm⟩
        have qg := ((((Q3.out.setCell ⟨w2.heap.size, q * 4, none⟩ (.int .i64 2)).setCell ⟨w2.heap.size, q * 4 + 1, none⟩ (.int .i64 wk)).setCell ⟨w2.heap.size, q * 4 + 2, none⟩ (.int .i64 ((P.jobs q).tr + 1))).setCell ⟨w2.heap.size, q * 4 + 3, none⟩ (.int .i64 (P.now + tm)))
        obtain ⟨PT, hPT⟩ : ∃ PT, (P.set q ⟨2, wk, (P.jobs q).tr + 1, P.now + tm⟩) = PT := ⟨_, rfl⟩
        obtain ⟨we, hwe⟩ : ∃ we, (((wr.setCell ⟨w2.heap.size, q * 4, none⟩ (.int .i64 2)).setCell ⟨w2.heap.size, q * 4 + 1, none⟩ (.int .i64 wk)).setCell ⟨w2.heap.size, q * 4 + 2, none⟩ (.int .i64 ((P.jobs q).tr + 1))).setCell ⟨w2.heap.size, q * 4 + 3, none⟩ (.int .i64 (P.now + tm)) = we := ⟨_, rfl⟩
        obtain ⟨n9, hn9⟩ : ∃ n9, (P.jobs q).tr + 1 = n9 := ⟨_, rfl⟩
        rw [hwe, hPT] at hg
        rw [hwe] at qg ⊢
        have HG := Lib.hid hg; have QG := Lib.hid qg; have HPT := Lib.hid hPT
        clear hg qg hPT hwe c0 c1 c2 c3 c24 x1 f4 HS0 HS4 ht0 ht1 H3 Q3
        go_wp2_with (first | (refine wpList_load_whole rfl 41 _ rfl w2.heap.size rfl (tcells PT) HG.out.tb Try.underlying41 rfl (by kernel_rfl) ?_) | (refine wpList_store_whole rfl 41 _ _ rfl (w.heap.size + 1 + 1) (tcells PT) rfl rfl HG.out.three.bl (by simp [tcells_len]) (by kernel_rfl) (tcells_ones PT) ?_; intro w' h1' h2' h3'; have HE := Lib.hid (HG.out.three.grown h2' h1').three; have QE := Lib.hid (Quiet.grown h2'); have fe := HE.out.bl.frees; have ce := HE.out.bl.cells; have le := HE.out.bl.lt; clear h1' h2' h3'))
        have hf := ((HE.out.setB 0 (.int .i64 0)).setB 1 (.int .i64 q)).setB 2 (.int .i64 n9)
        have hl1 := run_load_part (P := Try.prog) (off := 0) (ty := 32) (vs := [.int .i64 0, .int .i64 q, .int .i64 n9]) hf.bl rfl Try.underlying32 rfl (by kernel_rfl)
        have hl2 := run_load_part (P := Try.prog) (off := 0) (ty := 41) (vs := tcells PT) hf.two.bl (by simp) Try.underlying41 rfl (by kernel_rfl)
        exact bodyPost_ret (results_cell2 rfl rfl rfl hl2 hl1) rfl ⟨by rw [← HPT.out, hn9], hf.right.right.right.right.right.toBelow' ((((QG.out.trans QE.out).setCell _ _).setCell _ _).setCell _ _)⟩
      · have hs1 : ((P.jobs q).st == 1) = false := by simpa using hs
        have HS := Lib.hid hs; clear hs
        go_wp2
        go_roundw
        case rel => exact ⟨q + 1, by omega, by go_num, (by first | trivial | rfl), fun i hi => by
          by_cases e : i = q
          · subst e; exact HS.out
          · exact hno.out i (by omega)⟩
        case measure => simp [intOf]; omega
    · obtain rfl : q = 6 := by omega
      have hx : X = (t, ⟨5, 0, 0⟩) := by
        rw [← HX.out]
        refine did_not HO.out (p := P) ?_ (by simp)
        rw [act_take, HP.out, ctake, firstW_none 6 0 (fun j _ hj => hno.out j (by omega))]
      subst hx

      have HG := Lib.hid (H3.out);
      go_wp2_with (first | (refine wpList_load_whole rfl 41 _ rfl w.heap.size rfl (tcells t) HG.out.right.right.right.right.bl Try.underlying41 rfl (by kernel_rfl) ?_) | (refine wpList_store_whole rfl 41 _ _ rfl (w.heap.size + 1 + 1) (tcells t) rfl rfl HG.out.three.bl (by simp [tcells_len]) (by kernel_rfl) (tcells_ones t) ?_; intro w' h1' h2' h3'; have HE := Lib.hid (HG.out.three.grown h2' h1').three; have QE := Lib.hid (Quiet.grown h2'); have fe := HE.out.bl.frees; have ce := HE.out.bl.cells; have le := HE.out.bl.lt; clear h1' h2' h3'))
      have hf := ((HE.out.setB 0 (.int .i64 5)).setB 1 (.int .i64 0)).setB 2 (.int .i64 0)
      have hl1 := run_load_part (P := Try.prog) (off := 0) (ty := 32) (vs := [.int .i64 5, .int .i64 0, .int .i64 0]) hf.bl rfl Try.underlying32 rfl (by kernel_rfl)
      have hl2 := run_load_part (P := Try.prog) (off := 0) (ty := 41) (vs := tcells t) hf.two.bl (by simp) Try.underlying41 rfl (by kernel_rfl)
      exact bodyPost_ret (results_cell2 rfl rfl rfl hl2 hl1) rfl ⟨rfl, hf.right.right.right.right.right.toBelow' ((((Q3.out.trans QE.out).setCell _ _).setCell _ _).setCell _ _)⟩
end Go.Proofs.Ytfihmpkkpgmdhab
