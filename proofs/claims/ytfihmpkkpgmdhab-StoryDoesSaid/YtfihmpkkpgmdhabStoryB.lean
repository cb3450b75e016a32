/-
  The story, walked: Of.
-/
import Derived.Test.YtfihmpkkpgmdhabStoryA
import Derived.Test.YtfihmpkkpgmdhabBuilt
namespace Go.Proofs.Ytfihmpkkpgmdhab
set_option linter.unusedSimpArgs false
set_option linter.unusedVariables false
open Go.RowKit
theorem Try.infoSEv : (Try.prog.info? 50).map (fun i => (i.zero, i.size, i.bytes)) = some (some (.agg #[.int .i64 0, .int .i64 0, .int .i64 0, .int .i64 0, .int .i64 0, .int .i64 0, .int .i64 0, .int .i64 0, .int .i64 0, .int .i64 0, .int .i64 0, .int .i64 0, .int .i64 0, .int .i64 0]), 14, 112) := by kernel_rfl
theorem evs_step {L : List Rec} {k : Nat} {r : Rec} (hr : L[k]? = some r) : evs Tbl.zero (L.take (k + 1)) = evs Tbl.zero (L.take k) ++ [evOf (runL Tbl.zero (L.take k)) r] := by
  have hl := (List.getElem?_eq_some_iff.1 hr).1
  rw [List.take_succ_eq_append_getElem hl, evs_append, (List.getElem?_eq_some_iff.1 hr).2]
  rfl
theorem rvs_cell0 {w : World} {g off : Nat} {l : List Rec} (h : ∀ j u, (rvs l)[j]? = some u → w.cell? ⟨g, off + j, none⟩ = some u) {i : Nat} {r : Rec} (hi : l[i]? = some r) : w.cell? ⟨g, off + i * 7, none⟩ = some (.int .i64 r.ep) := by
  have := rvs_cell h hi 0 _ (by omega) rfl
  rwa [Nat.add_zero] at this
theorem evcells_ones (e : Ev) : Ones (evcells e) := ivs_ones _
theorem ev_fit {w : World} {v : Value} {R : HP} (acc : List Ev) (e : Ev) (h : Holds w (rw_ 50 14 v (acc.length + 1) (evvs acc ++ evcells e) * R)) : Holds w (sevs v (acc ++ [e]) * R) :=
  h.eq (by unfold sevs; rw [evvs_append, List.length_append]; simp [evvs])
set_option maxRecDepth 100000 in
set_option maxHeartbeats 8000000 in
theorem of_any (v : Value) (b : List UInt8) (w : World) (h : BytesAt w v b) (hl : b.length ≤ 100000) : Calls Try.prog 24 #[v] w (PostX w (old w) (fun v => v) fun v => sevs v (evs Tbl.zero (allB b))) := by
  obtain ⟨va, vc, rfl, -, -⟩ := h.shape
  have HV := Lib.hid h; clear h
  have hL9 := allB_len b
  obtain ⟨L, hL⟩ : ∃ L, allB b = L := ⟨_, rfl⟩
  have HL := Lib.hid hL
  rw [hL] at hL9 ⊢
  clear hL
  obtain ⟨i0, hi, hz0, hz1, hz2⟩ := info_parts Try.infoSEv
  have HI := Lib.hid hi; have HZ0 := Lib.hid hz0; have HZ1 := Lib.hid hz1; have HZ2 := Lib.hid hz2
  clear hi hz0 hz1 hz2
  go_enter Try.func24, Try.ntmps24
  go_wp2_with fail
  refine (new_sl _ Holds.old).mono ?_
  rintro e w1 ⟨bt, rfl, q1, h1⟩
  have H1 := Lib.hid (show Holds w1 (tab bt Tbl.zero * old w) from h1); have Q1 := Lib.hid q1; clear h1 q1
  have HV1 := Lib.hid (HV.out.old H1.out)
  go_wp2_with fail
  refine (all_sl _ b _ HV1.out hl H1.out).mono ?_
  rw [HL.out]
  rintro e w2 ⟨v2, rfl, q2, h2⟩
  obtain ⟨a, cc, rfl, c1, c2⟩ := h2.row.shape
  have H2 := Lib.hid (show Holds w2 (recs (.slice a L.length cc) L * (tab bt Tbl.zero * old w)) from h2); have Q2 := Lib.hid (Q1.out.trans q2)
  clear h2 q2 H1 Q1 HV1 c1 c2
  have hL200 : L.length ≤ 20000 := by omega
  go_wp2_with fail
  go_loopw [4, 14] (fun s i wr => ∃ k : Nat, k ≤ L.length ∧ i = .int .i64 k ∧ Holds wr (sevs s (evs Tbl.zero (L.take k)) * (recs (.slice a L.length cc) L * (tab bt (runL Tbl.zero (L.take k)) * old w))) ∧ Quiet w wr) (fun _ i _ => L.length - (intOf i).toNat)
  case atStart => exact ⟨0, by omega, rfl, H2.out.nilE, Q2.out⟩
  case round =>
    obtain ⟨k, hk, rfl, hh, hq⟩ := hrel
    have HK := Lib.hid hk
    by_cases hlt : k < L.length
    · obtain ⟨r, hr⟩ : ∃ r, L[k]? = some r := ⟨_, List.getElem?_eq_getElem hlt⟩
      obtain ⟨g, off, cx, e, _, _, hc0⟩ := hh.two.row.get (by omega)
      simp only [Value.slice.injEq] at e
      obtain ⟨rfl, _, rfl⟩ := e
      have hrun := Lib.hid (runL_step hr Tbl.zero)
      have hev := Lib.hid (evs_step hr)
      have hin := Lib.hid (runL_in Tbl.zero_in (L.take k))
      obtain ⟨acc, hacc⟩ : ∃ acc, evs Tbl.zero (L.take k) = acc := ⟨_, rfl⟩
      have hal : acc.length ≤ 20000 := by rw [← hacc, evs_len, List.length_take]; omega
      obtain ⟨ep2, ⟨kd, nw, jb, tr, wk, tm⟩⟩ := r
      have y0 := rvs_cell0 hc0 hr
      have y1 := rvs_cell hc0 hr 1 _ (by omega) rfl
      have y2 := rvs_cell hc0 hr 2 _ (by omega) rfl
      have y3 := rvs_cell hc0 hr 3 _ (by omega) rfl
      have y4 := rvs_cell hc0 hr 4 _ (by omega) rfl
      have y5 := rvs_cell hc0 hr 5 _ (by omega) rfl
      have y6 := rvs_cell hc0 hr 6 _ (by omega) rfl
      dsimp only at y0 y1 y2 y3 y4 y5 y6 hrun
      obtain ⟨T, hT⟩ : ∃ T, runL Tbl.zero (L.take k) = T := ⟨_, rfl⟩
      rw [hT] at hh hin hrun hev
      rw [hacc] at hh hev
      unfold evOf at hev
      dsimp only at hev
      obtain ⟨⟨T', ⟨a0, a1, a2⟩⟩, hX⟩ : ∃ X, T.did ⟨kd, nw, jb, tr, wk, tm⟩ = X := ⟨_, rfl⟩
      rw [hX] at hrun hev
      dsimp only at hrun hev
      have HX := Lib.hid hX
      obtain ⟨wo, rfl⟩ : ∃ wo : World, wo = wr := ⟨_, rfl⟩
      have hx := hh.boxB (ty := 48) (cs := [.int .i64 ep2, .int .i64 kd, .int .i64 nw, .int .i64 jb, .int .i64 tr, .int .i64 wk, .int .i64 tm]) rfl
      have HB := Lib.hid hx; have QB := Lib.hid (hq.alloc (.cells ([.int .i64 ep2, .int .i64 kd, .int .i64 nw, .int .i64 jb, .int .i64 tr, .int .i64 wk, .int .i64 tm] : List Value).toArray 48))
      clear hh hq hr hc0 hx hT hX hacc
      go_wp2_with fail
      clear y0 y1 y2 y3 y4 y5 y6
      refine (do_sl bt T kd nw jb tr wk tm _ (HB.out.four) hin.out.ok).mono ?_
      rw [HX.out]
      simp only [Ans.val]
      rintro e w3 ⟨rfl, q3, h3⟩
      obtain ⟨gr, hgr⟩ : ∃ gr, wo.heap.size = gr := ⟨_, rfl⟩
      rw [hgr] at h3 ⊢
      have H3 := Lib.hid (show Holds w3 (bl gr 48 [.int .i64 ep2, .int .i64 kd, .int .i64 nw, .int .i64 jb, .int .i64 tr, .int .i64 wk, .int .i64 tm] * (sevs u4 acc * (recs (.slice (some ⟨g, off, none⟩) L.length cc) L * (tab bt T' * old w)))) from h3.eq (by ac_rfl)); have Q3 := Lib.hid (QB.out.trans q3)
      clear h3 q3 HB QB hgr
      have cr := H3.out.bl.cells
      have lr := H3.out.bl.lt
      have h4 := (H3.out.boxB (ty := 32) (cs := [.int .i64 a0, .int .i64 a1, .int .i64 a2]) rfl).boxB (ty := 50) (cs := [.int .i64 ep2, .int .i64 kd, .int .i64 nw, .int .i64 jb, .int .i64 tr, .int .i64 wk, .int .i64 tm, .int .i64 a0, .int .i64 a1, .int .i64 a2, .int .i64 0, .int .i64 0, .int .i64 0, .int .i64 0]) (g := w3.heap.size + 1) (by simp)
      have H4 := Lib.hid h4; have Q4 := Lib.hid ((Q3.out.alloc (.cells ([.int .i64 a0, .int .i64 a1, .int .i64 a2] : List Value).toArray 32)).alloc (.cells ([.int .i64 ep2, .int .i64 kd, .int .i64 nw, .int .i64 jb, .int .i64 tr, .int .i64 wk, .int .i64 tm, .int .i64 a0, .int .i64 a1, .int .i64 a2, .int .i64 0, .int .i64 0, .int .i64 0, .int .i64 0] : List Value).toArray 50))
      clear h4
      by_cases hc : a0 = 0
      · subst hc
        rw [if_pos rfl] at hev
        by_cases h2 : kd = 2
        · subst h2
          rw [if_pos rfl] at hev
          obtain ⟨⟨s1, s2, s3, s4⟩, hJ⟩ : ∃ J, T'.job a1 = J := ⟨_, rfl⟩
          rw [hJ] at hev
          have HJ := Lib.hid hJ; clear hJ
          go_wp2_with (refine wpList_built rfl 50 _ rfl [.int .i64 ep2, .int .i64 2, .int .i64 nw, .int .i64 jb, .int .i64 tr, .int .i64 wk, .int .i64 tm, .int .i64 0, .int .i64 a1, .int .i64 a2, .int .i64 0, .int .i64 0, .int .i64 0, .int .i64 0] (by kernel_rfl) ?_)
          refine (job_sl bt T' a1 _ (H4.out.eq (by ac_rfl : _ = tab bt T' * (bl (w3.heap.size + 1) 50 [.int .i64 ep2, .int .i64 2, .int .i64 nw, .int .i64 jb, .int .i64 tr, .int .i64 wk, .int .i64 tm, .int .i64 0, .int .i64 a1, .int .i64 a2, .int .i64 0, .int .i64 0, .int .i64 0, .int .i64 0] * (bl w3.heap.size 32 [.int .i64 0, .int .i64 a1, .int .i64 a2] * (bl gr 48 [.int .i64 ep2, .int .i64 2, .int .i64 nw, .int .i64 jb, .int .i64 tr, .int .i64 wk, .int .i64 tm] * (sevs u4 acc * (recs (.slice (some ⟨g, off, none⟩) L.length cc) L * old w)))))))).mono ?_
          rw [HJ.out]
          simp only [Job.val, jcells]
          rintro e w5 ⟨rfl, hb5⟩
          have H5 := Lib.hid (H4.out.below hb5); have Q5 := Lib.hid (Q4.out.trans (Quiet.below hb5))
          have ce := H5.out.bl.cells
          have fe := H5.out.bl.frees
          have le := H5.out.bl.lt
          clear hb5 cr lr H4 Q4 H3 Q3
          have h6 := (((H5.out.setB 10 (.int .i64 s1)).setB 11 (.int .i64 s2)).setB 12 (.int .i64 s3)).setB 13 (.int .i64 s4)
          have hn3 := (OwnRow.new ((((w5.setCell ⟨w3.heap.size + 1, 10, none⟩ (.int .i64 s1)).setCell ⟨w3.heap.size + 1, 11, none⟩ (.int .i64 s2)).setCell ⟨w3.heap.size + 1, 12, none⟩ (.int .i64 s3)).setCell ⟨w3.heap.size + 1, 13, none⟩ (.int .i64 s4)) 50 14 1 [.int .i64 ep2, .int .i64 2, .int .i64 nw, .int .i64 jb, .int .i64 tr, .int .i64 wk, .int .i64 tm, .int .i64 0, .int .i64 a1, .int .i64 a2, .int .i64 s1, .int .i64 s2, .int .i64 s3, .int .i64 s4] rfl (evcells_ones ⟨⟨ep2, ⟨2, nw, jb, tr, wk, tm⟩⟩, ⟨0, a1, a2⟩, ⟨s1, s2, s3, s4⟩⟩) (by omega)).row
          have ho3 := (h6.alloc (.cells #[.int .i64 ep2, .int .i64 2, .int .i64 nw, .int .i64 jb, .int .i64 tr, .int .i64 wk, .int .i64 tm, .int .i64 0, .int .i64 a1, .int .i64 a2, .int .i64 s1, .int .i64 s2, .int .i64 s3, .int .i64 s4] 50)).four
          have HN3 := Lib.hid hn3; have HO3 := Lib.hid ho3; have QO3 := Lib.hid (((((Q5.out.setCell ⟨w3.heap.size + 1, 10, none⟩ (.int .i64 s1)).setCell ⟨w3.heap.size + 1, 11, none⟩ (.int .i64 s2)).setCell ⟨w3.heap.size + 1, 12, none⟩ (.int .i64 s3)).setCell ⟨w3.heap.size + 1, 13, none⟩ (.int .i64 s4)).alloc (.cells #[.int .i64 ep2, .int .i64 2, .int .i64 nw, .int .i64 jb, .int .i64 tr, .int .i64 wk, .int .i64 tm, .int .i64 0, .int .i64 a1, .int .i64 a2, .int .i64 s1, .int .i64 s2, .int .i64 s3, .int .i64 s4] 50)); clear hn3 ho3 h6
          simp only [World.size_setCell] at HN3
          go_wp2_with (first | (refine wpList_built rfl 50 _ rfl [.int .i64 ep2, .int .i64 2, .int .i64 nw, .int .i64 jb, .int .i64 tr, .int .i64 wk, .int .i64 tm, .int .i64 0, .int .i64 a1, .int .i64 a2, .int .i64 0, .int .i64 0, .int .i64 0, .int .i64 0] (by kernel_rfl) ?_) | (at_builtin; refine wpList_append_sl rfl _ _ 45 rfl 50 i0 _ 14 112 Try.underlying45 HI.out HZ0.out HZ1.out HZ2.out rfl (by decide) rfl rfl HO3.out HN3.out rfl (evcells_ones ⟨⟨ep2, ⟨2, nw, jb, tr, wk, tm⟩⟩, ⟨0, a1, a2⟩, ⟨s1, s2, s3, s4⟩⟩) (by omega) (by omega) ?_; intro v' w' hv' hq'; have HV' := Lib.hid hv'; have HQ' := Lib.hid hq'; clear hv' hq'))
          go_roundw
          case rel => exact ⟨k + 1, by omega, by go_num, by rw [hev.out, hrun.out]; exact (ev_fit acc ⟨⟨ep2, ⟨2, nw, jb, tr, wk, tm⟩⟩, ⟨0, a1, a2⟩, ⟨s1, s2, s3, s4⟩⟩ (HV'.out.eq (by ac_rfl : _ = bl (w3.heap.size + 1) 50 _ * (bl w3.heap.size 32 _ * (bl gr 48 _ * (rw_ 50 14 v' (acc.length + 1) (evvs acc ++ evcells ⟨⟨ep2, ⟨2, nw, jb, tr, wk, tm⟩⟩, ⟨0, a1, a2⟩, ⟨s1, s2, s3, s4⟩⟩) * (recs (.slice (some ⟨g, off, none⟩) L.length cc) L * (tab bt T' * old w)))))) ).right.right.right), QO3.out.trans HQ'.out⟩
          case measure => simp [intOf]; omega
        · have hk2 : (kd == 2) = false := by simpa using h2
          rw [if_neg h2] at hev
          clear h2
          obtain ⟨⟨s1, s2, s3, s4⟩, hJ⟩ : ∃ J, T'.job jb = J := ⟨_, rfl⟩
          rw [hJ] at hev
          have HJ := Lib.hid hJ; clear hJ
          go_wp2_with (refine wpList_built rfl 50 _ rfl [.int .i64 ep2, .int .i64 kd, .int .i64 nw, .int .i64 jb, .int .i64 tr, .int .i64 wk, .int .i64 tm, .int .i64 0, .int .i64 a1, .int .i64 a2, .int .i64 0, .int .i64 0, .int .i64 0, .int .i64 0] (by kernel_rfl) ?_)
          refine (job_sl bt T' jb _ (H4.out.eq (by ac_rfl : _ = tab bt T' * (bl (w3.heap.size + 1) 50 [.int .i64 ep2, .int .i64 kd, .int .i64 nw, .int .i64 jb, .int .i64 tr, .int .i64 wk, .int .i64 tm, .int .i64 0, .int .i64 a1, .int .i64 a2, .int .i64 0, .int .i64 0, .int .i64 0, .int .i64 0] * (bl w3.heap.size 32 [.int .i64 0, .int .i64 a1, .int .i64 a2] * (bl gr 48 [.int .i64 ep2, .int .i64 kd, .int .i64 nw, .int .i64 jb, .int .i64 tr, .int .i64 wk, .int .i64 tm] * (sevs u4 acc * (recs (.slice (some ⟨g, off, none⟩) L.length cc) L * old w)))))))).mono ?_
          rw [HJ.out]
          simp only [Job.val, jcells]
          rintro e w5 ⟨rfl, hb5⟩
          have H5 := Lib.hid (H4.out.below hb5); have Q5 := Lib.hid (Q4.out.trans (Quiet.below hb5))
          have ce := H5.out.bl.cells
          have fe := H5.out.bl.frees
          have le := H5.out.bl.lt
          clear hb5 cr lr H4 Q4 H3 Q3
          have h6 := (((H5.out.setB 10 (.int .i64 s1)).setB 11 (.int .i64 s2)).setB 12 (.int .i64 s3)).setB 13 (.int .i64 s4)
          have hn3 := (OwnRow.new ((((w5.setCell ⟨w3.heap.size + 1, 10, none⟩ (.int .i64 s1)).setCell ⟨w3.heap.size + 1, 11, none⟩ (.int .i64 s2)).setCell ⟨w3.heap.size + 1, 12, none⟩ (.int .i64 s3)).setCell ⟨w3.heap.size + 1, 13, none⟩ (.int .i64 s4)) 50 14 1 [.int .i64 ep2, .int .i64 kd, .int .i64 nw, .int .i64 jb, .int .i64 tr, .int .i64 wk, .int .i64 tm, .int .i64 0, .int .i64 a1, .int .i64 a2, .int .i64 s1, .int .i64 s2, .int .i64 s3, .int .i64 s4] rfl (evcells_ones ⟨⟨ep2, ⟨kd, nw, jb, tr, wk, tm⟩⟩, ⟨0, a1, a2⟩, ⟨s1, s2, s3, s4⟩⟩) (by omega)).row
          have ho3 := (h6.alloc (.cells #[.int .i64 ep2, .int .i64 kd, .int .i64 nw, .int .i64 jb, .int .i64 tr, .int .i64 wk, .int .i64 tm, .int .i64 0, .int .i64 a1, .int .i64 a2, .int .i64 s1, .int .i64 s2, .int .i64 s3, .int .i64 s4] 50)).four
          have HN3 := Lib.hid hn3; have HO3 := Lib.hid ho3; have QO3 := Lib.hid (((((Q5.out.setCell ⟨w3.heap.size + 1, 10, none⟩ (.int .i64 s1)).setCell ⟨w3.heap.size + 1, 11, none⟩ (.int .i64 s2)).setCell ⟨w3.heap.size + 1, 12, none⟩ (.int .i64 s3)).setCell ⟨w3.heap.size + 1, 13, none⟩ (.int .i64 s4)).alloc (.cells #[.int .i64 ep2, .int .i64 kd, .int .i64 nw, .int .i64 jb, .int .i64 tr, .int .i64 wk, .int .i64 tm, .int .i64 0, .int .i64 a1, .int .i64 a2, .int .i64 s1, .int .i64 s2, .int .i64 s3, .int .i64 s4] 50)); clear hn3 ho3 h6
          simp only [World.size_setCell] at HN3
          go_wp2_with (first | (refine wpList_built rfl 50 _ rfl [.int .i64 ep2, .int .i64 kd, .int .i64 nw, .int .i64 jb, .int .i64 tr, .int .i64 wk, .int .i64 tm, .int .i64 0, .int .i64 a1, .int .i64 a2, .int .i64 0, .int .i64 0, .int .i64 0, .int .i64 0] (by kernel_rfl) ?_) | (at_builtin; refine wpList_append_sl rfl _ _ 45 rfl 50 i0 _ 14 112 Try.underlying45 HI.out HZ0.out HZ1.out HZ2.out rfl (by decide) rfl rfl HO3.out HN3.out rfl (evcells_ones ⟨⟨ep2, ⟨kd, nw, jb, tr, wk, tm⟩⟩, ⟨0, a1, a2⟩, ⟨s1, s2, s3, s4⟩⟩) (by omega) (by omega) ?_; intro v' w' hv' hq'; have HV' := Lib.hid hv'; have HQ' := Lib.hid hq'; clear hv' hq'))
          go_roundw
          case rel => exact ⟨k + 1, by omega, by go_num, by rw [hev.out, hrun.out]; exact (ev_fit acc ⟨⟨ep2, ⟨kd, nw, jb, tr, wk, tm⟩⟩, ⟨0, a1, a2⟩, ⟨s1, s2, s3, s4⟩⟩ (HV'.out.eq (by ac_rfl : _ = bl (w3.heap.size + 1) 50 _ * (bl w3.heap.size 32 _ * (bl gr 48 _ * (rw_ 50 14 v' (acc.length + 1) (evvs acc ++ evcells ⟨⟨ep2, ⟨kd, nw, jb, tr, wk, tm⟩⟩, ⟨0, a1, a2⟩, ⟨s1, s2, s3, s4⟩⟩) * (recs (.slice (some ⟨g, off, none⟩) L.length cc) L * (tab bt T' * old w)))))) ).right.right.right), QO3.out.trans HQ'.out⟩
          case measure => simp [intOf]; omega
      · have hc2 : (a0 == 0) = false := by simpa using hc
        rw [if_neg hc] at hev
        clear hc
        by_cases h2 : kd = 2
        · subst h2
          have hn3 := (OwnRow.new ((w3.alloc (.cells #[.int .i64 a0, .int .i64 a1, .int .i64 a2] 32)).alloc (.cells #[.int .i64 ep2, .int .i64 2, .int .i64 nw, .int .i64 jb, .int .i64 tr, .int .i64 wk, .int .i64 tm, .int .i64 a0, .int .i64 a1, .int .i64 a2, .int .i64 0, .int .i64 0, .int .i64 0, .int .i64 0] 50)) 50 14 1 [.int .i64 ep2, .int .i64 2, .int .i64 nw, .int .i64 jb, .int .i64 tr, .int .i64 wk, .int .i64 tm, .int .i64 a0, .int .i64 a1, .int .i64 a2, .int .i64 0, .int .i64 0, .int .i64 0, .int .i64 0] rfl (evcells_ones ⟨⟨ep2, ⟨2, nw, jb, tr, wk, tm⟩⟩, ⟨a0, a1, a2⟩, Job.zero⟩) (by omega)).row
          have ho3 := (H4.out.alloc (.cells #[.int .i64 ep2, .int .i64 2, .int .i64 nw, .int .i64 jb, .int .i64 tr, .int .i64 wk, .int .i64 tm, .int .i64 a0, .int .i64 a1, .int .i64 a2, .int .i64 0, .int .i64 0, .int .i64 0, .int .i64 0] 50)).four
          have HN3 := Lib.hid hn3; have HO3 := Lib.hid ho3; have QO3 := Lib.hid (Q4.out.alloc (.cells #[.int .i64 ep2, .int .i64 2, .int .i64 nw, .int .i64 jb, .int .i64 tr, .int .i64 wk, .int .i64 tm, .int .i64 a0, .int .i64 a1, .int .i64 a2, .int .i64 0, .int .i64 0, .int .i64 0, .int .i64 0] 50)); clear hn3 ho3
          simp only [World.size_alloc] at HN3
          go_wp2_with (first | (refine wpList_built rfl 50 _ rfl [.int .i64 ep2, .int .i64 2, .int .i64 nw, .int .i64 jb, .int .i64 tr, .int .i64 wk, .int .i64 tm, .int .i64 a0, .int .i64 a1, .int .i64 a2, .int .i64 0, .int .i64 0, .int .i64 0, .int .i64 0] (by kernel_rfl) ?_) | (at_builtin; refine wpList_append_sl rfl _ _ 45 rfl 50 i0 _ 14 112 Try.underlying45 HI.out HZ0.out HZ1.out HZ2.out rfl (by decide) rfl rfl HO3.out HN3.out rfl (evcells_ones ⟨⟨ep2, ⟨2, nw, jb, tr, wk, tm⟩⟩, ⟨a0, a1, a2⟩, Job.zero⟩) (by omega) (by omega) ?_; intro v' w' hv' hq'; have HV' := Lib.hid hv'; have HQ' := Lib.hid hq'; clear hv' hq'))
          go_roundw
          case rel => exact ⟨k + 1, by omega, by go_num, by rw [hev.out, hrun.out]; exact (ev_fit acc ⟨⟨ep2, ⟨2, nw, jb, tr, wk, tm⟩⟩, ⟨a0, a1, a2⟩, Job.zero⟩ (HV'.out.eq (by ac_rfl : _ = bl (w3.heap.size + 1) 50 _ * (bl w3.heap.size 32 _ * (bl gr 48 _ * (rw_ 50 14 v' (acc.length + 1) (evvs acc ++ evcells ⟨⟨ep2, ⟨2, nw, jb, tr, wk, tm⟩⟩, ⟨a0, a1, a2⟩, Job.zero⟩) * (recs (.slice (some ⟨g, off, none⟩) L.length cc) L * (tab bt T' * old w)))))) ).right.right.right), QO3.out.trans HQ'.out⟩
          case measure => simp [intOf]; omega
        · have hk2 : (kd == 2) = false := by simpa using h2
          clear h2
          have hn3 := (OwnRow.new ((w3.alloc (.cells #[.int .i64 a0, .int .i64 a1, .int .i64 a2] 32)).alloc (.cells #[.int .i64 ep2, .int .i64 kd, .int .i64 nw, .int .i64 jb, .int .i64 tr, .int .i64 wk, .int .i64 tm, .int .i64 a0, .int .i64 a1, .int .i64 a2, .int .i64 0, .int .i64 0, .int .i64 0, .int .i64 0] 50)) 50 14 1 [.int .i64 ep2, .int .i64 kd, .int .i64 nw, .int .i64 jb, .int .i64 tr, .int .i64 wk, .int .i64 tm, .int .i64 a0, .int .i64 a1, .int .i64 a2, .int .i64 0, .int .i64 0, .int .i64 0, .int .i64 0] rfl (evcells_ones ⟨⟨ep2, ⟨kd, nw, jb, tr, wk, tm⟩⟩, ⟨a0, a1, a2⟩, Job.zero⟩) (by omega)).row
          have ho3 := (H4.out.alloc (.cells #[.int .i64 ep2, .int .i64 kd, .int .i64 nw, .int .i64 jb, .int .i64 tr, .int .i64 wk, .int .i64 tm, .int .i64 a0, .int .i64 a1, .int .i64 a2, .int .i64 0, .int .i64 0, .int .i64 0, .int .i64 0] 50)).four
          have HN3 := Lib.hid hn3; have HO3 := Lib.hid ho3; have QO3 := Lib.hid (Q4.out.alloc (.cells #[.int .i64 ep2, .int .i64 kd, .int .i64 nw, .int .i64 jb, .int .i64 tr, .int .i64 wk, .int .i64 tm, .int .i64 a0, .int .i64 a1, .int .i64 a2, .int .i64 0, .int .i64 0, .int .i64 0, .int .i64 0] 50)); clear hn3 ho3
          simp only [World.size_alloc] at HN3
          go_wp2_with (first | (refine wpList_built rfl 50 _ rfl [.int .i64 ep2, .int .i64 kd, .int .i64 nw, .int .i64 jb, .int .i64 tr, .int .i64 wk, .int .i64 tm, .int .i64 a0, .int .i64 a1, .int .i64 a2, .int .i64 0, .int .i64 0, .int .i64 0, .int .i64 0] (by kernel_rfl) ?_) | (at_builtin; refine wpList_append_sl rfl _ _ 45 rfl 50 i0 _ 14 112 Try.underlying45 HI.out HZ0.out HZ1.out HZ2.out rfl (by decide) rfl rfl HO3.out HN3.out rfl (evcells_ones ⟨⟨ep2, ⟨kd, nw, jb, tr, wk, tm⟩⟩, ⟨a0, a1, a2⟩, Job.zero⟩) (by omega) (by omega) ?_; intro v' w' hv' hq'; have HV' := Lib.hid hv'; have HQ' := Lib.hid hq'; clear hv' hq'))
          go_roundw
          case rel => exact ⟨k + 1, by omega, by go_num, by rw [hev.out, hrun.out]; exact (ev_fit acc ⟨⟨ep2, ⟨kd, nw, jb, tr, wk, tm⟩⟩, ⟨a0, a1, a2⟩, Job.zero⟩ (HV'.out.eq (by ac_rfl : _ = bl (w3.heap.size + 1) 50 _ * (bl w3.heap.size 32 _ * (bl gr 48 _ * (rw_ 50 14 v' (acc.length + 1) (evvs acc ++ evcells ⟨⟨ep2, ⟨kd, nw, jb, tr, wk, tm⟩⟩, ⟨a0, a1, a2⟩, Job.zero⟩) * (recs (.slice (some ⟨g, off, none⟩) L.length cc) L * (tab bt T' * old w)))))) ).right.right.right), QO3.out.trans HQ'.out⟩
          case measure => simp [intOf]; omega
    · obtain rfl : k = L.length := by omega
      go_wp2
      go_ret
      exact ⟨_, rfl, hq, by rw [List.take_length] at hh; exact (hh.eq (by ac_rfl : _ = recs (.slice a L.length cc) L * (tab bt (runL Tbl.zero L) * (sevs u4 (evs Tbl.zero L) * old w)))).right.right⟩
theorem of_sl (v : Value) (b : List UInt8) (w : World) (h : BytesAt w v b) (hl : b.length ≤ 100000) {R : HP} (hr : Holds w R) : Calls Try.prog 24 #[v] w (PostX w R (fun v => v) fun v => sevs v (evs Tbl.zero (allB b))) :=
  (of_any v b w h hl).mono fun e w' ⟨x, he, hq, hh⟩ => ⟨x, he, hq, hh.frame hr⟩
end Go.Proofs.Ytfihmpkkpgmdhab
