/-
  JobsTime, walked: in time or not at all.
-/
import Derived.Test.YtfihmpkkpgmdhabJobsRun
import Derived.Test.YtfihmpkkpgmdhabView3
import Derived.Test.YtfihmpkkpgmdhabLex
namespace Go.Proofs.Ytfihmpkkpgmdhab
set_option linter.unusedSimpArgs false
set_option linter.unusedVariables false
open Go.RowKit
set_option maxRecDepth 100000 in
set_option maxHeartbeats 8000000 in
theorem jobsTime_any (v : Value) (n0 l0 : Int) (L : List Ord) (w : World) (hv : (∀ r ∈ L, ∀ n ∈ r.ints, I64' n) ∧ RowAt w v L.length (ovs L)) (h1 : I64' n0) (h2 : I64' l0) :
    Calls Try.prog 4 #[v, .int .i64 n0, .int .i64 l0] w fun e w' => e = .returned (.bool true) ∧ Below w.heap.size w w' := by
  have hfld := run_field_job
  obtain ⟨K, hK6, hKe⟩ := uidx n0 6 (by omega) (by omega)
  have hKe : wrap64 ((IntKind.u64.wrap n0).tmod 6) = (K : Int) := hKe
  obtain ⟨K2, hK30, hK2e⟩ := uidx l0 30 (by omega) (by omega)
  have hK2e : wrap64 ((IntKind.u64.wrap l0).tmod 30) = (K2 : Int) := hK2e
  obtain ⟨a, cc, rfl, c1, c2⟩ := hv.2.shape
  have HV := Lib.hid hv.2; clear hv h1 h2
  go_enter Try.func4, Try.ntmps4
  go_wp2_with fail
  refine (jobsBegun_any _).mono ?_
  rintro e w1 ⟨rfl, hb1⟩
  have H1 := Lib.hid ((Holds.old (w := w)).below hb1)
  have Q1 := Lib.hid (Quiet.below hb1); clear hb1
  by_cases hlen : 300 < L.length
  · go_wp2
    go_ret
    exact ⟨rfl, H1.out.toBelow' Q1.out⟩
  · go_wp2_with fail
    refine (new_sl _ H1.out).mono ?_
    rintro e w2 ⟨b, rfl, q2, h2⟩
    have H2 := Lib.hid h2
    have Q2 := Lib.hid (Q1.out.trans q2); clear h2 q2
    go_wp2_with fail
    go_loopw [8] (fun i wr => ∃ (k : Nat) (T : Tbl), k ≤ L.length ∧ i = .int .i64 k ∧ Holds wr (tab b T * old w) ∧ Quiet w wr ∧ T.In) (fun i _ => L.length - (intOf i).toNat)
    case atStart => exact ⟨0, Tbl.zero, by omega, rfl, H2.out, Q2.out, Tbl.zero_in⟩
    case round =>
      obtain ⟨k, T, hk, rfl, hh, hq, hin⟩ := hrel
      have HH := Lib.hid hh; have HQ := Lib.hid hq; have HI := Lib.hid hin; clear hh hq hin
      by_cases hlt : k < L.length
      · obtain ⟨o, ho⟩ : ∃ o, L[k]? = some o := ⟨_, List.getElem?_eq_getElem hlt⟩
        obtain ⟨g, off, c', e, _, _, hc0⟩ := HV.out.get (by omega)
        simp only [Value.slice.injEq] at e
        obtain ⟨rfl, _, rfl⟩ := e
        obtain ⟨a0, a1, a2, a3, a4, a5⟩ := ord_cells HV.out ho HH.out
        obtain ⟨kd, nw, jb, tr, wk, tm⟩ := o
        dsimp only at a0 a1 a2 a3 a4 a5
        clear ho hc0
        go_wp2_with fail
        refine (do_sl b T kd nw jb tr wk tm _ HH.out HI.out.ok).mono ?_
        rintro e w3 ⟨rfl, q3, h3⟩
        have H3 := Lib.hid h3; have Q3 := Lib.hid (HQ.out.trans q3); have HI3 := Lib.hid (did_in HI.out ⟨kd, nw, jb, tr, wk, tm⟩); clear h3 q3
        go_wp2_with fail
        go_roundw
        case rel => exact ⟨k + 1, _, by omega, by go_num, H3.out, Q3.out, HI3.out⟩
        case measure => simp [intOf]; omega
      · obtain rfl : k = L.length := by omega
        have hn0 := HI.out.ok.now.1
        have hn1 := HI.out.ok.now.2
        obtain ⟨J, hJ⟩ : ∃ J, T.jobs K = J := ⟨_, rfl⟩
        have hheld := HI.out.held K
        have hjok := HI.out.ok.jobs K
        rw [hJ] at hheld hjok
        have HJ := Lib.hid ((job_in T hK6).trans hJ)
        have HJ2 := Lib.hid hJ
        obtain ⟨st, wk', tr', un⟩ := J
        dsimp only at hheld
        have ht0 := hjok.tr.1
        have ht1 := hjok.tr.2
        dsimp only at ht0 ht1
        clear hjok hJ
        go_wp2_with fail
        refine (job_sl b T _ _ HH.out).mono ?_
        try rw [hKe]
        rw [HJ.out]
        simp only [Job.val, jcells]
        rintro e w3 ⟨rfl, hb3⟩
        have h3 := (HH.out.below hb3).boxB (ty := 27) (cs := jcells ⟨st, wk', tr', un⟩) rfl
        have Q3 := Lib.hid ((HQ.out.trans (Quiet.below hb3)).alloc (.cells (jcells ⟨st, wk', tr', un⟩).toArray 27))
        have H3 := Lib.hid h3; clear h3 hb3
        by_cases hs : st = 2
        · obtain ⟨hg1, hg2⟩ := hheld hs
          subst hs
          by_cases hbig : 60000 < T.now + K2
          · go_wp2_with fail
            refine (now_sl b T _ H3.out.two).mono ?_
            rintro e wn ⟨rfl, rfl⟩
            go_wp2
            go_ret
            exact ⟨rfl, H3.out.right.toBelow Q3.out⟩
          · go_wp2_with fail
            refine (now_sl b T _ H3.out.two).mono ?_
            rintro e wn ⟨rfl, rfl⟩
            go_wp2_with fail
            refine (own_sl b T _ H3.out.two).mono ?_
            rintro e w4 ⟨u, rfl, q4, h4⟩
            have y4 := h4.three.bl.cells
            simp only [jcells] at y4
            have H4 := Lib.hid h4; have Q4 := Lib.hid (Q3.out.trans q4); clear h4 q4
            by_cases hlt : T.now + (K2 : Int) < un
            · have hd := (time_in HI.out hK6 (by rw [HJ2.out]) (now := T.now + K2) (by omega) (by omega) (by rw [HJ2.out]; exact hlt))
              rw [HJ2.out] at hd
              dsimp only at hd
              obtain ⟨hd1, hd2⟩ := hd
              have HD1 := Lib.hid hd1; have HD2 := Lib.hid hd2
              have hdec : decide (T.now + (K2 : Int) < un) = true := by simpa using hlt
              have hw1 : IntKind.i64.wrap (T.now + (K2 : Int) + 1) = T.now + (K2 : Int) + 1 := by rw [IntKind.wrap_i64]; omega
              clear hd1 hd2
              go_wp2_with fail
              refine (do_sl b T 4 _ _ _ _ 0 _ H4.out.two HI.out.ok).mono ?_
              rw [HD1.out]
              rintro e w5 ⟨rfl, q5, h5⟩
              have h5b := h5.boxB (ty := 32) (cs := [.int .i64 0, .int .i64 0, .int .i64 0]) rfl
              have y5 := h5.right.right.bl.cells
              have l5 := h5.right.right.bl.lt
              simp only [jcells] at y5
              have H5 := Lib.hid h5b; have Q5 := Lib.hid ((Q4.out.trans q5).alloc (.cells ([.int .i64 0, .int .i64 0, .int .i64 0] : List Value).toArray 32)); clear h5 h5b q5 y4
              dsimp only
              go_wp2_with fail
              refine (do_sl u T 3 _ _ _ _ 1 _ H5.out.three HI.out.ok).mono ?_
              rw [HD2.out]
              rintro e w6 ⟨rfl, q6, h6⟩
              have h6b := h6.boxB (ty := 32) (cs := [.int .i64 0, .int .i64 0, .int .i64 0]) rfl
              have y6 := h6.right.right.right.bl.cells
              have l6 := h6.right.right.right.bl.lt
              simp only [jcells] at y6
              have HB := Lib.hid (And.intro (h6b.drew.right.right.bl.cell 0 (.int .i64 0) rfl) (And.intro (h6b.drew.bl.cell 0 (.int .i64 0) rfl) h6b.drew.right.right.right.right.bl.cells))
              have H6 := Lib.hid h6b; have Q6 := Lib.hid ((Q5.out.trans q6).alloc (.cells ([.int .i64 0, .int .i64 0, .int .i64 0] : List Value).toArray 32)); clear h6 h6b q6 y5 l5
              dsimp only
              go_wp2_with fail
              refine wp_region_lex (fun W => W.cell? ⟨w5.heap.size, 0, none⟩ = some (.int .i64 0) ∧ W.cell? ⟨w6.heap.size, 0, none⟩ = some (.int .i64 0) ∧ (∀ o, W.cell? ⟨w3.heap.size, o, none⟩ = [Value.int .i64 2, .int .i64 wk', .int .i64 tr', .int .i64 un][o]?)) [11, 15, 18] (by kernel_rfl) (by kernel_rfl) HB.out ?_
              repeat (first | (refine LexL.none (by rfl) ?_; (try simp only [Act.put, List.setIfInBounds_toArray, List.set_cons_zero, List.set_cons_succ])) | (refine LexL.still (v := ?_) (by rfl) ?_ ?_; rotate_left; (focus (intro W hW; (try dsimp only at hW); go_simp; (try (with_reducible rfl)); done)); (try simp only [Act.put, List.setIfInBounds_toArray, List.set_cons_zero, List.set_cons_succ])))
              refine LexL.call (f := 18) (args := #[.pointer (some ⟨b, 0, none⟩), .int .i64 K]) (w1 := (w6.alloc (.cells #[.int .i64 0, .int .i64 0, .int .i64 0] 32)).drew) (by rfl) (by decide) (by go_simp) ?_
              refine (job_sl b _ K _ H6.out.drew.four).mono ?_
              rw [tjob_set _ hK6]
              simp only [Job.val, jcells]
              rintro e w7 ⟨rfl, hb7⟩
              have h7 := H6.out.drew.below hb7
              have HB7 := Lib.hid (And.intro (h7.right.right.bl.cell 0 (.int .i64 0) rfl) (And.intro (h7.bl.cell 0 (.int .i64 0) rfl) h7.right.right.right.right.bl.cells))
              have H7 := Lib.hid h7; have Q7 := Lib.hid (Q6.out.drew.trans (Quiet.below hb7)); clear h7 hb7
              refine ⟨_, rfl, HB7.out, ?_⟩
              try simp only [Act.put, List.setIfInBounds_toArray, List.set_cons_zero, List.set_cons_succ]
              repeat (first | (refine LexL.none (by rfl) ?_; (try simp only [Act.put, List.setIfInBounds_toArray, List.set_cons_zero, List.set_cons_succ])) | (refine LexL.still (v := ?_) (by rfl) ?_ ?_; rotate_left; (focus (intro W hW; (try dsimp only at hW); go_simp; (try (with_reducible rfl)); done)); (try simp only [Act.put, List.setIfInBounds_toArray, List.set_cons_zero, List.set_cons_succ])))
              refine LexL.call (f := 18) (args := #[.pointer (some ⟨u, 0, none⟩), .int .i64 K]) (w1 := w7) (by rfl) (by decide) (by go_simp) ?_
              refine (job_sl u _ K _ H7.out.two).mono ?_
              rw [tjob_set _ hK6]
              simp only [Job.val, jcells]
              rintro e w8 ⟨rfl, hb8⟩
              have h8 := H7.out.below hb8
              have HB8 := Lib.hid (And.intro (h8.right.right.bl.cell 0 (.int .i64 0) rfl) (And.intro (h8.bl.cell 0 (.int .i64 0) rfl) h8.right.right.right.right.bl.cells))
              have H8 := Lib.hid h8; have Q8 := Lib.hid (Q7.out.trans (Quiet.below hb8)); clear h8 hb8
              refine ⟨_, rfl, HB8.out, ?_⟩
              try simp only [Act.put, List.setIfInBounds_toArray, List.set_cons_zero, List.set_cons_succ]
              repeat (first | (refine LexL.none (by rfl) ?_; (try simp only [Act.put, List.setIfInBounds_toArray, List.set_cons_zero, List.set_cons_succ])) | (refine LexL.still (v := ?_) (by rfl) ?_ ?_; rotate_left; (focus (intro W hW; (try dsimp only at hW); go_simp; (try (with_reducible rfl)); done)); (try simp only [Act.put, List.setIfInBounds_toArray, List.set_cons_zero, List.set_cons_succ])))
              refine LexL.done ?_
              go_wp2
              go_ret
              exact ⟨rfl, H8.out.right.right.right.right.right.toBelow' Q8.out⟩
            · have hd := (time_out HI.out hK6 (by rw [HJ2.out]) (now := T.now + K2) (by omega) (by omega) (by rw [HJ2.out]; dsimp only; omega))
              rw [HJ2.out] at hd
              dsimp only at hd
              obtain ⟨hd1, hd2⟩ := hd
              have HD1 := Lib.hid hd1; have HD2 := Lib.hid hd2
              have hdec : decide (T.now + (K2 : Int) < un) = false := by simpa using hlt
              clear hd1 hd2
              go_wp2_with fail
              refine (do_sl b T 4 _ _ _ _ 0 _ H4.out.two HI.out.ok).mono ?_
              rw [HD1.out]
              rintro e w5 ⟨rfl, q5, h5⟩
              have h5b := h5.boxB (ty := 32) (cs := [.int .i64 6, .int .i64 0, .int .i64 0]) rfl
              have y5 := h5.right.right.bl.cells
              have l5 := h5.right.right.bl.lt
              simp only [jcells] at y5
              have H5 := Lib.hid h5b; have Q5 := Lib.hid ((Q4.out.trans q5).alloc (.cells ([.int .i64 6, .int .i64 0, .int .i64 0] : List Value).toArray 32)); clear h5 h5b q5 y4
              dsimp only
              go_wp2_with fail
              refine (do_sl u T 3 _ _ _ _ 1 _ H5.out.three HI.out.ok).mono ?_
              rw [HD2.out]
              rintro e w6 ⟨rfl, q6, h6⟩
              have h6b := h6.boxB (ty := 32) (cs := [.int .i64 6, .int .i64 0, .int .i64 0]) rfl
              have y6 := h6.right.right.right.bl.cells
              have l6 := h6.right.right.right.bl.lt
              simp only [jcells] at y6
              have HB := Lib.hid (And.intro (h6b.drew.right.right.bl.cell 0 (.int .i64 6) rfl) (And.intro (h6b.drew.bl.cell 0 (.int .i64 6) rfl) h6b.drew.right.right.right.right.bl.cells))
              have H6 := Lib.hid h6b; have Q6 := Lib.hid ((Q5.out.trans q6).alloc (.cells ([.int .i64 6, .int .i64 0, .int .i64 0] : List Value).toArray 32)); clear h6 h6b q6 y5 l5
              dsimp only
              go_wp2_with fail
              refine wp_region_lex (fun W => W.cell? ⟨w5.heap.size, 0, none⟩ = some (.int .i64 6) ∧ W.cell? ⟨w6.heap.size, 0, none⟩ = some (.int .i64 6) ∧ (∀ o, W.cell? ⟨w3.heap.size, o, none⟩ = [Value.int .i64 2, .int .i64 wk', .int .i64 tr', .int .i64 un][o]?)) [11] (by kernel_rfl) (by kernel_rfl) HB.out ?_
              repeat (first | (refine LexL.none (by rfl) ?_; (try simp only [Act.put, List.setIfInBounds_toArray, List.set_cons_zero, List.set_cons_succ])) | (refine LexL.still (v := ?_) (by rfl) ?_ ?_; rotate_left; (focus (intro W hW; (try dsimp only at hW); go_simp; (try (with_reducible rfl)); done)); (try simp only [Act.put, List.setIfInBounds_toArray, List.set_cons_zero, List.set_cons_succ])))
              refine LexL.call (f := 18) (args := #[.pointer (some ⟨b, 0, none⟩), .int .i64 K]) (w1 := (w6.alloc (.cells #[.int .i64 6, .int .i64 0, .int .i64 0] 32)).drew) (by rfl) (by decide) (by go_simp) ?_
              refine (job_sl b _ K _ H6.out.drew.four).mono ?_
              rw [HJ.out]
              simp only [Job.val, jcells]
              rintro e w7 ⟨rfl, hb7⟩
              have h7 := H6.out.drew.below hb7
              have HB7 := Lib.hid (And.intro (h7.right.right.bl.cell 0 (.int .i64 6) rfl) (And.intro (h7.bl.cell 0 (.int .i64 6) rfl) h7.right.right.right.right.bl.cells))
              have H7 := Lib.hid h7; have Q7 := Lib.hid (Q6.out.drew.trans (Quiet.below hb7)); clear h7 hb7
              refine ⟨_, rfl, HB7.out, ?_⟩
              try simp only [Act.put, List.setIfInBounds_toArray, List.set_cons_zero, List.set_cons_succ]
              repeat (first | (refine LexL.none (by rfl) ?_; (try simp only [Act.put, List.setIfInBounds_toArray, List.set_cons_zero, List.set_cons_succ])) | (refine LexL.still (v := ?_) (by rfl) ?_ ?_; rotate_left; (focus (intro W hW; (try dsimp only at hW); go_simp; (try (with_reducible rfl)); done)); (try simp only [Act.put, List.setIfInBounds_toArray, List.set_cons_zero, List.set_cons_succ])))
              refine LexL.done ?_
              go_wp2_with fail
              refine (do_sl u T 2 _ _ _ _ _ _ H7.out.two HI.out.ok).mono ?_
              have htt := time_take HI.out hK6 (by rw [HJ2.out]) ⟨2, T.now + K2, 0, 0, 0, 5⟩ rfl
              obtain ⟨X, hX⟩ : ∃ X, T.did ⟨2, T.now + K2, 0, 0, 0, 5⟩ = X := ⟨_, rfl⟩
              rw [hX] at htt ⊢
              clear hX
              rintro e w8 ⟨rfl, q8, h8⟩
              have H8 := Lib.hid h8; have Q8 := Lib.hid (Q7.out.trans q8); clear h8 q8
              go_wp2_with fail
              refine (job_sl u _ K _ H8.out).mono ?_
              rw [job_in _ hK6]
              rw [HJ2.out] at htt
              obtain ⟨⟨s2, w2', t2, u2⟩, hk2⟩ : ∃ k, X.1.jobs K = k := ⟨_, rfl⟩
              rw [hk2] at htt ⊢
              clear hk2
              simp only [Job.val, jcells]
              rintro e w9 ⟨rfl, hb9⟩
              have h9 := (H8.out.below hb9).boxB (ty := 27) (cs := jcells ⟨s2, w2', t2, u2⟩) rfl
              have y9 := (H8.out.below hb9).right.right.right.right.bl.cells
              have l9 := (H8.out.below hb9).right.right.right.right.bl.lt
              simp only [jcells] at y9
              have H9 := Lib.hid h9; have Q9 := Lib.hid ((Q8.out.trans (Quiet.below hb9)).alloc (.cells (jcells ⟨s2, w2', t2, u2⟩).toArray 27)); clear h9 hb9 y6 l6
              dsimp only at htt
              rcases htt with htt | htt | htt | htt
              · simp only [Job.mk.injEq] at htt
                obtain ⟨rfl, rfl, rfl, rfl⟩ := htt
                go_wp2
                go_ret
                exact ⟨rfl, H9.out.right.right.right.right.right.right.toBelow' Q9.out⟩
              · subst htt
                go_wp2
                go_ret
                exact ⟨rfl, H9.out.right.right.right.right.right.right.toBelow' Q9.out⟩
              · subst htt
                go_wp2
                go_ret
                exact ⟨rfl, H9.out.right.right.right.right.right.right.toBelow' Q9.out⟩
              · obtain ⟨rfl, rfl⟩ := htt
                go_wp2
                go_ret
                exact ⟨rfl, H9.out.right.right.right.right.right.right.toBelow' Q9.out⟩
        · have hs1 : (st != 2) = true := by simpa using hs
          clear hheld hs
          go_wp2
          go_ret
          exact ⟨rfl, H3.out.right.toBelow Q3.out⟩
end Go.Proofs.Ytfihmpkkpgmdhab
