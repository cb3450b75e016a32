/-
  JobsFirst, walked: the first that waits is taken.
-/
import Derived.Test.YtfihmpkkpgmdhabJobsRun
import Derived.Test.YtfihmpkkpgmdhabView3
import Derived.Test.YtfihmpkkpgmdhabLex
import Derived.StillTailTactics
namespace Go.Proofs.Ytfihmpkkpgmdhab
set_option linter.unusedSimpArgs false
set_option linter.unusedVariables false
open Go.RowKit
set_option maxRecDepth 100000 in
set_option maxHeartbeats 8000000 in
theorem jobsFirst_any (v : Value) (n0 l0 : Int) (L : List Ord) (w : World) (hv : (∀ r ∈ L, ∀ n ∈ r.ints, I64' n) ∧ RowAt w v L.length (ovs L)) (h1 : I64' n0) (h2 : I64' l0) :
    Calls Try.prog 5 #[v, .int .i64 n0, .int .i64 l0] w fun e w' => e = .returned (.bool true) ∧ Below w.heap.size w w' := by
  have hfld := run_field_job
  have hfld2 : ∀ (a b c d : Value) (W : World), (Instr.field 27 (.agg #[a, b, c, d]) 2).run Try.prog W = .ok c W := fun a b c d W => by kernel_rfl
  obtain ⟨K, hK4, hKe⟩ := uidx n0 4 (by omega) (by omega)
  have hKe : wrap64 ((IntKind.u64.wrap n0).tmod 4) = (K : Int) := hKe
  obtain ⟨K2, hK20, hK2e⟩ := uidx l0 20 (by omega) (by omega)
  have hK2e : wrap64 ((IntKind.u64.wrap l0).tmod 20) = (K2 : Int) := hK2e
  obtain ⟨a, cc, rfl, c1, c2⟩ := hv.2.shape
  have HV := Lib.hid hv.2; clear hv h1 h2
  go_enter Try.func5, Try.ntmps5
  go_wp2_with fail
  refine (jobsBegun_any _).mono ?_
  rintro e w1 ⟨rfl, hb1⟩
  have H1 := Lib.hid ((Holds.old (w := w)).below hb1)
  have Q1 := Lib.hid (Quiet.below hb1); clear hb1
  by_cases hlen : 300 < L.length
  · go_wp2
    go_ret
    exact ⟨rfl, H1.out.toBelow' Q1.out⟩
  · go_wp2_with fail
    refine (new_sl _ H1.out).mono ?_
    rintro e w2 ⟨b, rfl, q2, h2⟩
    have H2 := Lib.hid h2
    have Q2 := Lib.hid (Q1.out.trans q2); clear h2 q2
    go_wp2_with fail
    go_loopw [8] (fun i wr => ∃ (k : Nat) (T : Tbl), k ≤ L.length ∧ i = .int .i64 k ∧ Holds wr (tab b T * old w) ∧ Quiet w wr ∧ T.In) (fun i _ => L.length - (intOf i).toNat)
    case atStart => exact ⟨0, Tbl.zero, by omega, rfl, H2.out, Q2.out, Tbl.zero_in⟩
    case round =>
      obtain ⟨k, T, hk, rfl, hh, hq, hin⟩ := hrel
      obtain ⟨wo, rfl⟩ : ∃ wo : World, wo = wr := ⟨_, rfl⟩
      have HH := Lib.hid hh; have HQ := Lib.hid hq; have HI := Lib.hid hin; clear hh hq hin
      by_cases hlt : k < L.length
      · obtain ⟨o, ho⟩ : ∃ o, L[k]? = some o := ⟨_, List.getElem?_eq_getElem hlt⟩
        obtain ⟨g, off, c', e, _, _, hc0⟩ := HV.out.get (by omega)
        simp only [Value.slice.injEq] at e
        obtain ⟨rfl, _, rfl⟩ := e
        obtain ⟨a0, a1, a2, a3, a4, a5⟩ := ord_cells HV.out ho HH.out
        obtain ⟨kd, nw, jb, tr, wk, tm⟩ := o
        dsimp only at a0 a1 a2 a3 a4 a5
        clear ho hc0
        go_wp2_with fail
        refine (do_sl b T kd nw jb tr wk tm _ HH.out HI.out.ok).mono ?_
        rintro e w3 ⟨rfl, q3, h3⟩
        have H3 := Lib.hid h3; have Q3 := Lib.hid (HQ.out.trans q3); have HI3 := Lib.hid (did_in HI.out ⟨kd, nw, jb, tr, wk, tm⟩); clear h3 q3
        go_wp2_with fail
        go_roundw
        case rel => exact ⟨k + 1, _, by omega, by go_num, H3.out, Q3.out, HI3.out⟩
        case measure => simp [intOf]; omega
      · obtain rfl : k = L.length := by omega
        have hn0 := HI.out.ok.now.1
        have hn1 := HI.out.ok.now.2
        go_wp2_with fail
        rw [hKe, hK2e]
        go_loopw [9, 10] (fun f n wi => ∃ (m : Nat) (F : Int), m ≤ 6 ∧ n = .int .i64 ((m : Int) - 1) ∧ f = .int .i64 F ∧ Holds wi (tab b T * old w) ∧ Quiet w wi ∧ Hid ((F = -1 ∧ ∀ j, m ≤ j → j < 6 → (T.jobs j).st ≠ 1) ∨ ∃ i : Nat, F = i ∧ m ≤ i ∧ i < 6 ∧ (T.jobs i).st = 1 ∧ ∀ j, m ≤ j → j < i → (T.jobs j).st ≠ 1)) (fun _ n _ => (intOf n + 1).toNat)
        case atStart => exact ⟨6, -1, by omega, by go_num, rfl, HH.out, HQ.out, Lib.hid (.inl ⟨rfl, fun j h1 h2 => by omega⟩)⟩
        case round =>
          obtain ⟨m, F, hm, rfl, rfl, hh, hq, hF⟩ := hrel
          have HHi := Lib.hid hh; have HQi := Lib.hid hq; clear hh hq
          obtain ⟨p, hp⟩ : ∃ p : Int, (m : Int) - 1 = p := ⟨_, rfl⟩
          rw [hp]
          by_cases h0 : 0 ≤ p
          · obtain ⟨q, rfl⟩ := Int.eq_ofNat_of_zero_le h0
            obtain rfl : m = q + 1 := by omega
            have hq6 : q < 6 := by omega
            obtain ⟨⟨st, wk', tr', un⟩, hJ⟩ : ∃ J, T.jobs q = J := ⟨_, rfl⟩
            have HJ := Lib.hid ((job_in T hq6).trans hJ)
            have HJ2 := Lib.hid hJ
            clear hp h0 hJ
            go_wp2_with fail
            refine (job_sl b T q _ HHi.out).mono ?_
            rw [HJ.out]
            simp only [Job.val, jcells]
            rintro e w5 ⟨rfl, hb5⟩
            have H5 := Lib.hid (HHi.out.below hb5); have Q5 := Lib.hid (HQi.out.trans (Quiet.below hb5)); clear hb5
            by_cases hs : st = 1
            · have hs1 : (st == 1) = true := by simpa using hs
              have HS := Lib.hid hs; clear hs
              go_wp2
              go_roundw
              case rel => exact ⟨q, q, by omega, rfl, rfl, H5.out, Q5.out, Lib.hid (.inr ⟨q, rfl, by omega, hq6, by rw [HJ2.out]; exact HS.out, fun j h1 h2 => by omega⟩)⟩
              case measure => simp [intOf]
            · have hs1 : (st == 1) = false := by simpa using hs
              have HS := Lib.hid hs; clear hs
              go_wp2
              go_roundw
              case rel => exact ⟨q, F, by omega, rfl, rfl, H5.out, Q5.out, Lib.hid (by
                have hx : (T.jobs q).st ≠ 1 := by rw [HJ2.out]; exact HS.out
                rcases hF.out with ⟨e, h⟩ | ⟨i, e, h1, h2, h3, h4⟩
                · exact .inl ⟨e, fun j h5 h6 => by
                    by_cases e : j = q
                    · subst e; exact hx
                    · exact h j (by omega) h6⟩
                · exact .inr ⟨i, e, by omega, h2, h3, fun j h5 h6 => by
                    by_cases e : j = q
                    · subst e; exact hx
                    · exact h4 j (by omega) h6⟩)⟩
              case measure => simp [intOf]
          · obtain rfl : m = 0 := by omega
            obtain rfl : p = -1 := by omega
            clear hp h0
            have ht0 : 1 ≤ (1 : Int) + K2 := by omega
            have ht1 : (1 : Int) + K2 ≤ 20 := by omega
            go_wp2_with fail
            refine (own_sl b T _ HHi.out).mono ?_
            rintro e w4 ⟨u, rfl, q4, h4⟩
            have H4 := Lib.hid h4; have Q4 := Lib.hid (HQi.out.trans q4); clear h4 q4
            go_wp2_with fail
            refine (now_sl b T _ H4.out.two).mono ?_
            rintro e wn ⟨rfl, rfl⟩
            go_wp2_with fail
            refine (do_sl b T 2 _ 0 0 _ _ _ H4.out.two HI.out.ok).mono ?_
            rcases hF.out with ⟨rfl, hno⟩ | ⟨i, rfl, hi0, hi6, hsi, hlo⟩
            · have HD := Lib.hid (first_none HI.out (fun j hj => hno j (by omega) hj) (w := K) (m := 1 + K2) ⟨by omega, by omega⟩ ⟨ht0, ht1⟩)
              clear hno
              rw [HD.out]
              rintro e w5 ⟨rfl, q5, h5⟩
              have H5 := Lib.hid (h5.boxB (ty := 32) (cs := [.int .i64 5, .int .i64 0, .int .i64 0]) rfl)
              have Q5 := Lib.hid ((Q4.out.trans q5).alloc (.cells ([.int .i64 5, .int .i64 0, .int .i64 0] : List Value).toArray 32)); clear h5 q5
              dsimp only
              go_wp2
              go_ret
              exact ⟨rfl, H5.out.right.right.right.toBelow' Q5.out⟩
            · have hib : decide ((i : Int) < 0) = false := by simp
              obtain ⟨J, hJ⟩ : ∃ J, T.jobs i = J := ⟨_, rfl⟩
              have hd := first_some HI.out hi6 hsi (fun j hj => hlo j (by omega) hj) (w := K) (m := 1 + K2) ⟨by omega, by omega⟩ ⟨ht0, ht1⟩
              rw [hJ] at hd
              have HJ := Lib.hid hJ
              obtain ⟨si, wi', ti, ui⟩ := J
              dsimp only at hd
              have hin := did_in HI.out ⟨2, T.now, 0, 0, K, 1 + K2⟩
              rw [hd] at hin
              have htr := HI.out.ok.jobs i
              rw [hJ] at htr
              have ht2 := htr.tr.1
              have ht3 := htr.tr.2
              dsimp only at ht2 ht3
              obtain ⟨T', hT'⟩ : ∃ T', T.set i ⟨2, K, ti + 1, T.now + (1 + K2)⟩ = T' := ⟨_, rfl⟩
              rw [hT'] at hd hin
              have HD := Lib.hid hd; have HT' := Lib.hid hT'; have HI' := Lib.hid hin
              clear hd hT' hin htr hJ hsi hlo hi0
              rw [HD.out]
              rintro e w5 ⟨rfl, q5, h5⟩
              have h5b := (h5.boxB (ty := 32) (cs := [.int .i64 0, .int .i64 i, .int .i64 (ti + 1)]) rfl)
              have Q5 := Lib.hid ((Q4.out.trans q5).alloc (.cells ([.int .i64 0, .int .i64 i, .int .i64 (ti + 1)] : List Value).toArray 32))
              have H5 := Lib.hid (show Holds _ (tab b T' * (tab u T * (bl w5.heap.size 32 [.int .i64 0, .int .i64 i, .int .i64 (ti + 1)] * old w))) from h5b.eq (by ac_rfl))
              clear h5 h5b q5
              dsimp only
              go_wp2_with fail
              go_loopw [13] (fun n wi => ∃ m : Nat, m ≤ 6 ∧ n = .int .i64 m ∧ Holds wi (tab b T' * (tab u T * (bl w5.heap.size 32 [.int .i64 0, .int .i64 i, .int .i64 (ti + 1)] * old w))) ∧ Quiet w wi) (fun n _ => 6 - (intOf n).toNat)
              case atStart => exact ⟨0, by omega, rfl, H5.out, Q5.out⟩
              case round =>
                obtain ⟨m, hm, rfl, hh, hq⟩ := hrel
                have HHi := Lib.hid hh; have HQi := Lib.hid hq; clear hh hq
                by_cases hlt2 : m < 6
                · obtain ⟨J, hJm⟩ : ∃ J, T.jobs m = J := ⟨_, rfl⟩
                  have HJm := Lib.hid hJm
                  have HJ1 := Lib.hid ((job_in T hlt2).trans hJm); clear hJm
                  go_wp2_with fail
                  refine (job_sl u T m _ HHi.out.two).mono ?_
                  rw [HJ1.out]
                  obtain ⟨st, wk', tr', un⟩ := J
                  simp only [Job.val, jcells]
                  rintro e w6 ⟨rfl, hb6⟩
                  have h6 := (HHi.out.below hb6).boxB (ty := 27) (cs := jcells ⟨st, wk', tr', un⟩) rfl
                  have Q6 := Lib.hid ((HQi.out.trans (Quiet.below hb6)).alloc (.cells (jcells ⟨st, wk', tr', un⟩).toArray 27))
                  have H6 := Lib.hid h6; clear h6 hb6
                  by_cases hmi : m = i
                  · subst hmi
                    have hJJ := HJm.out.symm.trans HJ.out
                    simp only [Job.mk.injEq] at hJJ
                    obtain ⟨hj1, hj2, hj3, hj4⟩ := hJJ
                    rw [← hj3] at ht2 ht3
                    have HJ3 := Lib.hid hj3
                    clear hj1 hj2 hj3 hj4
                    go_wp2_with fail
                    refine wp_region_still_tail 9 (by kernel_rfl) (by kernel_rfl) ?_
                    simp only [List.take_succ_cons, List.take_zero, List.drop_succ_cons, List.drop_zero]
                    change wpStill _ _ (w6.alloc (.cells (jcells ⟨st, wk', tr', un⟩).toArray 27)).drew (fun a' => wpList _ _ _ _ a' (w6.alloc (.cells (jcells ⟨st, wk', tr', un⟩).toArray 27)).drew) _ _
                    have hd6 := H6.out.drew
                    have qd6 := Q6.out.drew
                    obtain ⟨wd, hwd⟩ : ∃ wd, (w6.alloc (.cells (jcells ⟨st, wk', tr', un⟩).toArray 27)).drew = wd := ⟨_, rfl⟩
                    rw [hwd] at hd6 qd6 ⊢
                    have y6 := hd6.bl.cells
                    have l6 := hd6.bl.lt
                    have f6 := hd6.bl.frees
                    simp only [jcells] at y6
                    have HD6 := Lib.hid hd6; have QD6 := Lib.hid qd6
                    clear hwd hd6 qd6
                    have hsum1 : IntKind.i64.wrap (tr' + 1) = tr' + 1 := by rw [IntKind.wrap_i64]; omega
                    have hsum2 : IntKind.i64.wrap (T.now + (1 + (K2 : Int))) = T.now + (1 + (K2 : Int)) := by rw [IntKind.wrap_i64]; omega
                    repeat still_step
                    still_call ((now_sl u T _ HD6.out.three).mono (fun e w'' ⟨h1, h2⟩ => ⟨h1, h2.symm⟩))
                    repeat still_step
                    refine wpStill_nil ?_
                    go_wp2_with fail
                    have hE := (((HD6.out.setB 0 (.int .i64 2)).setB 1 (.int .i64 K)).setB 2 (.int .i64 (tr' + 1))).setB 3 (.int .i64 (T.now + (1 + (K2 : Int))))
                    have qE := (((QD6.out.setCell ⟨w6.heap.size, 0, none⟩ (.int .i64 2)).setCell ⟨w6.heap.size, 1, none⟩ (.int .i64 K)).setCell ⟨w6.heap.size, 2, none⟩ (.int .i64 (tr' + 1))).setCell ⟨w6.heap.size, 3, none⟩ (.int .i64 (T.now + (1 + (K2 : Int))))
                    simp only [jcells, List.set_cons_zero, List.set_cons_succ] at hE
                    obtain ⟨we, hwe⟩ : ∃ we, (((wd.setCell ⟨w6.heap.size, 0, none⟩ (.int .i64 2)).setCell ⟨w6.heap.size, 1, none⟩ (.int .i64 K)).setCell ⟨w6.heap.size, 2, none⟩ (.int .i64 (tr' + 1))).setCell ⟨w6.heap.size, 3, none⟩ (.int .i64 (T.now + (1 + (K2 : Int)))) = we := ⟨_, rfl⟩
                    rw [hwe] at hE qE ⊢
                    have HE := Lib.hid hE; have QE := Lib.hid qE
                    clear hwe hE qE y6 l6 f6
                    refine wp_region_lex (fun W => (∀ o, W.cell? ⟨w6.heap.size, o, none⟩ = [Value.int .i64 2, .int .i64 K, .int .i64 (tr' + 1), .int .i64 (T.now + (1 + (K2 : Int)))][o]?)) [2] (by kernel_rfl) (by kernel_rfl) HE.out.drew.bl.cells ?_
                    repeat (first | (refine LexL.none (by rfl) ?_; (try simp only [Act.put, List.setIfInBounds_toArray, List.set_cons_zero, List.set_cons_succ])) | (refine LexL.still (v := ?_) (by rfl) ?_ ?_; rotate_left; (focus (intro W hW; (try dsimp only at hW); go_simp; (try (with_reducible rfl)); done)); (try simp only [Act.put, List.setIfInBounds_toArray, List.set_cons_zero, List.set_cons_succ])))
                    refine LexL.call (f := 18) (args := #[.pointer (some ⟨b, 0, none⟩), .int .i64 m]) (w1 := we.drew) (by rfl) (by decide) (by go_simp) ?_
                    refine (job_sl b T' m _ HE.out.drew.two).mono ?_
                    have hJ2 : T'.job m = ⟨2, K, tr' + 1, T.now + (1 + (K2 : Int))⟩ := by
                      rw [← HT'.out, tjob_set _ hlt2, HJ3.out]
                    rw [hJ2]
                    simp only [Job.val, jcells]
                    rintro e w7 ⟨rfl, hb7⟩
                    have h7 := HE.out.drew.below hb7
                    have HB7 := Lib.hid h7.bl.cells
                    have H7 := Lib.hid h7; have Q7 := Lib.hid (QE.out.drew.trans (Quiet.below hb7)); clear h7 hb7
                    refine ⟨_, rfl, HB7.out, ?_⟩
                    try simp only [Act.put, List.setIfInBounds_toArray, List.set_cons_zero, List.set_cons_succ]
                    repeat (first | (refine LexL.none (by rfl) ?_; (try simp only [Act.put, List.setIfInBounds_toArray, List.set_cons_zero, List.set_cons_succ])) | (refine LexL.still (v := ?_) (by rfl) ?_ ?_; rotate_left; (focus (intro W hW; (try dsimp only at hW); go_simp; (try (with_reducible rfl)); done)); (try simp only [Act.put, List.setIfInBounds_toArray, List.set_cons_zero, List.set_cons_succ])))
                    refine LexL.done ?_
                    go_wp2
                    go_roundw
                    case rel => exact ⟨m + 1, by omega, by go_num, H7.out.right, Q7.out⟩
                    case measure => simp [intOf]; omega
                  · have hmb : ((m : Int) == (i : Int)) = false := by simp; omega
                    go_wp2_with fail
                    refine wp_region_lex (fun W => (∀ o, W.cell? ⟨w6.heap.size, o, none⟩ = [Value.int .i64 st, .int .i64 wk', .int .i64 tr', .int .i64 un][o]?)) [2] (by kernel_rfl) (by kernel_rfl) H6.out.drew.bl.cells ?_
                    repeat (first | (refine LexL.none (by rfl) ?_; (try simp only [Act.put, List.setIfInBounds_toArray, List.set_cons_zero, List.set_cons_succ])) | (refine LexL.still (v := ?_) (by rfl) ?_ ?_; rotate_left; (focus (intro W hW; (try dsimp only at hW); go_simp; (try (with_reducible rfl)); done)); (try simp only [Act.put, List.setIfInBounds_toArray, List.set_cons_zero, List.set_cons_succ])))
                    refine LexL.call (f := 18) (args := #[.pointer (some ⟨b, 0, none⟩), .int .i64 m]) (w1 := (w6.alloc (.cells #[.int .i64 st, .int .i64 wk', .int .i64 tr', .int .i64 un] 27)).drew) (by rfl) (by decide) (by go_simp) ?_
                    refine (job_sl b T' m _ H6.out.drew.two).mono ?_
                    have hJ2 : T'.job m = ⟨st, wk', tr', un⟩ := by
                      rw [← HT'.out, job_in _ hlt2, set_jobs, if_neg hmi]; exact HJm.out
                    rw [hJ2]
                    simp only [Job.val, jcells]
                    rintro e w7 ⟨rfl, hb7⟩
                    have h7 := H6.out.drew.below hb7
                    have HB7 := Lib.hid h7.bl.cells
                    have H7 := Lib.hid h7; have Q7 := Lib.hid (Q6.out.drew.trans (Quiet.below hb7)); clear h7 hb7
                    refine ⟨_, rfl, HB7.out, ?_⟩
                    try simp only [Act.put, List.setIfInBounds_toArray, List.set_cons_zero, List.set_cons_succ]
                    repeat (first | (refine LexL.none (by rfl) ?_; (try simp only [Act.put, List.setIfInBounds_toArray, List.set_cons_zero, List.set_cons_succ])) | (refine LexL.still (v := ?_) (by rfl) ?_ ?_; rotate_left; (focus (intro W hW; (try dsimp only at hW); go_simp; (try (with_reducible rfl)); done)); (try simp only [Act.put, List.setIfInBounds_toArray, List.set_cons_zero, List.set_cons_succ])))
                    refine LexL.done ?_
                    go_wp2
                    go_roundw
                    case rel => exact ⟨m + 1, by omega, by go_num, H7.out.right, Q7.out⟩
                    case measure => simp [intOf]; omega
                · obtain rfl : m = 6 := by omega
                  have HJ1 := Lib.hid ((job_in T hi6).trans HJ.out)
                  go_wp2_with fail
                  have hsum1 : IntKind.i64.wrap (ti + 1) = ti + 1 := by rw [IntKind.wrap_i64]; omega
                  refine wp_region_lex (fun W => (∀ o, W.cell? ⟨w5.heap.size, o, none⟩ = [Value.int .i64 0, .int .i64 i, .int .i64 (ti + 1)][o]?)) [4] (by kernel_rfl) (by kernel_rfl) HHi.out.drew.three.bl.cells ?_
                  repeat (first | (refine LexL.none (by rfl) ?_; (try simp only [Act.put, List.setIfInBounds_toArray, List.set_cons_zero, List.set_cons_succ])) | (refine LexL.still (v := ?_) (by rfl) ?_ ?_; rotate_left; (focus (intro W hW; (try dsimp only at hW); go_simp; (try (with_reducible rfl)); done)); (try simp only [Act.put, List.setIfInBounds_toArray, List.set_cons_zero, List.set_cons_succ])))
                  refine LexL.call (f := 18) (args := #[.pointer (some ⟨u, 0, none⟩), .int .i64 i]) (w1 := wr.drew) (by rfl) (by decide) (by go_simp) ?_
                  refine (job_sl u T i _ HHi.out.drew.two).mono ?_
                  rw [HJ1.out]
                  simp only [Job.val, jcells]
                  rintro e w7 ⟨rfl, hb7⟩
                  have h7 := HHi.out.drew.below hb7
                  have HB7 := Lib.hid h7.three.bl.cells
                  have H7 := Lib.hid h7; have Q7 := Lib.hid (HQi.out.drew.trans (Quiet.below hb7)); clear h7 hb7
                  refine ⟨_, rfl, HB7.out, ?_⟩
                  try simp only [Act.put, List.setIfInBounds_toArray, List.set_cons_zero, List.set_cons_succ]
                  repeat (first | (refine LexL.none (by rfl) ?_; (try simp only [Act.put, List.setIfInBounds_toArray, List.set_cons_zero, List.set_cons_succ])) | (refine LexL.still (v := ?_) (by rfl) ?_ ?_; rotate_left; (focus (intro W hW; (try dsimp only at hW); go_simp; (try (with_reducible rfl)); done)); (try simp only [Act.put, List.setIfInBounds_toArray, List.set_cons_zero, List.set_cons_succ])))
                  refine LexL.done ?_
                  go_wp2
                  go_ret
                  exact ⟨rfl, H7.out.right.right.right.toBelow' Q7.out⟩
end Go.Proofs.Ytfihmpkkpgmdhab
