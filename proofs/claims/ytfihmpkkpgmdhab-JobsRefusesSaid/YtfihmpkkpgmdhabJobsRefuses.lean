/-
  JobsRefuses, walked: what is refused changes nothing.
-/
import Derived.Test.YtfihmpkkpgmdhabWas
import Derived.Test.YtfihmpkkpgmdhabView3
namespace Go.Proofs.Ytfihmpkkpgmdhab
set_option linter.unusedSimpArgs false
set_option linter.unusedVariables false
open Go.RowKit
theorem Holds.dropTwo {w : World} {A B C D : HP} (h : Holds w (A * (B * (C * D)))) : Holds w (A * D) := (h.eq (by ac_rfl : A * (B * (C * D)) = B * (C * (A * D)))).right.right
set_option maxRecDepth 100000 in
set_option maxHeartbeats 8000000 in
theorem jobsRefuses_any (v : Value) (L : List Ord) (w : World) (hv : (∀ r ∈ L, ∀ n ∈ r.ints, I64' n) ∧ RowAt w v L.length (ovs L)) :
    Calls Try.prog 3 #[v] w fun e w' => e = .returned (.bool true) ∧ Below w.heap.size w w' := by
  have hfld := run_field_job
  obtain ⟨a, cc, rfl, c1, c2⟩ := hv.2.shape
  have HV := Lib.hid hv.2; clear hv
  go_enter Try.func3, Try.ntmps3
  go_wp2_with fail
  refine (jobsBegun_any _).mono ?_
  rintro e w1 ⟨rfl, hb1⟩
  have H1 := Lib.hid ((Holds.old (w := w)).below hb1)
  have Q1 := Lib.hid (Quiet.below hb1); clear hb1
  by_cases hlen : 300 < L.length
  · go_wp2
    go_ret
    exact ⟨rfl, H1.out.toBelow' Q1.out⟩
  · go_wp2_with fail
    refine (new_sl _ H1.out).mono ?_
    rintro e w2 ⟨b, rfl, q2, h2⟩
    have H2 := Lib.hid h2
    have Q2 := Lib.hid (Q1.out.trans q2); clear h2 q2
    go_wp2_with fail
    go_loopw [4] (fun i wr => ∃ (k : Nat) (T : Tbl), k ≤ L.length ∧ i = .int .i64 k ∧ Holds wr (tab b T * old w) ∧ Quiet w wr ∧ T.In) (fun i _ => L.length - (intOf i).toNat)
    case atStart => exact ⟨0, Tbl.zero, by omega, rfl, H2.out, Q2.out, Tbl.zero_in⟩
    case round =>
      obtain ⟨k, T, hk, rfl, hh, hq, hin⟩ := hrel
      obtain ⟨wo, rfl⟩ : ∃ wo : World, wo = wr := ⟨_, rfl⟩
      have HH := Lib.hid hh; have HQ := Lib.hid hq; have HI := Lib.hid hin; clear hh hq hin
      by_cases hlt : k < L.length
      · obtain ⟨o, ho⟩ : ∃ o, L[k]? = some o := ⟨_, List.getElem?_eq_getElem hlt⟩
        obtain ⟨g, off, c', e, _, _, hc0⟩ := HV.out.get (by omega)
        simp only [Value.slice.injEq] at e
        obtain ⟨rfl, _, rfl⟩ := e
        have HO := Lib.hid ho; clear ho hc0
        obtain ⟨kd, nw, jb, tr, wk, tm⟩ := o
        have HW := Lib.hid (show Holds (wo.alloc (.cells (jrow (fun _ => Job.zero)).toArray 28)) (bl wo.heap.size 28 (jrow (wasTo T 0)) * (tab b T * old w)) by rw [was_start]; exact HH.out.boxB (ty := 28) (cs := jrow (fun _ => Job.zero)) rfl)
        have QW := Lib.hid (HQ.out.alloc (.cells (jrow (fun _ => Job.zero)).toArray 28))
        go_wp2_with fail
        refine (now_sl b T _ (HH.out.alloc _)).mono ?_
        rintro e wn ⟨rfl, rfl⟩
        go_wp2_with fail
        go_loopw [7] (fun n wi => ∃ m : Nat, m ≤ 6 ∧ n = .int .i64 m ∧ Holds wi (bl wo.heap.size 28 (jrow (wasTo T m)) * (tab b T * old w)) ∧ Quiet w wi) (fun n _ => 6 - (intOf n).toNat)
        case atStart => exact ⟨0, by omega, rfl, HW.out, QW.out⟩
        case round =>
          obtain ⟨m, hm, rfl, hh, hq⟩ := hrel
          have HHi := Lib.hid hh; have HQi := Lib.hid hq; clear hh hq
          by_cases hlt2 : m < 6
          · have HJ := Lib.hid (job_in T hlt2)
            go_wp2_with fail
            refine (job_sl b T m _ HHi.out.two).mono ?_
            rw [HJ.out]
            obtain ⟨J, hJ⟩ : ∃ J, T.jobs m = J := ⟨_, rfl⟩
            rw [hJ]
            have HJ2 := Lib.hid hJ; clear hJ
            simp only [Job.val, jcells]
            rintro e w5 ⟨rfl, hb5⟩
            have h5 := HHi.out.below hb5
            have Q5 := Lib.hid (HQi.out.trans (Quiet.below hb5))
            obtain ⟨c0, c1, c2, c3⟩ := h5.bl.jrow hlt2
            have f5 := h5.bl.frees
            have H5 := Lib.hid h5; clear h5 hb5
            go_wp2
            go_roundw
            case rel => exact ⟨m + 1, by omega, by go_num, by have := H5.out.setWas hlt2; rw [HJ2.out] at this; exact this, (((Q5.out.setCell _ _).setCell _ _).setCell _ _).setCell _ _⟩
            case measure => simp [intOf]; omega
          · obtain rfl : m = 6 := by omega
            have HH2 := Lib.hid (show Holds _ (bl wo.heap.size 28 (jrow T.jobs) * (tab b T * old w)) by rw [← was_end]; exact HHi.out)
            have HQ2 := HQi
            clear HHi HQi
            obtain ⟨a0, a1, a2, a3, a4, a5⟩ := ord_cells HV.out HO.out HH2.out.right
            dsimp only at a0 a1 a2 a3 a4 a5
            obtain ⟨X, hX⟩ : ∃ X, T.did ⟨kd, nw, jb, tr, wk, tm⟩ = X := ⟨_, rfl⟩
            have hin' := did_in HI.out ⟨kd, nw, jb, tr, wk, tm⟩
            have htime := did_time T ⟨kd, nw, jb, tr, wk, tm⟩
            have hth := fun (n : Nat) => @did_there T ⟨kd, nw, jb, tr, wk, tm⟩ n
            have hcode := @did_code T ⟨kd, nw, jb, tr, wk, tm⟩
            rw [hX] at hin' htime hth hcode
            go_wp2_with fail
            refine (do_sl b T kd nw jb tr wk tm _ HH2.out.two HI.out.ok).mono ?_
            rw [hX]
            clear hX
            obtain ⟨T', ⟨xc, xj, xt⟩⟩ := X
            dsimp only at hin' htime hth hcode ⊢
            rintro e wd ⟨rfl, qd, hd⟩
            have h4 := ((hd.boxB (ty := 32) (cs := [.int .i64 xc, .int .i64 xj, .int .i64 xt]) rfl)).two
            have Q4 := Lib.hid ((HQ2.out.trans qd).alloc (.cells ([.int .i64 xc, .int .i64 xj, .int .i64 xt] : List Value).toArray 32))
            have H4 := Lib.hid h4; have HI' := Lib.hid hin'; clear h4 hd qd hin' a0 a1 a2 a3 a4 a5
            by_cases hx : xc = 0
            · have hx0 : (xc != 0) = false := by simpa using hx
              clear hx
              have hlt0 : decide (T'.now < T.now) = false := by simp; omega
              have HTH := Lib.hid (show ∀ n, (T.jobs n).st ≠ 0 → (T'.jobs n).st ≠ 0 from fun n => hth n)
              clear hcode hth
              go_wp2_with fail
              refine (now_sl b T' _ H4.out).mono ?_
              rintro e wn2 ⟨rfl, rfl⟩
              go_wp2_with fail
              go_loopw [9] (fun n wi => ∃ m : Nat, m ≤ 6 ∧ n = .int .i64 m ∧ Holds wi (tab b T' * (bl wd.heap.size 32 [.int .i64 xc, .int .i64 xj, .int .i64 xt] * (bl wo.heap.size 28 (jrow T.jobs) * old w))) ∧ Quiet w wi) (fun n _ => 6 - (intOf n).toNat)
              case atStart => exact ⟨0, by omega, rfl, H4.out, Q4.out⟩
              case round =>
                obtain ⟨m, hm, rfl, hh, hq⟩ := hrel
                have HHi := Lib.hid hh; have HQi := Lib.hid hq; clear hh hq
                by_cases hlt2 : m < 6
                · obtain ⟨⟨st, wk', tr', un⟩, hWJ⟩ : ∃ J, T.jobs m = J := ⟨_, rfl⟩
                  have hthere : st ≠ 0 → ((T').jobs m).st ≠ 0 := fun h => HTH.out m (by rw [hWJ]; exact h)
                  obtain ⟨⟨st2, wk2, tr2, un2⟩, hJ'⟩ : ∃ J, (T').jobs m = J := ⟨_, rfl⟩
                  rw [hJ'] at hthere
                  dsimp only at hthere
                  have HTT := Lib.hid hthere
                  have HWJ := Lib.hid hWJ
                  have HJ := Lib.hid ((job_in T hlt2).trans hWJ)
                  have HJ' := Lib.hid ((job_in (T') hlt2).trans hJ')
                  have HB := Lib.hid (And.intro (HHi.out.drew.right.bl.cell 0 (.int .i64 xc) rfl) (jrowOf HHi.out.drew.right.right.bl hlt2 hWJ))
                  clear hWJ hJ' hthere
                  by_cases hs : st = 0
                  · have hs0 : (st != 0) = false := by simpa using hs
                    clear hs
                    go_wp2_with fail
                    refine wp_region_lex (fun W => W.cell? ⟨wd.heap.size, 0, none⟩ = some (.int .i64 xc) ∧ W.cell? ⟨wo.heap.size, m * 4, none⟩ = some (.int .i64 st) ∧ W.cell? ⟨wo.heap.size, m * 4 + 1, none⟩ = some (.int .i64 wk') ∧ W.cell? ⟨wo.heap.size, m * 4 + 2, none⟩ = some (.int .i64 tr') ∧ W.cell? ⟨wo.heap.size, m * 4 + 3, none⟩ = some (.int .i64 un)) [6, 12, 18, 21] (by kernel_rfl) (by kernel_rfl) HB.out ?_
                    repeat (first | (refine LexL.none (by rfl) ?_; (try simp only [Act.put, List.setIfInBounds_toArray, List.set_cons_zero, List.set_cons_succ])) | (refine LexL.still (v := ?_) (by rfl) ?_ ?_; rotate_left; (focus (intro W hW; (try dsimp only at hW); go_simp; (try (with_reducible rfl)); done)); (try simp only [Act.put, List.setIfInBounds_toArray, List.set_cons_zero, List.set_cons_succ])))
                    have H6 := Lib.hid HHi.out.drew; have Q6 := Lib.hid HQi.out.drew
                    have HZ := H6; have QZ := Q6
                    refine LexL.done ?_
                    go_wp2
                    go_roundw
                    case rel => exact ⟨m + 1, by omega, by go_num, HZ.out, QZ.out⟩
                    case measure => simp [intOf]; omega
                  · have hs0 : (st != 0) = true := by simpa using hs
                    have hs2 : (st2 == 0) = false := by simpa using HTT.out hs
                    clear hs
                    go_wp2_with fail
                    refine wp_region_lex (fun W => W.cell? ⟨wd.heap.size, 0, none⟩ = some (.int .i64 xc) ∧ W.cell? ⟨wo.heap.size, m * 4, none⟩ = some (.int .i64 st) ∧ W.cell? ⟨wo.heap.size, m * 4 + 1, none⟩ = some (.int .i64 wk') ∧ W.cell? ⟨wo.heap.size, m * 4 + 2, none⟩ = some (.int .i64 tr') ∧ W.cell? ⟨wo.heap.size, m * 4 + 3, none⟩ = some (.int .i64 un)) [6, 12, 18, 21] (by kernel_rfl) (by kernel_rfl) HB.out ?_
                    repeat (first | (refine LexL.none (by rfl) ?_; (try simp only [Act.put, List.setIfInBounds_toArray, List.set_cons_zero, List.set_cons_succ])) | (refine LexL.still (v := ?_) (by rfl) ?_ ?_; rotate_left; (focus (intro W hW; (try dsimp only at hW); go_simp; (try (with_reducible rfl)); done)); (try simp only [Act.put, List.setIfInBounds_toArray, List.set_cons_zero, List.set_cons_succ])))
                    have H6 := Lib.hid HHi.out.drew; have Q6 := Lib.hid HQi.out.drew
                    refine LexL.call (f := 18) (args := #[.pointer (some ⟨b, 0, none⟩), .int .i64 m]) (w1 := wr.drew) (by rfl) (by decide) (by go_simp) ?_
                    refine (job_sl b T' m _ H6.out).mono ?_
                    rw [HJ'.out]
                    simp only [Job.val, jcells]
                    rintro e w7 ⟨rfl, hb7⟩
                    have h7 := H6.out.below hb7
                    have HB7 := Lib.hid (And.intro (h7.right.bl.cell 0 (.int .i64 xc) rfl) (jrowOf h7.right.right.bl hlt2 HWJ.out))
                    have H7 := Lib.hid h7; have Q7 := Lib.hid (Q6.out.trans (Quiet.below hb7)); clear h7 hb7
                    refine ⟨_, rfl, HB7.out, ?_⟩
                    try simp only [Act.put, List.setIfInBounds_toArray, List.set_cons_zero, List.set_cons_succ]
                    repeat (first | (refine LexL.none (by rfl) ?_; (try simp only [Act.put, List.setIfInBounds_toArray, List.set_cons_zero, List.set_cons_succ])) | (refine LexL.still (v := ?_) (by rfl) ?_ ?_; rotate_left; (focus (intro W hW; (try dsimp only at hW); go_simp; (try (with_reducible rfl)); done)); (try simp only [Act.put, List.setIfInBounds_toArray, List.set_cons_zero, List.set_cons_succ])))
                    have HZ := H7; have QZ := Q7
                    refine LexL.done ?_
                    go_wp2
                    go_roundw
                    case rel => exact ⟨m + 1, by omega, by go_num, HZ.out, QZ.out⟩
                    case measure => simp [intOf]; omega
                · obtain rfl : m = 6 := by omega
                  go_wp2_with fail
                  go_roundw
                  case rel => exact ⟨k + 1, T', by omega, by go_num, HHi.out.eq (by ac_rfl) |> fun h => (h : Holds _ (tab b T' * (bl wd.heap.size 32 [.int .i64 xc, .int .i64 xj, .int .i64 xt] * (bl wo.heap.size 28 (jrow T.jobs) * old w)))).dropTwo, HQi.out, HI'.out⟩
                  case measure => simp [intOf]; omega
            · have hx0 : (xc != 0) = true := by simpa using hx
              obtain rfl : T' = T := hcode hx
              have HTH := Lib.hid (show ∀ n, (T'.jobs n).st ≠ 0 → (T'.jobs n).st ≠ 0 from fun n h => h)
              clear hcode hth hx
              go_wp2_with fail
              refine (now_sl b T' _ H4.out).mono ?_
              rintro e wn2 ⟨rfl, rfl⟩
              go_wp2_with fail
              refine (now_sl b T' _ H4.out).mono ?_
              rintro e wn3 ⟨rfl, rfl⟩
              go_wp2_with fail
              go_loopw [9] (fun n wi => ∃ m : Nat, m ≤ 6 ∧ n = .int .i64 m ∧ Holds wi (tab b T' * (bl wd.heap.size 32 [.int .i64 xc, .int .i64 xj, .int .i64 xt] * (bl wo.heap.size 28 (jrow T'.jobs) * old w))) ∧ Quiet w wi) (fun n _ => 6 - (intOf n).toNat)
              case atStart => exact ⟨0, by omega, rfl, H4.out, Q4.out⟩
              case round =>
                obtain ⟨m, hm, rfl, hh, hq⟩ := hrel
                have HHi := Lib.hid hh; have HQi := Lib.hid hq; clear hh hq
                by_cases hlt2 : m < 6
                · obtain ⟨⟨st, wk', tr', un⟩, hWJ⟩ : ∃ J, T'.jobs m = J := ⟨_, rfl⟩
                  have hthere : st ≠ 0 → (T'.jobs m).st ≠ 0 := fun h => HTH.out m (by rw [hWJ]; exact h)
                  obtain ⟨⟨st2, wk2, tr2, un2⟩, hJ'⟩ : ∃ J, T'.jobs m = J := ⟨_, rfl⟩
                  rw [hJ'] at hthere
                  dsimp only at hthere
                  have HTT := Lib.hid hthere
                  have HWJ := Lib.hid hWJ
                  have HJ := Lib.hid ((job_in T' hlt2).trans hWJ)
                  have HJ' := Lib.hid ((job_in T' hlt2).trans hJ')
                  have HB := Lib.hid (And.intro (HHi.out.drew.right.bl.cell 0 (.int .i64 xc) rfl) (jrowOf HHi.out.drew.right.right.bl hlt2 hWJ))
                  clear hWJ hJ' hthere
                  by_cases hs : st = 0
                  · have hs0 : (st != 0) = false := by simpa using hs
                    clear hs
                    go_wp2_with fail
                    refine wp_region_lex (fun W => W.cell? ⟨wd.heap.size, 0, none⟩ = some (.int .i64 xc) ∧ W.cell? ⟨wo.heap.size, m * 4, none⟩ = some (.int .i64 st) ∧ W.cell? ⟨wo.heap.size, m * 4 + 1, none⟩ = some (.int .i64 wk') ∧ W.cell? ⟨wo.heap.size, m * 4 + 2, none⟩ = some (.int .i64 tr') ∧ W.cell? ⟨wo.heap.size, m * 4 + 3, none⟩ = some (.int .i64 un)) [6, 12, 18, 21] (by kernel_rfl) (by kernel_rfl) HB.out ?_
                    repeat (first | (refine LexL.none (by rfl) ?_; (try simp only [Act.put, List.setIfInBounds_toArray, List.set_cons_zero, List.set_cons_succ])) | (refine LexL.still (v := ?_) (by rfl) ?_ ?_; rotate_left; (focus (intro W hW; (try dsimp only at hW); go_simp; (try (with_reducible rfl)); done)); (try simp only [Act.put, List.setIfInBounds_toArray, List.set_cons_zero, List.set_cons_succ])))
                    refine LexL.call (f := 18) (args := #[.pointer (some ⟨b, 0, none⟩), .int .i64 m]) (w1 := wr.drew) (by rfl) (by decide) (by go_simp) ?_
                    refine (job_sl b T' m _ HHi.out.drew).mono ?_
                    rw [HJ.out]
                    simp only [Job.val, jcells]
                    rintro e w6 ⟨rfl, hb6⟩
                    have h6 := HHi.out.drew.below hb6
                    have HB6 := Lib.hid (And.intro (h6.right.bl.cell 0 (.int .i64 xc) rfl) (jrowOf h6.right.right.bl hlt2 HWJ.out))
                    have H6 := Lib.hid h6; have Q6 := Lib.hid (HQi.out.drew.trans (Quiet.below hb6)); clear h6 hb6
                    refine ⟨_, rfl, HB6.out, ?_⟩
                    try simp only [Act.put, List.setIfInBounds_toArray, List.set_cons_zero, List.set_cons_succ]
                    repeat (first | (refine LexL.none (by rfl) ?_; (try simp only [Act.put, List.setIfInBounds_toArray, List.set_cons_zero, List.set_cons_succ])) | (refine LexL.still (v := ?_) (by rfl) ?_ ?_; rotate_left; (focus (intro W hW; (try dsimp only at hW); go_simp; (try (with_reducible rfl)); done)); (try simp only [Act.put, List.setIfInBounds_toArray, List.set_cons_zero, List.set_cons_succ])))
                    have HZ := H6; have QZ := Q6
                    refine LexL.done ?_
                    go_wp2
                    go_roundw
                    case rel => exact ⟨m + 1, by omega, by go_num, HZ.out, QZ.out⟩
                    case measure => simp [intOf]; omega
                  · have hs0 : (st != 0) = true := by simpa using hs
                    have hs2 : (st2 == 0) = false := by simpa using HTT.out hs
                    clear hs
                    go_wp2_with fail
                    refine wp_region_lex (fun W => W.cell? ⟨wd.heap.size, 0, none⟩ = some (.int .i64 xc) ∧ W.cell? ⟨wo.heap.size, m * 4, none⟩ = some (.int .i64 st) ∧ W.cell? ⟨wo.heap.size, m * 4 + 1, none⟩ = some (.int .i64 wk') ∧ W.cell? ⟨wo.heap.size, m * 4 + 2, none⟩ = some (.int .i64 tr') ∧ W.cell? ⟨wo.heap.size, m * 4 + 3, none⟩ = some (.int .i64 un)) [6, 12, 18, 21] (by kernel_rfl) (by kernel_rfl) HB.out ?_
                    repeat (first | (refine LexL.none (by rfl) ?_; (try simp only [Act.put, List.setIfInBounds_toArray, List.set_cons_zero, List.set_cons_succ])) | (refine LexL.still (v := ?_) (by rfl) ?_ ?_; rotate_left; (focus (intro W hW; (try dsimp only at hW); go_simp; (try (with_reducible rfl)); done)); (try simp only [Act.put, List.setIfInBounds_toArray, List.set_cons_zero, List.set_cons_succ])))
                    refine LexL.call (f := 18) (args := #[.pointer (some ⟨b, 0, none⟩), .int .i64 m]) (w1 := wr.drew) (by rfl) (by decide) (by go_simp) ?_
                    refine (job_sl b T' m _ HHi.out.drew).mono ?_
                    rw [HJ.out]
                    simp only [Job.val, jcells]
                    rintro e w6 ⟨rfl, hb6⟩
                    have h6 := HHi.out.drew.below hb6
                    have HB6 := Lib.hid (And.intro (h6.right.bl.cell 0 (.int .i64 xc) rfl) (jrowOf h6.right.right.bl hlt2 HWJ.out))
                    have H6 := Lib.hid h6; have Q6 := Lib.hid (HQi.out.drew.trans (Quiet.below hb6)); clear h6 hb6
                    refine ⟨_, rfl, HB6.out, ?_⟩
                    try simp only [Act.put, List.setIfInBounds_toArray, List.set_cons_zero, List.set_cons_succ]
                    repeat (first | (refine LexL.none (by rfl) ?_; (try simp only [Act.put, List.setIfInBounds_toArray, List.set_cons_zero, List.set_cons_succ])) | (refine LexL.still (v := ?_) (by rfl) ?_ ?_; rotate_left; (focus (intro W hW; (try dsimp only at hW); go_simp; (try (with_reducible rfl)); done)); (try simp only [Act.put, List.setIfInBounds_toArray, List.set_cons_zero, List.set_cons_succ])))
                    refine LexL.call (f := 18) (args := #[.pointer (some ⟨b, 0, none⟩), .int .i64 m]) (w1 := w6) (by rfl) (by decide) (by go_simp) ?_
                    refine (job_sl b T' m _ H6.out).mono ?_
                    rw [HJ'.out]
                    simp only [Job.val, jcells]
                    rintro e w7 ⟨rfl, hb7⟩
                    have h7 := H6.out.below hb7
                    have HB7 := Lib.hid (And.intro (h7.right.bl.cell 0 (.int .i64 xc) rfl) (jrowOf h7.right.right.bl hlt2 HWJ.out))
                    have H7 := Lib.hid h7; have Q7 := Lib.hid (Q6.out.trans (Quiet.below hb7)); clear h7 hb7
                    refine ⟨_, rfl, HB7.out, ?_⟩
                    try simp only [Act.put, List.setIfInBounds_toArray, List.set_cons_zero, List.set_cons_succ]
                    repeat (first | (refine LexL.none (by rfl) ?_; (try simp only [Act.put, List.setIfInBounds_toArray, List.set_cons_zero, List.set_cons_succ])) | (refine LexL.still (v := ?_) (by rfl) ?_ ?_; rotate_left; (focus (intro W hW; (try dsimp only at hW); go_simp; (try (with_reducible rfl)); done)); (try simp only [Act.put, List.setIfInBounds_toArray, List.set_cons_zero, List.set_cons_succ])))
                    have HZ := H7; have QZ := Q7
                    refine LexL.done ?_
                    go_wp2
                    go_roundw
                    case rel => exact ⟨m + 1, by omega, by go_num, HZ.out, QZ.out⟩
                    case measure => simp [intOf]; omega
                · obtain rfl : m = 6 := by omega
                  go_wp2_with fail
                  go_roundw
                  case rel => exact ⟨k + 1, T', by omega, by go_num, HHi.out.eq (by ac_rfl) |> fun h => (h : Holds _ (tab b T' * (bl wd.heap.size 32 [.int .i64 xc, .int .i64 xj, .int .i64 xt] * (bl wo.heap.size 28 (jrow T'.jobs) * old w)))).dropTwo, HQi.out, HI'.out⟩
                  case measure => simp [intOf]; omega
      · obtain rfl : k = L.length := by omega
        go_wp2
        go_ret
        exact ⟨rfl, HH.out.toBelow HQ.out⟩
end Go.Proofs.Ytfihmpkkpgmdhab
