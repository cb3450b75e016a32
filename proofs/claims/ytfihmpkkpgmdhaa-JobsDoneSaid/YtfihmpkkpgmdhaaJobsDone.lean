/-
  JobsDone, walked: done is done.
-/
import Derived.Test.YtfihmpkkpgmdhaaWas
import Derived.Test.YtfihmpkkpgmdhaaView3
import Derived.Test.YtfihmpkkpgmdhaaIv6
namespace Go.Proofs.Ytfihmpkkpgmdhaa
set_option linter.unusedSimpArgs false
set_option linter.unusedVariables false
open Go.RowKit
theorem Holds.dropTwo' {w : World} {A B C : HP} (h : Holds w (A * (B * C))) : Holds w (A * C) := (h.eq (by ac_rfl : A * (B * C) = B * (A * C))).right
set_option maxRecDepth 100000 in
set_option maxHeartbeats 8000000 in
theorem jobsDone_any (v : Value) (L : List Ord) (w : World) (hv : (∀ r ∈ L, ∀ n ∈ r.ints, I64' n) ∧ RowAt w v L.length (ovs L)) :
    Calls Try.prog 12 #[v] w fun e w' => e = .returned (.bool true) ∧ Below w.heap.size w w' := by
  have hfld := run_field_job
  obtain ⟨a, cc, rfl, c1, c2⟩ := hv.2.shape
  have HV := Lib.hid hv.2; clear hv
  go_enter Try.func12, Try.ntmps12
  go_wp2_with fail
  refine (jobsBegun_any _).mono ?_
  rintro e w1 ⟨rfl, hb1⟩
  have H1 := Lib.hid ((Holds.old (w := w)).below hb1)
  have Q1 := Lib.hid (Quiet.below hb1); clear hb1
  by_cases hlen : 300 < L.length
  · go_wp2
    go_ret
    exact ⟨rfl, H1.out.toBelow' Q1.out⟩
  · go_wp2_with fail
    refine (new_sl _ H1.out).mono ?_
    rintro e w2 ⟨b, rfl, q2, h2⟩
    have H2 := Lib.hid ((h2.boxB (ty := 73) (cs := iv6 (fun _ => 0)) rfl).two)
    have Q2 := Lib.hid ((Q1.out.trans q2).alloc (.cells (iv6 (fun _ => 0)).toArray 73)); clear h2 q2
    go_wp2_with fail
    go_loopw [5] (fun i wr => ∃ (k : Nat) (T : Tbl) (done : Nat → Int), k ≤ L.length ∧ i = .int .i64 k ∧ Holds wr (tab b T * (bl w2.heap.size 73 (iv6 done) * old w)) ∧ Quiet w wr ∧ T.In ∧ Dones T done) (fun i _ => L.length - (intOf i).toNat)
    case atStart => exact ⟨0, Tbl.zero, fun _ => 0, by omega, rfl, H2.out, Q2.out, Tbl.zero_in, Dones.zero⟩
    case round =>
      obtain ⟨k, T, done, hk, rfl, hh, hq, hin, hdn⟩ := hrel
      obtain ⟨wo, rfl⟩ : ∃ wo : World, wo = wr := ⟨_, rfl⟩
      have HH := Lib.hid hh; have HQ := Lib.hid hq; have HI := Lib.hid hin; have HDN := Lib.hid hdn; clear hh hq hin hdn
      by_cases hlt : k < L.length
      · obtain ⟨o, ho⟩ : ∃ o, L[k]? = some o := ⟨_, List.getElem?_eq_getElem hlt⟩
        obtain ⟨g, off, c', e, _, _, hc0⟩ := HV.out.get (by omega)
        simp only [Value.slice.injEq] at e
        obtain ⟨rfl, _, rfl⟩ := e
        have HO := Lib.hid ho; clear ho hc0
        obtain ⟨a0, a1, a2, a3, a4, a5⟩ := ord_cells HV.out HO.out HH.out.right
        obtain ⟨kd, nw, jb, tr, wk, tm⟩ := o
        dsimp only at a0 a1 a2 a3 a4 a5
        have HW := Lib.hid (show Holds ((wo.alloc (.cells ([.int .i64 kd, .int .i64 nw, .int .i64 jb, .int .i64 tr, .int .i64 wk, .int .i64 tm] : List Value).toArray 42)).alloc (.cells (jrow (fun _ => Job.zero)).toArray 64)) (bl (wo.heap.size + 1) 64 (jrow (wasTo T 0)) * (tab b T * (bl wo.heap.size 42 [.int .i64 kd, .int .i64 nw, .int .i64 jb, .int .i64 tr, .int .i64 wk, .int .i64 tm] * (bl w2.heap.size 73 (iv6 done) * old w)))) by
          rw [was_start]
          exact ((HH.out.boxB (ty := 42) (cs := [.int .i64 kd, .int .i64 nw, .int .i64 jb, .int .i64 tr, .int .i64 wk, .int .i64 tm]) rfl).two.boxB (ty := 64) (cs := jrow (fun _ => Job.zero)) (by simp)))
        have QW := Lib.hid ((HQ.out.alloc (.cells ([.int .i64 kd, .int .i64 nw, .int .i64 jb, .int .i64 tr, .int .i64 wk, .int .i64 tm] : List Value).toArray 42)).alloc (.cells (jrow (fun _ => Job.zero)).toArray 64))
        go_wp2_with fail
        go_loopw [8] (fun n wi => ∃ m : Nat, m ≤ 6 ∧ n = .int .i64 m ∧ Holds wi (bl (wo.heap.size + 1) 64 (jrow (wasTo T m)) * (tab b T * (bl wo.heap.size 42 [.int .i64 kd, .int .i64 nw, .int .i64 jb, .int .i64 tr, .int .i64 wk, .int .i64 tm] * (bl w2.heap.size 73 (iv6 done) * old w)))) ∧ Quiet w wi) (fun n _ => 6 - (intOf n).toNat)
        case atStart => exact ⟨0, by omega, rfl, HW.out, QW.out⟩
        case round =>
          obtain ⟨m, hm, rfl, hh, hq⟩ := hrel
          have HHi := Lib.hid hh; have HQi := Lib.hid hq; clear hh hq
          by_cases hlt2 : m < 6
          · have HJ := Lib.hid (job_in T hlt2)
            go_wp2_with fail
            refine (job_sl b T m _ HHi.out.two).mono ?_
            rw [HJ.out]
            obtain ⟨J, hJ⟩ : ∃ J, T.jobs m = J := ⟨_, rfl⟩
            rw [hJ]
            have HJ2 := Lib.hid hJ; clear hJ
            simp only [Job.val, jcells]
            rintro e w5 ⟨rfl, hb5⟩
            have h5 := HHi.out.below hb5
            have Q5 := Lib.hid (HQi.out.trans (Quiet.below hb5))
            obtain ⟨c0, c1, c2, c3⟩ := h5.bl.jrow hlt2
            have f5 := h5.bl.frees
            have H5 := Lib.hid h5; clear h5 hb5
            go_wp2
            go_roundw
            case rel => exact ⟨m + 1, by omega, by go_num, by have := H5.out.setWas hlt2; rw [HJ2.out] at this; exact this, (((Q5.out.setCell _ _).setCell _ _).setCell _ _).setCell _ _⟩
            case measure => simp [intOf]; omega
          · obtain rfl : m = 6 := by omega
            have HH2 := Lib.hid (show Holds _ (bl (wo.heap.size + 1) 64 (jrow T.jobs) * (tab b T * (bl wo.heap.size 42 [.int .i64 kd, .int .i64 nw, .int .i64 jb, .int .i64 tr, .int .i64 wk, .int .i64 tm] * (bl w2.heap.size 73 (iv6 done) * old w)))) by rw [← was_end]; exact HHi.out)
            have HQ2 := HQi
            clear HHi HQi
            have y0 := HH2.out.right.right.bl.cells
            have hkeep := fun (n : Nat) => Dones.keeps (t := T) ⟨kd, nw, jb, tr, wk, tm⟩ n
            obtain ⟨X, hX⟩ : ∃ X, T.did ⟨kd, nw, jb, tr, wk, tm⟩ = X := ⟨_, rfl⟩
            simp only [hX] at hkeep
            have hin' := did_in HI.out ⟨kd, nw, jb, tr, wk, tm⟩
            go_wp2_with fail
            refine (do_sl b T kd nw jb tr wk tm _ HH2.out.two HI.out.ok).mono ?_
            by_cases hc : kd = 4 ∧ (T.did ⟨kd, nw, jb, tr, wk, tm⟩).2.code = 0
            · obtain ⟨i, hi, e1, e2, e3, e4, e5, hd'⟩ := HDN.out.done (o := ⟨kd, nw, jb, tr, wk, tm⟩) hc.1 hc.2
              have e0 := hc.2
              obtain ⟨hk2, _⟩ := hc
              rw [hX] at *
              obtain ⟨T', ⟨xc, xj, xt⟩⟩ := X
              dsimp only at e0 e1 e2 e3 e4 e5 hd' hin' hkeep ⊢
              subst e0 e1 hk2
              rintro e wd ⟨rfl, qd, hd⟩
              have y0 := hd.right.right.bl.cells
              have ly := hd.right.right.bl.lt
              have cD := hd.right.right.right.bl.cell i (.int .i64 0) (by rw [iv6_get _ hi, e2])
              have fD := hd.right.right.right.bl.frees
              have lD := hd.right.right.right.bl.lt
              have hi' : (i : Int) < 6 := by omega
              have hb0 : decide ((i : Int) < 0) = false := by simp
              have hb1 : decide (6 ≤ (i : Int)) = false := by simp; omega
              have h5 := (hd.four.setB i (.int .i64 1))
              rw [iv6_set _ hi] at h5
              have h6 : Holds (wd.setCell ⟨w2.heap.size, i, none⟩ (.int .i64 1)) (tab b T' * (bl (wo.heap.size + 1) 64 (jrow T.jobs) * (bl wo.heap.size 42 [.int .i64 4, .int .i64 nw, .int .i64 i, .int .i64 tr, .int .i64 wk, .int .i64 tm] * (bl w2.heap.size 73 (iv6 (upd done i 1)) * old w)))) := h5.eq (by ac_rfl)
              have h7 := (h6.boxB (ty := 68) (cs := [.int .i64 0, .int .i64 xj, .int .i64 xt]) (g := wd.heap.size) (by simp [World.setCell])).two
              have Q7 := Lib.hid (((HQ2.out.trans qd).setCell ⟨w2.heap.size, i, none⟩ (.int .i64 1)).alloc (.cells ([.int .i64 0, .int .i64 xj, .int .i64 xt] : List Value).toArray 68))
              have hw1 := h7.drew.right.right.bl.cell (i * 4 + 1) (.int .i64 wk) (by rw [(jrow_job T.jobs i hi).2.1, e4])
              have hw2 := h7.drew.right.right.bl.cell (i * 4 + 2) (.int .i64 tr) (by rw [(jrow_job T.jobs i hi).2.2.1, e5])
              have HB := Lib.hid (And.intro h7.drew.right.right.right.bl.cells (And.intro (h7.drew.right.right.right.right.bl.cell i (.int .i64 1) (by rw [iv6_get _ hi]; simp [upd])) (And.intro hw1 hw2)))
              have HJI := Lib.hid ((job_in T' hi).trans e3)
              have H7 := Lib.hid h7; have HI' := Lib.hid hin'; have HD' := Lib.hid hd'; have HKEEP := Lib.hid hkeep
              have E4 := Lib.hid e4; have E5 := Lib.hid e5
              clear h5 h6 h7 hd qd hin' hd' hkeep hX hw1 hw2 e2 e3 e4 e5
              go_wp2_with fail
              refine wp_region_lex (fun W => (∀ o, W.cell? ⟨wo.heap.size, o, none⟩ = [Value.int .i64 4, .int .i64 nw, .int .i64 i, .int .i64 tr, .int .i64 wk, .int .i64 tm][o]?) ∧ W.cell? ⟨w2.heap.size, i, none⟩ = some (.int .i64 1) ∧ W.cell? ⟨wo.heap.size + 1, i * 4 + 1, none⟩ = some (.int .i64 wk) ∧ W.cell? ⟨wo.heap.size + 1, i * 4 + 2, none⟩ = some (.int .i64 tr)) [9] (by kernel_rfl) (by kernel_rfl) HB.out ?_
              repeat (first | (refine LexL.none (by rfl) ?_; (try simp only [Act.put, List.setIfInBounds_toArray, List.set_cons_zero, List.set_cons_succ])) | (refine LexL.still (v := ?_) (by rfl) ?_ ?_; rotate_left; (focus (intro W hW; (try dsimp only at hW); go_simp; (try (with_reducible rfl)); done)); (try simp only [Act.put, List.setIfInBounds_toArray, List.set_cons_zero, List.set_cons_succ])))
              refine LexL.call (f := 42) (args := #[.pointer (some ⟨b, 0, none⟩), .int .i64 i]) (w1 := ((wd.setCell ⟨w2.heap.size, i, none⟩ (.int .i64 1)).alloc (.cells #[.int .i64 0, .int .i64 xj, .int .i64 xt] 68)).drew) (by rfl) (by decide) (by go_simp) ?_
              refine (job_sl b T' i _ H7.out.drew).mono ?_
              rw [HJI.out]
              simp only [Job.val, jcells]
              rintro e w8 ⟨rfl, hb8⟩
              have h8 := H7.out.drew.below hb8
              have hw1 := h8.right.right.bl.cell (i * 4 + 1) (.int .i64 wk) (by rw [(jrow_job T.jobs i hi).2.1, E4.out])
              have hw2 := h8.right.right.bl.cell (i * 4 + 2) (.int .i64 tr) (by rw [(jrow_job T.jobs i hi).2.2.1, E5.out])
              have HB8 := Lib.hid (And.intro h8.right.right.right.bl.cells (And.intro (h8.right.right.right.right.bl.cell i (.int .i64 1) (by rw [iv6_get _ hi]; simp [upd])) (And.intro hw1 hw2)))
              have H8 := Lib.hid h8; have Q8 := Lib.hid (Q7.out.drew.trans (Quiet.below hb8)); clear h8 hb8 hw1 hw2
              refine ⟨_, rfl, HB8.out, ?_⟩
              try simp only [Act.put, List.setIfInBounds_toArray, List.set_cons_zero, List.set_cons_succ]
              repeat (first | (refine LexL.none (by rfl) ?_; (try simp only [Act.put, List.setIfInBounds_toArray, List.set_cons_zero, List.set_cons_succ])) | (refine LexL.still (v := ?_) (by rfl) ?_ ?_; rotate_left; (focus (intro W hW; (try dsimp only at hW); go_simp; (try (with_reducible rfl)); done)); (try simp only [Act.put, List.setIfInBounds_toArray, List.set_cons_zero, List.set_cons_succ])))
              refine LexL.done ?_
              clear cD fD lD y0 ly
              go_wp2_with fail
              go_loopw [10] (fun n wi => ∃ m : Nat, m ≤ 6 ∧ n = .int .i64 m ∧ Holds wi (tab b T' * (bl wd.heap.size 68 [.int .i64 0, .int .i64 xj, .int .i64 xt] * (bl (wo.heap.size + 1) 64 (jrow T.jobs) * (bl wo.heap.size 42 [.int .i64 4, .int .i64 nw, .int .i64 i, .int .i64 tr, .int .i64 wk, .int .i64 tm] * (bl w2.heap.size 73 (iv6 (upd done i 1)) * old w))))) ∧ Quiet w wi) (fun n _ => 6 - (intOf n).toNat)
              case atStart => exact ⟨0, by omega, rfl, H8.out, Q8.out⟩
              case round =>
                obtain ⟨m, hm, rfl, hh, hq⟩ := hrel
                have HHi := Lib.hid hh; have HQi := Lib.hid hq; clear hh hq
                by_cases hlt2 : m < 6
                · obtain ⟨⟨st, wk', tr', un⟩, hWJ⟩ : ∃ J, T.jobs m = J := ⟨_, rfl⟩
                  have hkp := HKEEP.out m
                  rw [hWJ] at hkp
                  obtain ⟨⟨st2, wk2, tr2, un2⟩, hJ'⟩ : ∃ J, T'.jobs m = J := ⟨_, rfl⟩
                  have hiff := HD'.out.iff m hlt2
                  rw [hJ'] at hkp hiff
                  dsimp only at hkp hiff
                  obtain ⟨dm, hdm⟩ : ∃ x, (upd done i 1) m = x := ⟨_, rfl⟩
                  rw [hdm] at hiff
                  obtain ⟨bb, hb1, hb2⟩ : ∃ bb : Bool, (st2 == 3) = bb ∧ (dm == 1) = bb := ⟨_, rfl, by
                    rw [Bool.eq_iff_iff]; simp only [beq_iff_eq]; exact hiff.symm⟩
                  have HKP := Lib.hid hkp; have HDM := Lib.hid hdm
                  have HWJ := Lib.hid hWJ
                  have HJ' := Lib.hid ((job_in T' hlt2).trans hJ')
                  have HB := Lib.hid (jrowOf HHi.out.drew.right.right.bl hlt2 hWJ)
                  clear hWJ hJ' hkp hiff hdm
                  by_cases hs4 : st = 3 ∨ st = 4
                  · by_cases hs3 : st = 3
                    · have hs5 : (st == 3) = true := by simpa using hs3
                      have HS4 := Lib.hid hs4
                      clear hs3 hs4
                      go_wp2_with fail
                      refine wp_region_lex (fun W => (W.cell? ⟨wo.heap.size + 1, m * 4, none⟩ = some (.int .i64 st) ∧ W.cell? ⟨wo.heap.size + 1, m * 4 + 1, none⟩ = some (.int .i64 wk') ∧ W.cell? ⟨wo.heap.size + 1, m * 4 + 2, none⟩ = some (.int .i64 tr') ∧ W.cell? ⟨wo.heap.size + 1, m * 4 + 3, none⟩ = some (.int .i64 un))) [15] (by kernel_rfl) (by kernel_rfl) HB.out ?_
                      repeat (first | (refine LexL.none (by rfl) ?_; (try simp only [Act.put, List.setIfInBounds_toArray, List.set_cons_zero, List.set_cons_succ])) | (refine LexL.still (v := ?_) (by rfl) ?_ ?_; rotate_left; (focus (intro W hW; (try dsimp only at hW); go_simp; (try (with_reducible rfl)); done)); (try simp only [Act.put, List.setIfInBounds_toArray, List.set_cons_zero, List.set_cons_succ])))
                      refine LexL.call (f := 42) (args := #[.pointer (some ⟨b, 0, none⟩), .int .i64 m]) (w1 := wr.drew) (by rfl) (by decide) (by go_simp) ?_
                      refine (job_sl b T' m _ HHi.out.drew).mono ?_
                      rw [HJ'.out, HKP.out HS4.out]
                      simp only [Job.val, jcells]
                      rintro e w6 ⟨rfl, hb6⟩
                      have h6 := HHi.out.drew.below hb6
                      have HB6 := Lib.hid (jrowOf h6.right.right.bl hlt2 HWJ.out)
                      have H6 := Lib.hid h6; have Q6 := Lib.hid (HQi.out.drew.trans (Quiet.below hb6)); clear h6 hb6
                      refine ⟨_, rfl, HB6.out, ?_⟩
                      try simp only [Act.put, List.setIfInBounds_toArray, List.set_cons_zero, List.set_cons_succ]
                      repeat (first | (refine LexL.none (by rfl) ?_; (try simp only [Act.put, List.setIfInBounds_toArray, List.set_cons_zero, List.set_cons_succ])) | (refine LexL.still (v := ?_) (by rfl) ?_ ?_; rotate_left; (focus (intro W hW; (try dsimp only at hW); go_simp; (try (with_reducible rfl)); done)); (try simp only [Act.put, List.setIfInBounds_toArray, List.set_cons_zero, List.set_cons_succ])))
                      refine LexL.done ?_
                      go_wp2_with fail
                      refine wp_region_lex (fun W => W.cell? ⟨w2.heap.size, m, none⟩ = some (.int .i64 dm)) [2] (by kernel_rfl) (by kernel_rfl) (H6.out.drew.right.right.right.right.bl.cell m (.int .i64 dm) (by rw [← HDM.out]; exact iv6_get _ hlt2)) ?_
                      repeat (first | (refine LexL.none (by rfl) ?_; (try simp only [Act.put, List.setIfInBounds_toArray, List.set_cons_zero, List.set_cons_succ])) | (refine LexL.still (v := ?_) (by rfl) ?_ ?_; rotate_left; (focus (intro W hW; (try dsimp only at hW); go_simp; (try (with_reducible rfl)); done)); (try simp only [Act.put, List.setIfInBounds_toArray, List.set_cons_zero, List.set_cons_succ])))
                      refine LexL.call (f := 42) (args := #[.pointer (some ⟨b, 0, none⟩), .int .i64 m]) (w1 := w6.drew) (by rfl) (by decide) (by go_simp) ?_
                      refine (job_sl b T' m _ H6.out.drew).mono ?_
                      rw [HJ'.out]
                      simp only [Job.val, jcells]
                      rintro e w7 ⟨rfl, hb7⟩
                      have h7 := H6.out.drew.below hb7
                      have HB7 := Lib.hid (h7.right.right.right.right.bl.cell m (.int .i64 dm) (by rw [← HDM.out]; exact iv6_get _ hlt2))
                      have H7 := Lib.hid h7; have Q7 := Lib.hid (Q6.out.drew.trans (Quiet.below hb7)); clear h7 hb7
                      refine ⟨_, rfl, HB7.out, ?_⟩
                      try simp only [Act.put, List.setIfInBounds_toArray, List.set_cons_zero, List.set_cons_succ]
                      repeat (first | (refine LexL.none (by rfl) ?_; (try simp only [Act.put, List.setIfInBounds_toArray, List.set_cons_zero, List.set_cons_succ])) | (refine LexL.still (v := ?_) (by rfl) ?_ ?_; rotate_left; (focus (intro W hW; (try dsimp only at hW); go_simp; (try (with_reducible rfl)); done)); (try simp only [Act.put, List.setIfInBounds_toArray, List.set_cons_zero, List.set_cons_succ])))
                      refine LexL.done ?_
                      go_wp2
                      go_roundw
                      case rel => exact ⟨m + 1, by omega, by go_num, H7.out, Q7.out⟩
                      case measure => simp [intOf]; omega
                    · have hs5 : (st == 3) = false := by simpa using hs3
                      have hs6 : (st == 4) = true := by simp; omega
                      have HS4 := Lib.hid hs4
                      clear hs3 hs4
                      go_wp2_with fail
                      refine wp_region_lex (fun W => (W.cell? ⟨wo.heap.size + 1, m * 4, none⟩ = some (.int .i64 st) ∧ W.cell? ⟨wo.heap.size + 1, m * 4 + 1, none⟩ = some (.int .i64 wk') ∧ W.cell? ⟨wo.heap.size + 1, m * 4 + 2, none⟩ = some (.int .i64 tr') ∧ W.cell? ⟨wo.heap.size + 1, m * 4 + 3, none⟩ = some (.int .i64 un))) [15] (by kernel_rfl) (by kernel_rfl) HB.out ?_
                      repeat (first | (refine LexL.none (by rfl) ?_; (try simp only [Act.put, List.setIfInBounds_toArray, List.set_cons_zero, List.set_cons_succ])) | (refine LexL.still (v := ?_) (by rfl) ?_ ?_; rotate_left; (focus (intro W hW; (try dsimp only at hW); go_simp; (try (with_reducible rfl)); done)); (try simp only [Act.put, List.setIfInBounds_toArray, List.set_cons_zero, List.set_cons_succ])))
                      refine LexL.call (f := 42) (args := #[.pointer (some ⟨b, 0, none⟩), .int .i64 m]) (w1 := wr.drew) (by rfl) (by decide) (by go_simp) ?_
                      refine (job_sl b T' m _ HHi.out.drew).mono ?_
                      rw [HJ'.out, HKP.out HS4.out]
                      simp only [Job.val, jcells]
                      rintro e w6 ⟨rfl, hb6⟩
                      have h6 := HHi.out.drew.below hb6
                      have HB6 := Lib.hid (jrowOf h6.right.right.bl hlt2 HWJ.out)
                      have H6 := Lib.hid h6; have Q6 := Lib.hid (HQi.out.drew.trans (Quiet.below hb6)); clear h6 hb6
                      refine ⟨_, rfl, HB6.out, ?_⟩
                      try simp only [Act.put, List.setIfInBounds_toArray, List.set_cons_zero, List.set_cons_succ]
                      repeat (first | (refine LexL.none (by rfl) ?_; (try simp only [Act.put, List.setIfInBounds_toArray, List.set_cons_zero, List.set_cons_succ])) | (refine LexL.still (v := ?_) (by rfl) ?_ ?_; rotate_left; (focus (intro W hW; (try dsimp only at hW); go_simp; (try (with_reducible rfl)); done)); (try simp only [Act.put, List.setIfInBounds_toArray, List.set_cons_zero, List.set_cons_succ])))
                      refine LexL.done ?_
                      go_wp2_with fail
                      refine wp_region_lex (fun W => W.cell? ⟨w2.heap.size, m, none⟩ = some (.int .i64 dm)) [2] (by kernel_rfl) (by kernel_rfl) (H6.out.drew.right.right.right.right.bl.cell m (.int .i64 dm) (by rw [← HDM.out]; exact iv6_get _ hlt2)) ?_
                      repeat (first | (refine LexL.none (by rfl) ?_; (try simp only [Act.put, List.setIfInBounds_toArray, List.set_cons_zero, List.set_cons_succ])) | (refine LexL.still (v := ?_) (by rfl) ?_ ?_; rotate_left; (focus (intro W hW; (try dsimp only at hW); go_simp; (try (with_reducible rfl)); done)); (try simp only [Act.put, List.setIfInBounds_toArray, List.set_cons_zero, List.set_cons_succ])))
                      refine LexL.call (f := 42) (args := #[.pointer (some ⟨b, 0, none⟩), .int .i64 m]) (w1 := w6.drew) (by rfl) (by decide) (by go_simp) ?_
                      refine (job_sl b T' m _ H6.out.drew).mono ?_
                      rw [HJ'.out]
                      simp only [Job.val, jcells]
                      rintro e w7 ⟨rfl, hb7⟩
                      have h7 := H6.out.drew.below hb7
                      have HB7 := Lib.hid (h7.right.right.right.right.bl.cell m (.int .i64 dm) (by rw [← HDM.out]; exact iv6_get _ hlt2))
                      have H7 := Lib.hid h7; have Q7 := Lib.hid (Q6.out.drew.trans (Quiet.below hb7)); clear h7 hb7
                      refine ⟨_, rfl, HB7.out, ?_⟩
                      try simp only [Act.put, List.setIfInBounds_toArray, List.set_cons_zero, List.set_cons_succ]
                      repeat (first | (refine LexL.none (by rfl) ?_; (try simp only [Act.put, List.setIfInBounds_toArray, List.set_cons_zero, List.set_cons_succ])) | (refine LexL.still (v := ?_) (by rfl) ?_ ?_; rotate_left; (focus (intro W hW; (try dsimp only at hW); go_simp; (try (with_reducible rfl)); done)); (try simp only [Act.put, List.setIfInBounds_toArray, List.set_cons_zero, List.set_cons_succ])))
                      refine LexL.done ?_
                      go_wp2
                      go_roundw
                      case rel => exact ⟨m + 1, by omega, by go_num, H7.out, Q7.out⟩
                      case measure => simp [intOf]; omega
                  · have hs5 : (st == 3) = false := by simp; omega
                    have hs6 : (st == 4) = false := by simp; omega
                    clear hs4
                    go_wp2_with fail
                    refine wp_region_lex (fun W => (W.cell? ⟨wo.heap.size + 1, m * 4, none⟩ = some (.int .i64 st) ∧ W.cell? ⟨wo.heap.size + 1, m * 4 + 1, none⟩ = some (.int .i64 wk') ∧ W.cell? ⟨wo.heap.size + 1, m * 4 + 2, none⟩ = some (.int .i64 tr') ∧ W.cell? ⟨wo.heap.size + 1, m * 4 + 3, none⟩ = some (.int .i64 un))) [15] (by kernel_rfl) (by kernel_rfl) HB.out ?_
                    repeat (first | (refine LexL.none (by rfl) ?_; (try simp only [Act.put, List.setIfInBounds_toArray, List.set_cons_zero, List.set_cons_succ])) | (refine LexL.still (v := ?_) (by rfl) ?_ ?_; rotate_left; (focus (intro W hW; (try dsimp only at hW); go_simp; (try (with_reducible rfl)); done)); (try simp only [Act.put, List.setIfInBounds_toArray, List.set_cons_zero, List.set_cons_succ])))
                    refine LexL.done ?_
                    have H6 := Lib.hid HHi.out.drew; have Q6 := Lib.hid HQi.out.drew
                    go_wp2_with fail
                    refine wp_region_lex (fun W => W.cell? ⟨w2.heap.size, m, none⟩ = some (.int .i64 dm)) [2] (by kernel_rfl) (by kernel_rfl) (H6.out.drew.right.right.right.right.bl.cell m (.int .i64 dm) (by rw [← HDM.out]; exact iv6_get _ hlt2)) ?_
                    repeat (first | (refine LexL.none (by rfl) ?_; (try simp only [Act.put, List.setIfInBounds_toArray, List.set_cons_zero, List.set_cons_succ])) | (refine LexL.still (v := ?_) (by rfl) ?_ ?_; rotate_left; (focus (intro W hW; (try dsimp only at hW); go_simp; (try (with_reducible rfl)); done)); (try simp only [Act.put, List.setIfInBounds_toArray, List.set_cons_zero, List.set_cons_succ])))
                    refine LexL.call (f := 42) (args := #[.pointer (some ⟨b, 0, none⟩), .int .i64 m]) (w1 := wr.drew.drew) (by rfl) (by decide) (by go_simp) ?_
                    refine (job_sl b T' m _ H6.out.drew).mono ?_
                    rw [HJ'.out]
                    simp only [Job.val, jcells]
                    rintro e w7 ⟨rfl, hb7⟩
                    have h7 := H6.out.drew.below hb7
                    have HB7 := Lib.hid (h7.right.right.right.right.bl.cell m (.int .i64 dm) (by rw [← HDM.out]; exact iv6_get _ hlt2))
                    have H7 := Lib.hid h7; have Q7 := Lib.hid (Q6.out.drew.trans (Quiet.below hb7)); clear h7 hb7
                    refine ⟨_, rfl, HB7.out, ?_⟩
                    try simp only [Act.put, List.setIfInBounds_toArray, List.set_cons_zero, List.set_cons_succ]
                    repeat (first | (refine LexL.none (by rfl) ?_; (try simp only [Act.put, List.setIfInBounds_toArray, List.set_cons_zero, List.set_cons_succ])) | (refine LexL.still (v := ?_) (by rfl) ?_ ?_; rotate_left; (focus (intro W hW; (try dsimp only at hW); go_simp; (try (with_reducible rfl)); done)); (try simp only [Act.put, List.setIfInBounds_toArray, List.set_cons_zero, List.set_cons_succ])))
                    refine LexL.done ?_
                    go_wp2
                    go_roundw
                    case rel => exact ⟨m + 1, by omega, by go_num, H7.out, Q7.out⟩
                    case measure => simp [intOf]; omega
                · obtain rfl : m = 6 := by omega
                  go_wp2_with fail
                  go_roundw
                  case rel => exact ⟨k + 1, T', (upd done i 1), by omega, by go_num, ((HHi.out.dropTwo').dropTwo').dropTwo', HQi.out, HI'.out, HD'.out⟩
                  case measure => simp [intOf]; omega
            · have hd' := HDN.out.other (o := ⟨kd, nw, jb, tr, wk, tm⟩) hc
              rw [hX] at *
              obtain ⟨T', ⟨xc, xj, xt⟩⟩ := X
              dsimp only at hc hin' hd' hkeep ⊢
              rintro e wd ⟨rfl, qd, hd⟩
              have h4 := ((hd.boxB (ty := 68) (cs := [.int .i64 xc, .int .i64 xj, .int .i64 xt]) rfl)).two
              have Q4 := Lib.hid ((HQ2.out.trans qd).alloc (.cells ([.int .i64 xc, .int .i64 xj, .int .i64 xt] : List Value).toArray 68))
              have y0 := hd.right.right.bl.cells
              have ly := hd.right.right.bl.lt
              have H4 := Lib.hid h4; have HI' := Lib.hid hin'; have HD' := Lib.hid hd'; have HKEEP := Lib.hid hkeep; clear h4 hd qd hin' hd' hkeep hX
              by_cases hk2 : kd = 4
              · have hc0 : (xc == 0) = false := by simp; intro e; exact hc ⟨hk2, e⟩
                have hk4 : (kd == 4) = true := by simpa using hk2
                clear hc hk2
                go_wp2_with fail
                go_loopw [10] (fun n wi => ∃ m : Nat, m ≤ 6 ∧ n = .int .i64 m ∧ Holds wi (tab b T' * (bl wd.heap.size 68 [.int .i64 xc, .int .i64 xj, .int .i64 xt] * (bl (wo.heap.size + 1) 64 (jrow T.jobs) * (bl wo.heap.size 42 [.int .i64 kd, .int .i64 nw, .int .i64 jb, .int .i64 tr, .int .i64 wk, .int .i64 tm] * (bl w2.heap.size 73 (iv6 done) * old w))))) ∧ Quiet w wi) (fun n _ => 6 - (intOf n).toNat)
                case atStart => exact ⟨0, by omega, rfl, H4.out, Q4.out⟩
                case round =>
                  obtain ⟨m, hm, rfl, hh, hq⟩ := hrel
                  have HHi := Lib.hid hh; have HQi := Lib.hid hq; clear hh hq
                  by_cases hlt2 : m < 6
                  · obtain ⟨⟨st, wk', tr', un⟩, hWJ⟩ : ∃ J, T.jobs m = J := ⟨_, rfl⟩
                    have hkp := HKEEP.out m
                    rw [hWJ] at hkp
                    obtain ⟨⟨st2, wk2, tr2, un2⟩, hJ'⟩ : ∃ J, T'.jobs m = J := ⟨_, rfl⟩
                    have hiff := HD'.out.iff m hlt2
                    rw [hJ'] at hkp hiff
                    dsimp only at hkp hiff
                    obtain ⟨dm, hdm⟩ : ∃ x, done m = x := ⟨_, rfl⟩
                    rw [hdm] at hiff
                    obtain ⟨bb, hb1, hb2⟩ : ∃ bb : Bool, (st2 == 3) = bb ∧ (dm == 1) = bb := ⟨_, rfl, by
                      rw [Bool.eq_iff_iff]; simp only [beq_iff_eq]; exact hiff.symm⟩
                    have HKP := Lib.hid hkp; have HDM := Lib.hid hdm
                    have HWJ := Lib.hid hWJ
                    have HJ' := Lib.hid ((job_in T' hlt2).trans hJ')
                    have HB := Lib.hid (jrowOf HHi.out.drew.right.right.bl hlt2 hWJ)
                    clear hWJ hJ' hkp hiff hdm
                    by_cases hs4 : st = 3 ∨ st = 4
                    · by_cases hs3 : st = 3
                      · have hs5 : (st == 3) = true := by simpa using hs3
                        have HS4 := Lib.hid hs4
                        clear hs3 hs4
                        go_wp2_with fail
                        refine wp_region_lex (fun W => (W.cell? ⟨wo.heap.size + 1, m * 4, none⟩ = some (.int .i64 st) ∧ W.cell? ⟨wo.heap.size + 1, m * 4 + 1, none⟩ = some (.int .i64 wk') ∧ W.cell? ⟨wo.heap.size + 1, m * 4 + 2, none⟩ = some (.int .i64 tr') ∧ W.cell? ⟨wo.heap.size + 1, m * 4 + 3, none⟩ = some (.int .i64 un))) [15] (by kernel_rfl) (by kernel_rfl) HB.out ?_
                        repeat (first | (refine LexL.none (by rfl) ?_; (try simp only [Act.put, List.setIfInBounds_toArray, List.set_cons_zero, List.set_cons_succ])) | (refine LexL.still (v := ?_) (by rfl) ?_ ?_; rotate_left; (focus (intro W hW; (try dsimp only at hW); go_simp; (try (with_reducible rfl)); done)); (try simp only [Act.put, List.setIfInBounds_toArray, List.set_cons_zero, List.set_cons_succ])))
                        refine LexL.call (f := 42) (args := #[.pointer (some ⟨b, 0, none⟩), .int .i64 m]) (w1 := wr.drew) (by rfl) (by decide) (by go_simp) ?_
                        refine (job_sl b T' m _ HHi.out.drew).mono ?_
                        rw [HJ'.out, HKP.out HS4.out]
                        simp only [Job.val, jcells]
                        rintro e w6 ⟨rfl, hb6⟩
                        have h6 := HHi.out.drew.below hb6
                        have HB6 := Lib.hid (jrowOf h6.right.right.bl hlt2 HWJ.out)
                        have H6 := Lib.hid h6; have Q6 := Lib.hid (HQi.out.drew.trans (Quiet.below hb6)); clear h6 hb6
                        refine ⟨_, rfl, HB6.out, ?_⟩
                        try simp only [Act.put, List.setIfInBounds_toArray, List.set_cons_zero, List.set_cons_succ]
                        repeat (first | (refine LexL.none (by rfl) ?_; (try simp only [Act.put, List.setIfInBounds_toArray, List.set_cons_zero, List.set_cons_succ])) | (refine LexL.still (v := ?_) (by rfl) ?_ ?_; rotate_left; (focus (intro W hW; (try dsimp only at hW); go_simp; (try (with_reducible rfl)); done)); (try simp only [Act.put, List.setIfInBounds_toArray, List.set_cons_zero, List.set_cons_succ])))
                        refine LexL.done ?_
                        go_wp2_with fail
                        refine wp_region_lex (fun W => W.cell? ⟨w2.heap.size, m, none⟩ = some (.int .i64 dm)) [2] (by kernel_rfl) (by kernel_rfl) (H6.out.drew.right.right.right.right.bl.cell m (.int .i64 dm) (by rw [← HDM.out]; exact iv6_get _ hlt2)) ?_
                        repeat (first | (refine LexL.none (by rfl) ?_; (try simp only [Act.put, List.setIfInBounds_toArray, List.set_cons_zero, List.set_cons_succ])) | (refine LexL.still (v := ?_) (by rfl) ?_ ?_; rotate_left; (focus (intro W hW; (try dsimp only at hW); go_simp; (try (with_reducible rfl)); done)); (try simp only [Act.put, List.setIfInBounds_toArray, List.set_cons_zero, List.set_cons_succ])))
                        refine LexL.call (f := 42) (args := #[.pointer (some ⟨b, 0, none⟩), .int .i64 m]) (w1 := w6.drew) (by rfl) (by decide) (by go_simp) ?_
                        refine (job_sl b T' m _ H6.out.drew).mono ?_
                        rw [HJ'.out]
                        simp only [Job.val, jcells]
                        rintro e w7 ⟨rfl, hb7⟩
                        have h7 := H6.out.drew.below hb7
                        have HB7 := Lib.hid (h7.right.right.right.right.bl.cell m (.int .i64 dm) (by rw [← HDM.out]; exact iv6_get _ hlt2))
                        have H7 := Lib.hid h7; have Q7 := Lib.hid (Q6.out.drew.trans (Quiet.below hb7)); clear h7 hb7
                        refine ⟨_, rfl, HB7.out, ?_⟩
                        try simp only [Act.put, List.setIfInBounds_toArray, List.set_cons_zero, List.set_cons_succ]
                        repeat (first | (refine LexL.none (by rfl) ?_; (try simp only [Act.put, List.setIfInBounds_toArray, List.set_cons_zero, List.set_cons_succ])) | (refine LexL.still (v := ?_) (by rfl) ?_ ?_; rotate_left; (focus (intro W hW; (try dsimp only at hW); go_simp; (try (with_reducible rfl)); done)); (try simp only [Act.put, List.setIfInBounds_toArray, List.set_cons_zero, List.set_cons_succ])))
                        refine LexL.done ?_
                        go_wp2
                        go_roundw
                        case rel => exact ⟨m + 1, by omega, by go_num, H7.out, Q7.out⟩
                        case measure => simp [intOf]; omega
                      · have hs5 : (st == 3) = false := by simpa using hs3
                        have hs6 : (st == 4) = true := by simp; omega
                        have HS4 := Lib.hid hs4
                        clear hs3 hs4
                        go_wp2_with fail
                        refine wp_region_lex (fun W => (W.cell? ⟨wo.heap.size + 1, m * 4, none⟩ = some (.int .i64 st) ∧ W.cell? ⟨wo.heap.size + 1, m * 4 + 1, none⟩ = some (.int .i64 wk') ∧ W.cell? ⟨wo.heap.size + 1, m * 4 + 2, none⟩ = some (.int .i64 tr') ∧ W.cell? ⟨wo.heap.size + 1, m * 4 + 3, none⟩ = some (.int .i64 un))) [15] (by kernel_rfl) (by kernel_rfl) HB.out ?_
                        repeat (first | (refine LexL.none (by rfl) ?_; (try simp only [Act.put, List.setIfInBounds_toArray, List.set_cons_zero, List.set_cons_succ])) | (refine LexL.still (v := ?_) (by rfl) ?_ ?_; rotate_left; (focus (intro W hW; (try dsimp only at hW); go_simp; (try (with_reducible rfl)); done)); (try simp only [Act.put, List.setIfInBounds_toArray, List.set_cons_zero, List.set_cons_succ])))
                        refine LexL.call (f := 42) (args := #[.pointer (some ⟨b, 0, none⟩), .int .i64 m]) (w1 := wr.drew) (by rfl) (by decide) (by go_simp) ?_
                        refine (job_sl b T' m _ HHi.out.drew).mono ?_
                        rw [HJ'.out, HKP.out HS4.out]
                        simp only [Job.val, jcells]
                        rintro e w6 ⟨rfl, hb6⟩
                        have h6 := HHi.out.drew.below hb6
                        have HB6 := Lib.hid (jrowOf h6.right.right.bl hlt2 HWJ.out)
                        have H6 := Lib.hid h6; have Q6 := Lib.hid (HQi.out.drew.trans (Quiet.below hb6)); clear h6 hb6
                        refine ⟨_, rfl, HB6.out, ?_⟩
                        try simp only [Act.put, List.setIfInBounds_toArray, List.set_cons_zero, List.set_cons_succ]
                        repeat (first | (refine LexL.none (by rfl) ?_; (try simp only [Act.put, List.setIfInBounds_toArray, List.set_cons_zero, List.set_cons_succ])) | (refine LexL.still (v := ?_) (by rfl) ?_ ?_; rotate_left; (focus (intro W hW; (try dsimp only at hW); go_simp; (try (with_reducible rfl)); done)); (try simp only [Act.put, List.setIfInBounds_toArray, List.set_cons_zero, List.set_cons_succ])))
                        refine LexL.done ?_
                        go_wp2_with fail
                        refine wp_region_lex (fun W => W.cell? ⟨w2.heap.size, m, none⟩ = some (.int .i64 dm)) [2] (by kernel_rfl) (by kernel_rfl) (H6.out.drew.right.right.right.right.bl.cell m (.int .i64 dm) (by rw [← HDM.out]; exact iv6_get _ hlt2)) ?_
                        repeat (first | (refine LexL.none (by rfl) ?_; (try simp only [Act.put, List.setIfInBounds_toArray, List.set_cons_zero, List.set_cons_succ])) | (refine LexL.still (v := ?_) (by rfl) ?_ ?_; rotate_left; (focus (intro W hW; (try dsimp only at hW); go_simp; (try (with_reducible rfl)); done)); (try simp only [Act.put, List.setIfInBounds_toArray, List.set_cons_zero, List.set_cons_succ])))
                        refine LexL.call (f := 42) (args := #[.pointer (some ⟨b, 0, none⟩), .int .i64 m]) (w1 := w6.drew) (by rfl) (by decide) (by go_simp) ?_
                        refine (job_sl b T' m _ H6.out.drew).mono ?_
                        rw [HJ'.out]
                        simp only [Job.val, jcells]
                        rintro e w7 ⟨rfl, hb7⟩
                        have h7 := H6.out.drew.below hb7
                        have HB7 := Lib.hid (h7.right.right.right.right.bl.cell m (.int .i64 dm) (by rw [← HDM.out]; exact iv6_get _ hlt2))
                        have H7 := Lib.hid h7; have Q7 := Lib.hid (Q6.out.drew.trans (Quiet.below hb7)); clear h7 hb7
                        refine ⟨_, rfl, HB7.out, ?_⟩
                        try simp only [Act.put, List.setIfInBounds_toArray, List.set_cons_zero, List.set_cons_succ]
                        repeat (first | (refine LexL.none (by rfl) ?_; (try simp only [Act.put, List.setIfInBounds_toArray, List.set_cons_zero, List.set_cons_succ])) | (refine LexL.still (v := ?_) (by rfl) ?_ ?_; rotate_left; (focus (intro W hW; (try dsimp only at hW); go_simp; (try (with_reducible rfl)); done)); (try simp only [Act.put, List.setIfInBounds_toArray, List.set_cons_zero, List.set_cons_succ])))
                        refine LexL.done ?_
                        go_wp2
                        go_roundw
                        case rel => exact ⟨m + 1, by omega, by go_num, H7.out, Q7.out⟩
                        case measure => simp [intOf]; omega
                    · have hs5 : (st == 3) = false := by simp; omega
                      have hs6 : (st == 4) = false := by simp; omega
                      clear hs4
                      go_wp2_with fail
                      refine wp_region_lex (fun W => (W.cell? ⟨wo.heap.size + 1, m * 4, none⟩ = some (.int .i64 st) ∧ W.cell? ⟨wo.heap.size + 1, m * 4 + 1, none⟩ = some (.int .i64 wk') ∧ W.cell? ⟨wo.heap.size + 1, m * 4 + 2, none⟩ = some (.int .i64 tr') ∧ W.cell? ⟨wo.heap.size + 1, m * 4 + 3, none⟩ = some (.int .i64 un))) [15] (by kernel_rfl) (by kernel_rfl) HB.out ?_
                      repeat (first | (refine LexL.none (by rfl) ?_; (try simp only [Act.put, List.setIfInBounds_toArray, List.set_cons_zero, List.set_cons_succ])) | (refine LexL.still (v := ?_) (by rfl) ?_ ?_; rotate_left; (focus (intro W hW; (try dsimp only at hW); go_simp; (try (with_reducible rfl)); done)); (try simp only [Act.put, List.setIfInBounds_toArray, List.set_cons_zero, List.set_cons_succ])))
                      refine LexL.done ?_
                      have H6 := Lib.hid HHi.out.drew; have Q6 := Lib.hid HQi.out.drew
                      go_wp2_with fail
                      refine wp_region_lex (fun W => W.cell? ⟨w2.heap.size, m, none⟩ = some (.int .i64 dm)) [2] (by kernel_rfl) (by kernel_rfl) (H6.out.drew.right.right.right.right.bl.cell m (.int .i64 dm) (by rw [← HDM.out]; exact iv6_get _ hlt2)) ?_
                      repeat (first | (refine LexL.none (by rfl) ?_; (try simp only [Act.put, List.setIfInBounds_toArray, List.set_cons_zero, List.set_cons_succ])) | (refine LexL.still (v := ?_) (by rfl) ?_ ?_; rotate_left; (focus (intro W hW; (try dsimp only at hW); go_simp; (try (with_reducible rfl)); done)); (try simp only [Act.put, List.setIfInBounds_toArray, List.set_cons_zero, List.set_cons_succ])))
                      refine LexL.call (f := 42) (args := #[.pointer (some ⟨b, 0, none⟩), .int .i64 m]) (w1 := wr.drew.drew) (by rfl) (by decide) (by go_simp) ?_
                      refine (job_sl b T' m _ H6.out.drew).mono ?_
                      rw [HJ'.out]
                      simp only [Job.val, jcells]
                      rintro e w7 ⟨rfl, hb7⟩
                      have h7 := H6.out.drew.below hb7
                      have HB7 := Lib.hid (h7.right.right.right.right.bl.cell m (.int .i64 dm) (by rw [← HDM.out]; exact iv6_get _ hlt2))
                      have H7 := Lib.hid h7; have Q7 := Lib.hid (Q6.out.drew.trans (Quiet.below hb7)); clear h7 hb7
                      refine ⟨_, rfl, HB7.out, ?_⟩
                      try simp only [Act.put, List.setIfInBounds_toArray, List.set_cons_zero, List.set_cons_succ]
                      repeat (first | (refine LexL.none (by rfl) ?_; (try simp only [Act.put, List.setIfInBounds_toArray, List.set_cons_zero, List.set_cons_succ])) | (refine LexL.still (v := ?_) (by rfl) ?_ ?_; rotate_left; (focus (intro W hW; (try dsimp only at hW); go_simp; (try (with_reducible rfl)); done)); (try simp only [Act.put, List.setIfInBounds_toArray, List.set_cons_zero, List.set_cons_succ])))
                      refine LexL.done ?_
                      go_wp2
                      go_roundw
                      case rel => exact ⟨m + 1, by omega, by go_num, H7.out, Q7.out⟩
                      case measure => simp [intOf]; omega
                  · obtain rfl : m = 6 := by omega
                    go_wp2_with fail
                    go_roundw
                    case rel => exact ⟨k + 1, T', done, by omega, by go_num, ((HHi.out.dropTwo').dropTwo').dropTwo', HQi.out, HI'.out, HD'.out⟩
                    case measure => simp [intOf]; omega
              · have hk3 : (kd == 4) = false := by simpa using hk2
                clear hk2 hc
                go_wp2_with fail
                go_loopw [10] (fun n wi => ∃ m : Nat, m ≤ 6 ∧ n = .int .i64 m ∧ Holds wi (tab b T' * (bl wd.heap.size 68 [.int .i64 xc, .int .i64 xj, .int .i64 xt] * (bl (wo.heap.size + 1) 64 (jrow T.jobs) * (bl wo.heap.size 42 [.int .i64 kd, .int .i64 nw, .int .i64 jb, .int .i64 tr, .int .i64 wk, .int .i64 tm] * (bl w2.heap.size 73 (iv6 done) * old w))))) ∧ Quiet w wi) (fun n _ => 6 - (intOf n).toNat)
                case atStart => exact ⟨0, by omega, rfl, H4.out, Q4.out⟩
                case round =>
                  obtain ⟨m, hm, rfl, hh, hq⟩ := hrel
                  have HHi := Lib.hid hh; have HQi := Lib.hid hq; clear hh hq
                  by_cases hlt2 : m < 6
                  · obtain ⟨⟨st, wk', tr', un⟩, hWJ⟩ : ∃ J, T.jobs m = J := ⟨_, rfl⟩
                    have hkp := HKEEP.out m
                    rw [hWJ] at hkp
                    obtain ⟨⟨st2, wk2, tr2, un2⟩, hJ'⟩ : ∃ J, T'.jobs m = J := ⟨_, rfl⟩
                    have hiff := HD'.out.iff m hlt2
                    rw [hJ'] at hkp hiff
                    dsimp only at hkp hiff
                    obtain ⟨dm, hdm⟩ : ∃ x, done m = x := ⟨_, rfl⟩
                    rw [hdm] at hiff
                    obtain ⟨bb, hb1, hb2⟩ : ∃ bb : Bool, (st2 == 3) = bb ∧ (dm == 1) = bb := ⟨_, rfl, by
                      rw [Bool.eq_iff_iff]; simp only [beq_iff_eq]; exact hiff.symm⟩
                    have HKP := Lib.hid hkp; have HDM := Lib.hid hdm
                    have HWJ := Lib.hid hWJ
                    have HJ' := Lib.hid ((job_in T' hlt2).trans hJ')
                    have HB := Lib.hid (jrowOf HHi.out.drew.right.right.bl hlt2 hWJ)
                    clear hWJ hJ' hkp hiff hdm
                    by_cases hs4 : st = 3 ∨ st = 4
                    · by_cases hs3 : st = 3
                      · have hs5 : (st == 3) = true := by simpa using hs3
                        have HS4 := Lib.hid hs4
                        clear hs3 hs4
                        go_wp2_with fail
                        refine wp_region_lex (fun W => (W.cell? ⟨wo.heap.size + 1, m * 4, none⟩ = some (.int .i64 st) ∧ W.cell? ⟨wo.heap.size + 1, m * 4 + 1, none⟩ = some (.int .i64 wk') ∧ W.cell? ⟨wo.heap.size + 1, m * 4 + 2, none⟩ = some (.int .i64 tr') ∧ W.cell? ⟨wo.heap.size + 1, m * 4 + 3, none⟩ = some (.int .i64 un))) [15] (by kernel_rfl) (by kernel_rfl) HB.out ?_
                        repeat (first | (refine LexL.none (by rfl) ?_; (try simp only [Act.put, List.setIfInBounds_toArray, List.set_cons_zero, List.set_cons_succ])) | (refine LexL.still (v := ?_) (by rfl) ?_ ?_; rotate_left; (focus (intro W hW; (try dsimp only at hW); go_simp; (try (with_reducible rfl)); done)); (try simp only [Act.put, List.setIfInBounds_toArray, List.set_cons_zero, List.set_cons_succ])))
                        refine LexL.call (f := 42) (args := #[.pointer (some ⟨b, 0, none⟩), .int .i64 m]) (w1 := wr.drew) (by rfl) (by decide) (by go_simp) ?_
                        refine (job_sl b T' m _ HHi.out.drew).mono ?_
                        rw [HJ'.out, HKP.out HS4.out]
                        simp only [Job.val, jcells]
                        rintro e w6 ⟨rfl, hb6⟩
                        have h6 := HHi.out.drew.below hb6
                        have HB6 := Lib.hid (jrowOf h6.right.right.bl hlt2 HWJ.out)
                        have H6 := Lib.hid h6; have Q6 := Lib.hid (HQi.out.drew.trans (Quiet.below hb6)); clear h6 hb6
                        refine ⟨_, rfl, HB6.out, ?_⟩
                        try simp only [Act.put, List.setIfInBounds_toArray, List.set_cons_zero, List.set_cons_succ]
                        repeat (first | (refine LexL.none (by rfl) ?_; (try simp only [Act.put, List.setIfInBounds_toArray, List.set_cons_zero, List.set_cons_succ])) | (refine LexL.still (v := ?_) (by rfl) ?_ ?_; rotate_left; (focus (intro W hW; (try dsimp only at hW); go_simp; (try (with_reducible rfl)); done)); (try simp only [Act.put, List.setIfInBounds_toArray, List.set_cons_zero, List.set_cons_succ])))
                        refine LexL.done ?_
                        go_wp2_with fail
                        refine wp_region_lex (fun W => W.cell? ⟨w2.heap.size, m, none⟩ = some (.int .i64 dm)) [2] (by kernel_rfl) (by kernel_rfl) (H6.out.drew.right.right.right.right.bl.cell m (.int .i64 dm) (by rw [← HDM.out]; exact iv6_get _ hlt2)) ?_
                        repeat (first | (refine LexL.none (by rfl) ?_; (try simp only [Act.put, List.setIfInBounds_toArray, List.set_cons_zero, List.set_cons_succ])) | (refine LexL.still (v := ?_) (by rfl) ?_ ?_; rotate_left; (focus (intro W hW; (try dsimp only at hW); go_simp; (try (with_reducible rfl)); done)); (try simp only [Act.put, List.setIfInBounds_toArray, List.set_cons_zero, List.set_cons_succ])))
                        refine LexL.call (f := 42) (args := #[.pointer (some ⟨b, 0, none⟩), .int .i64 m]) (w1 := w6.drew) (by rfl) (by decide) (by go_simp) ?_
                        refine (job_sl b T' m _ H6.out.drew).mono ?_
                        rw [HJ'.out]
                        simp only [Job.val, jcells]
                        rintro e w7 ⟨rfl, hb7⟩
                        have h7 := H6.out.drew.below hb7
                        have HB7 := Lib.hid (h7.right.right.right.right.bl.cell m (.int .i64 dm) (by rw [← HDM.out]; exact iv6_get _ hlt2))
                        have H7 := Lib.hid h7; have Q7 := Lib.hid (Q6.out.drew.trans (Quiet.below hb7)); clear h7 hb7
                        refine ⟨_, rfl, HB7.out, ?_⟩
                        try simp only [Act.put, List.setIfInBounds_toArray, List.set_cons_zero, List.set_cons_succ]
                        repeat (first | (refine LexL.none (by rfl) ?_; (try simp only [Act.put, List.setIfInBounds_toArray, List.set_cons_zero, List.set_cons_succ])) | (refine LexL.still (v := ?_) (by rfl) ?_ ?_; rotate_left; (focus (intro W hW; (try dsimp only at hW); go_simp; (try (with_reducible rfl)); done)); (try simp only [Act.put, List.setIfInBounds_toArray, List.set_cons_zero, List.set_cons_succ])))
                        refine LexL.done ?_
                        go_wp2
                        go_roundw
                        case rel => exact ⟨m + 1, by omega, by go_num, H7.out, Q7.out⟩
                        case measure => simp [intOf]; omega
                      · have hs5 : (st == 3) = false := by simpa using hs3
                        have hs6 : (st == 4) = true := by simp; omega
                        have HS4 := Lib.hid hs4
                        clear hs3 hs4
                        go_wp2_with fail
                        refine wp_region_lex (fun W => (W.cell? ⟨wo.heap.size + 1, m * 4, none⟩ = some (.int .i64 st) ∧ W.cell? ⟨wo.heap.size + 1, m * 4 + 1, none⟩ = some (.int .i64 wk') ∧ W.cell? ⟨wo.heap.size + 1, m * 4 + 2, none⟩ = some (.int .i64 tr') ∧ W.cell? ⟨wo.heap.size + 1, m * 4 + 3, none⟩ = some (.int .i64 un))) [15] (by kernel_rfl) (by kernel_rfl) HB.out ?_
                        repeat (first | (refine LexL.none (by rfl) ?_; (try simp only [Act.put, List.setIfInBounds_toArray, List.set_cons_zero, List.set_cons_succ])) | (refine LexL.still (v := ?_) (by rfl) ?_ ?_; rotate_left; (focus (intro W hW; (try dsimp only at hW); go_simp; (try (with_reducible rfl)); done)); (try simp only [Act.put, List.setIfInBounds_toArray, List.set_cons_zero, List.set_cons_succ])))
                        refine LexL.call (f := 42) (args := #[.pointer (some ⟨b, 0, none⟩), .int .i64 m]) (w1 := wr.drew) (by rfl) (by decide) (by go_simp) ?_
                        refine (job_sl b T' m _ HHi.out.drew).mono ?_
                        rw [HJ'.out, HKP.out HS4.out]
                        simp only [Job.val, jcells]
                        rintro e w6 ⟨rfl, hb6⟩
                        have h6 := HHi.out.drew.below hb6
                        have HB6 := Lib.hid (jrowOf h6.right.right.bl hlt2 HWJ.out)
                        have H6 := Lib.hid h6; have Q6 := Lib.hid (HQi.out.drew.trans (Quiet.below hb6)); clear h6 hb6
                        refine ⟨_, rfl, HB6.out, ?_⟩
                        try simp only [Act.put, List.setIfInBounds_toArray, List.set_cons_zero, List.set_cons_succ]
                        repeat (first | (refine LexL.none (by rfl) ?_; (try simp only [Act.put, List.setIfInBounds_toArray, List.set_cons_zero, List.set_cons_succ])) | (refine LexL.still (v := ?_) (by rfl) ?_ ?_; rotate_left; (focus (intro W hW; (try dsimp only at hW); go_simp; (try (with_reducible rfl)); done)); (try simp only [Act.put, List.setIfInBounds_toArray, List.set_cons_zero, List.set_cons_succ])))
                        refine LexL.done ?_
                        go_wp2_with fail
                        refine wp_region_lex (fun W => W.cell? ⟨w2.heap.size, m, none⟩ = some (.int .i64 dm)) [2] (by kernel_rfl) (by kernel_rfl) (H6.out.drew.right.right.right.right.bl.cell m (.int .i64 dm) (by rw [← HDM.out]; exact iv6_get _ hlt2)) ?_
                        repeat (first | (refine LexL.none (by rfl) ?_; (try simp only [Act.put, List.setIfInBounds_toArray, List.set_cons_zero, List.set_cons_succ])) | (refine LexL.still (v := ?_) (by rfl) ?_ ?_; rotate_left; (focus (intro W hW; (try dsimp only at hW); go_simp; (try (with_reducible rfl)); done)); (try simp only [Act.put, List.setIfInBounds_toArray, List.set_cons_zero, List.set_cons_succ])))
                        refine LexL.call (f := 42) (args := #[.pointer (some ⟨b, 0, none⟩), .int .i64 m]) (w1 := w6.drew) (by rfl) (by decide) (by go_simp) ?_
                        refine (job_sl b T' m _ H6.out.drew).mono ?_
                        rw [HJ'.out]
                        simp only [Job.val, jcells]
                        rintro e w7 ⟨rfl, hb7⟩
                        have h7 := H6.out.drew.below hb7
                        have HB7 := Lib.hid (h7.right.right.right.right.bl.cell m (.int .i64 dm) (by rw [← HDM.out]; exact iv6_get _ hlt2))
                        have H7 := Lib.hid h7; have Q7 := Lib.hid (Q6.out.drew.trans (Quiet.below hb7)); clear h7 hb7
                        refine ⟨_, rfl, HB7.out, ?_⟩
                        try simp only [Act.put, List.setIfInBounds_toArray, List.set_cons_zero, List.set_cons_succ]
                        repeat (first | (refine LexL.none (by rfl) ?_; (try simp only [Act.put, List.setIfInBounds_toArray, List.set_cons_zero, List.set_cons_succ])) | (refine LexL.still (v := ?_) (by rfl) ?_ ?_; rotate_left; (focus (intro W hW; (try dsimp only at hW); go_simp; (try (with_reducible rfl)); done)); (try simp only [Act.put, List.setIfInBounds_toArray, List.set_cons_zero, List.set_cons_succ])))
                        refine LexL.done ?_
                        go_wp2
                        go_roundw
                        case rel => exact ⟨m + 1, by omega, by go_num, H7.out, Q7.out⟩
                        case measure => simp [intOf]; omega
                    · have hs5 : (st == 3) = false := by simp; omega
                      have hs6 : (st == 4) = false := by simp; omega
                      clear hs4
                      go_wp2_with fail
                      refine wp_region_lex (fun W => (W.cell? ⟨wo.heap.size + 1, m * 4, none⟩ = some (.int .i64 st) ∧ W.cell? ⟨wo.heap.size + 1, m * 4 + 1, none⟩ = some (.int .i64 wk') ∧ W.cell? ⟨wo.heap.size + 1, m * 4 + 2, none⟩ = some (.int .i64 tr') ∧ W.cell? ⟨wo.heap.size + 1, m * 4 + 3, none⟩ = some (.int .i64 un))) [15] (by kernel_rfl) (by kernel_rfl) HB.out ?_
                      repeat (first | (refine LexL.none (by rfl) ?_; (try simp only [Act.put, List.setIfInBounds_toArray, List.set_cons_zero, List.set_cons_succ])) | (refine LexL.still (v := ?_) (by rfl) ?_ ?_; rotate_left; (focus (intro W hW; (try dsimp only at hW); go_simp; (try (with_reducible rfl)); done)); (try simp only [Act.put, List.setIfInBounds_toArray, List.set_cons_zero, List.set_cons_succ])))
                      refine LexL.done ?_
                      have H6 := Lib.hid HHi.out.drew; have Q6 := Lib.hid HQi.out.drew
                      go_wp2_with fail
                      refine wp_region_lex (fun W => W.cell? ⟨w2.heap.size, m, none⟩ = some (.int .i64 dm)) [2] (by kernel_rfl) (by kernel_rfl) (H6.out.drew.right.right.right.right.bl.cell m (.int .i64 dm) (by rw [← HDM.out]; exact iv6_get _ hlt2)) ?_
                      repeat (first | (refine LexL.none (by rfl) ?_; (try simp only [Act.put, List.setIfInBounds_toArray, List.set_cons_zero, List.set_cons_succ])) | (refine LexL.still (v := ?_) (by rfl) ?_ ?_; rotate_left; (focus (intro W hW; (try dsimp only at hW); go_simp; (try (with_reducible rfl)); done)); (try simp only [Act.put, List.setIfInBounds_toArray, List.set_cons_zero, List.set_cons_succ])))
                      refine LexL.call (f := 42) (args := #[.pointer (some ⟨b, 0, none⟩), .int .i64 m]) (w1 := wr.drew.drew) (by rfl) (by decide) (by go_simp) ?_
                      refine (job_sl b T' m _ H6.out.drew).mono ?_
                      rw [HJ'.out]
                      simp only [Job.val, jcells]
                      rintro e w7 ⟨rfl, hb7⟩
                      have h7 := H6.out.drew.below hb7
                      have HB7 := Lib.hid (h7.right.right.right.right.bl.cell m (.int .i64 dm) (by rw [← HDM.out]; exact iv6_get _ hlt2))
                      have H7 := Lib.hid h7; have Q7 := Lib.hid (Q6.out.drew.trans (Quiet.below hb7)); clear h7 hb7
                      refine ⟨_, rfl, HB7.out, ?_⟩
                      try simp only [Act.put, List.setIfInBounds_toArray, List.set_cons_zero, List.set_cons_succ]
                      repeat (first | (refine LexL.none (by rfl) ?_; (try simp only [Act.put, List.setIfInBounds_toArray, List.set_cons_zero, List.set_cons_succ])) | (refine LexL.still (v := ?_) (by rfl) ?_ ?_; rotate_left; (focus (intro W hW; (try dsimp only at hW); go_simp; (try (with_reducible rfl)); done)); (try simp only [Act.put, List.setIfInBounds_toArray, List.set_cons_zero, List.set_cons_succ])))
                      refine LexL.done ?_
                      go_wp2
                      go_roundw
                      case rel => exact ⟨m + 1, by omega, by go_num, H7.out, Q7.out⟩
                      case measure => simp [intOf]; omega
                  · obtain rfl : m = 6 := by omega
                    go_wp2_with fail
                    go_roundw
                    case rel => exact ⟨k + 1, T', done, by omega, by go_num, ((HHi.out.dropTwo').dropTwo').dropTwo', HQi.out, HI'.out, HD'.out⟩
                    case measure => simp [intOf]; omega
      · obtain rfl : k = L.length := by omega
        go_wp2
        go_ret
        exact ⟨rfl, HH.out.right.toBelow HQ.out⟩
end Go.Proofs.Ytfihmpkkpgmdhaa
