/-
  JobsTries, walked: no try is given twice.
-/
import Derived.Test.YtfihmpkkpgmdhaaJobsLaw
import Derived.Test.YtfihmpkkpgmdhaaView3
namespace Go.Proofs.Ytfihmpkkpgmdhaa
set_option linter.unusedSimpArgs false
set_option linter.unusedVariables false
open Go.RowKit
def iv6 (f : Nat → Int) : List Value := [.int .i64 (f 0), .int .i64 (f 1), .int .i64 (f 2), .int .i64 (f 3), .int .i64 (f 4), .int .i64 (f 5)]
theorem iv6_get (f : Nat → Int) {i : Nat} (hi : i < 6) : (iv6 f)[i]? = some (Value.int .i64 (f i)) := by
  match i, hi with
  | 0, _ | 1, _ | 2, _ | 3, _ | 4, _ | 5, _ => rfl
theorem iv6_set (f : Nat → Int) {i : Nat} (hi : i < 6) (x : Int) : (iv6 f).set i (Value.int .i64 x) = iv6 (upd f i x) := by
  match i, hi with
  | 0, _ | 1, _ | 2, _ | 3, _ | 4, _ | 5, _ => rfl
set_option maxRecDepth 100000 in
set_option maxHeartbeats 8000000 in
theorem jobsTries_any (v : Value) (L : List Ord) (w : World) (hv : (∀ r ∈ L, ∀ n ∈ r.ints, I64' n) ∧ RowAt w v L.length (ovs L)) :
    Calls Try.prog 11 #[v] w fun e w' => e = .returned (.bool true) ∧ Below w.heap.size w w' := by
  obtain ⟨a, cc, rfl, c1, c2⟩ := hv.2.shape
  have HV := Lib.hid hv.2; clear hv
  go_enter Try.func11, Try.ntmps11
  go_wp2_with fail
  refine (jobsBegun_any _).mono ?_
  rintro e w1 ⟨rfl, hb1⟩
  have H1 := Lib.hid ((Holds.old (w := w)).below hb1)
  have Q1 := Lib.hid (Quiet.below hb1); clear hb1
  by_cases hlen : 300 < L.length
  · go_wp2
    go_ret
    exact ⟨rfl, H1.out.toBelow' Q1.out⟩
  · go_wp2_with fail
    refine (new_sl _ H1.out).mono ?_
    rintro e w2 ⟨b, rfl, q2, h2⟩
    have hsz2 := (Q1.out.trans q2).size
    have H2 := Lib.hid (((h2.boxB (ty := 73) (cs := iv6 (fun _ => 0)) rfl).boxB (ty := 73) (cs := iv6 (fun _ => 0)) (g := w2.heap.size + 1) (by simp)).three.three)
    have Q2 := Lib.hid (((Q1.out.trans q2).alloc (.cells (iv6 (fun _ => 0)).toArray 73)).alloc (.cells (iv6 (fun _ => 0)).toArray 73)); clear h2 q2
    go_wp2_with fail
    go_loopw [6] (fun i wr => ∃ (k : Nat) (T : Tbl) (tries workers : Nat → Int), k ≤ L.length ∧ i = .int .i64 k ∧ Holds wr (tab b T * (bl w2.heap.size 73 (iv6 tries) * (bl (w2.heap.size + 1) 73 (iv6 workers) * old w))) ∧ Quiet w wr ∧ T.In ∧ Tries T tries workers) (fun i _ => L.length - (intOf i).toNat)
    case atStart => exact ⟨0, Tbl.zero, fun _ => 0, fun _ => 0, by omega, rfl, H2.out.two, Q2.out, Tbl.zero_in, Tries.zero⟩
    case round =>
      obtain ⟨k, T, tries, workers, hk, rfl, hh, hq, hin, htr⟩ := hrel
      have HH := Lib.hid hh; have HQ := Lib.hid hq; have HI := Lib.hid hin; have HT := Lib.hid htr; clear hh hq hin htr
      by_cases hlt : k < L.length
      · obtain ⟨o, ho⟩ : ∃ o, L[k]? = some o := ⟨_, List.getElem?_eq_getElem hlt⟩
        obtain ⟨g, off, c', e, _, _, hc0⟩ := HV.out.get (by omega)
        simp only [Value.slice.injEq] at e
        obtain ⟨rfl, _, rfl⟩ := e
        have glt0 := block_lt_of_cell (ovs_cell hc0 ho 0 _ (by omega) rfl)
        dsimp only at glt0
        have glt2 : g < w2.heap.size := by omega
        clear hc0 glt0
        have HO := Lib.hid ho; clear ho
        obtain ⟨a0, a1, a2, a3, a4, a5⟩ := ord_cells HV.out HO.out HH.out.right.right
        obtain ⟨kd, nw, jb, tr, wk, tm⟩ := o
        dsimp only at a0 a1 a2 a3 a4 a5
        obtain ⟨X, hX⟩ : ∃ X, T.did ⟨kd, nw, jb, tr, wk, tm⟩ = X := ⟨_, rfl⟩
        have hin' := did_in HI.out ⟨kd, nw, jb, tr, wk, tm⟩
        go_wp2_with fail
        refine (do_sl b T kd nw jb tr wk tm _ HH.out HI.out.ok).mono ?_
        by_cases hc : kd = 2 ∧ (T.did ⟨kd, nw, jb, tr, wk, tm⟩).2.code = 0
        · obtain ⟨i, hi, e1, e2, e3, e4, hT'⟩ := HT.out.take HI.out (o := ⟨kd, nw, jb, tr, wk, tm⟩) hc.1 hc.2
          have e0 := hc.2
          obtain ⟨hk2, _⟩ := hc
          rw [hX] at *
          obtain ⟨T', ⟨xc, xj, xt⟩⟩ := X
          dsimp only at e0 e1 e2 hT' hin' ⊢
          subst e0 e1 e2 hk2
          rintro e w3 ⟨rfl, q3, h3⟩
          have h4 := (h3.boxB (ty := 68) (cs := [.int .i64 0, .int .i64 i, .int .i64 (tries i + 1)]) rfl)
          have Q4 := Lib.hid ((HQ.out.trans q3).alloc (.cells ([.int .i64 0, .int .i64 i, .int .i64 (tries i + 1)] : List Value).toArray 68))
          obtain ⟨a0, a1, a2, a3, a4, a5⟩ := ord_cells HV.out HO.out h3.right.right
          have HB := Lib.hid (And.intro h4.drew.bl.cells (h4.drew.right.right.bl.cell i (.int .i64 (tries i)) (iv6_get _ hi)))
          have cA := h3.right.bl.cell i (.int .i64 (tries i)) (iv6_get _ hi)
          have cB := h3.right.right.bl.cell i (.int .i64 (workers i)) (iv6_get _ hi)
          have fA := h3.right.bl.frees
          have fB := h3.right.right.bl.frees
          have lA := h3.right.bl.lt
          have lB := h3.right.right.bl.lt
          have glt := block_lt_of_cell a4
          dsimp only at glt
          have H3 := Lib.hid h3; have Q3 := Lib.hid (HQ.out.trans q3)
          have H4 := Lib.hid h4; have HI' := Lib.hid hin'; have HT' := Lib.hid hT'; clear h4 h3 q3 hin' hT' hX
          have e5 : tries i ≤ 2 := by omega
          have hi' : (i : Int) < 6 := by omega
          have hb0 : decide ((i : Int) < 0) = false := by simp
          have hb1 : decide (6 ≤ (i : Int)) = false := by simp; omega
          have hw1 : IntKind.i64.wrap (tries i + 1) = tries i + 1 := by rw [IntKind.wrap_i64]; omega
          have hb2 : decide (3 < tries i + 1) = false := by simp; omega
          have hb3 : decide (2 < tries i) = false := by simp; omega
          go_wp2_with fail
          refine wp_region_lex (fun W => (∀ o, W.cell? ⟨w3.heap.size, o, none⟩ = [Value.int .i64 0, .int .i64 i, .int .i64 (tries i + 1)][o]?) ∧ W.cell? ⟨w2.heap.size, i, none⟩ = some (.int .i64 (tries i))) [] (by kernel_rfl) (by kernel_rfl) HB.out ?_
          repeat (first | (refine LexL.none (by rfl) ?_; (try simp only [Act.put, List.setIfInBounds_toArray, List.set_cons_zero, List.set_cons_succ])) | (refine LexL.still (v := ?_) (by rfl) ?_ ?_; rotate_left; (focus (intro W hW; (try dsimp only at hW); go_simp; (try (with_reducible rfl)); done)); (try simp only [Act.put, List.setIfInBounds_toArray, List.set_cons_zero, List.set_cons_succ])))
          refine LexL.done ?_
          go_wp2_with fail
          go_region
          have h6 : Holds (((w3.setCell ⟨w2.heap.size, i, none⟩ (.int .i64 (tries i + 1))).setCell ⟨w2.heap.size + 1, i, none⟩ (.int .i64 wk))) (tab b T' * (bl w2.heap.size 73 (iv6 (upd tries i (tries i + 1))) * (bl (w2.heap.size + 1) 73 (iv6 (upd workers i wk)) * old w))) := by
            have h7 := ((H3.out.two.setB i (.int .i64 (tries i + 1))).three.setB i (.int .i64 wk))
            rw [iv6_set _ hi, iv6_set _ hi] at h7
            exact h7.eq (by ac_rfl)
          have H6 := Lib.hid (((h6.alloc (.cells #[.int .i64 0, .int .i64 i, .int .i64 (tries i + 1)] 68)).drew).drew); clear h6
          have Q6 := Lib.hid (((((Q3.out.setCell ⟨w2.heap.size, i, none⟩ (.int .i64 (tries i + 1))).setCell ⟨w2.heap.size + 1, i, none⟩ (.int .i64 wk)).alloc (.cells #[.int .i64 0, .int .i64 i, .int .i64 (tries i + 1)] 68)).drew).drew)
          clear cA cB fA fB lA lB a0 a1 a2 a3 a4 a5
          go_wp2_with fail
          go_loopw [8, 9] (fun n _ wi => ∃ m : Nat, m ≤ 6 ∧ n = .int .i64 m ∧ Holds wi (tab b T' * (bl w2.heap.size 73 (iv6 (upd tries i (tries i + 1))) * (bl (w2.heap.size + 1) 73 (iv6 (upd workers i wk)) * old w))) ∧ Quiet w wi) (fun n _ _ => 6 - (intOf n).toNat)
          case atStart => exact ⟨0, by omega, rfl, H6.out, Q6.out⟩
          case round =>
            obtain ⟨m, hm, rfl, hh, hq⟩ := hrel
            have HHi := Lib.hid hh; have HQi := Lib.hid hq; clear hh hq
            by_cases hlt2 : m < 6
            · have hj : (T').job m = (T').jobs m := by
                unfold Tbl.job
                rw [if_pos (by omega)]; rfl
              obtain ⟨⟨st, wk', tr', un⟩, hJ⟩ : ∃ J, (T').jobs m = J := ⟨_, rfl⟩
              have ht1 := HT'.out.tr m hlt2
              have ht2 := HT'.out.wk m hlt2
              have ht3 := (HI'.out.held m)
              rw [hJ] at ht1 ht2 ht3 hj
              dsimp only at ht1 ht2 ht3
              obtain ⟨wkm, hwkm⟩ : ∃ x, (upd workers i wk) m = x := ⟨_, rfl⟩
              rw [hwkm] at ht2
              have HJ := Lib.hid hj; have HT1 := Lib.hid ht1; have HT2 := Lib.hid ht2; have HT3 := Lib.hid ht3; have HWK := Lib.hid hwkm
              clear hj ht1 ht2 ht3 hwkm hJ
              go_wp2_with fail
              refine (job_sl b T' m _ HHi.out).mono ?_
              rw [HJ.out]
              simp only [Job.val, jcells]
              rintro e w5 ⟨rfl, hb5⟩
              have h5 := ((HHi.out.below hb5).boxB (ty := 63) (cs := [.int .i64 st, .int .i64 wk', .int .i64 tr', .int .i64 un]) rfl)
              have Q5 := Lib.hid (HQi.out.trans (Quiet.below hb5))
              have HB := Lib.hid (And.intro h5.drew.bl.cells (And.intro (h5.drew.right.right.bl.cell m (.int .i64 tr') (by rw [HT1.out]; exact iv6_get _ hlt2)) (h5.drew.right.right.right.bl.cell m (.int .i64 wkm) (by rw [← HWK.out]; exact iv6_get _ hlt2))))
              have H5 := Lib.hid h5; clear h5 hb5
              by_cases hs : st = 2
              · have hs1 : (st == 2) = true := by simpa using hs
                have e1 : (wk' != wkm) = false := by simpa using HT2.out hs
                have e2 := (HT3.out hs).2
                clear hs
                have e3 : decide (un ≤ (T').now) = false := by simp; omega
                go_wp2_with fail
                refine wp_region_lex (fun W => (∀ o, W.cell? ⟨w5.heap.size, o, none⟩ = [Value.int .i64 st, .int .i64 wk', .int .i64 tr', .int .i64 un][o]?) ∧ W.cell? ⟨w2.heap.size, m, none⟩ = some (.int .i64 tr') ∧ W.cell? ⟨w2.heap.size + 1, m, none⟩ = some (.int .i64 wkm)) [21] (by kernel_rfl) (by kernel_rfl) HB.out ?_
                repeat (first | (refine LexL.none (by rfl) ?_; (try simp only [Act.put, List.setIfInBounds_toArray, List.set_cons_zero, List.set_cons_succ])) | (refine LexL.still (v := ?_) (by rfl) ?_ ?_; rotate_left; (focus (intro W hW; (try dsimp only at hW); go_simp; (try (with_reducible rfl)); done)); (try simp only [Act.put, List.setIfInBounds_toArray, List.set_cons_zero, List.set_cons_succ])))
                refine LexL.call (f := 43) (args := #[.pointer (some ⟨b, 0, none⟩)]) (w1 := (w5.alloc (.cells #[.int .i64 st, .int .i64 wk', .int .i64 tr', .int .i64 un] 63)).drew) (by rfl) (by decide) (by go_simp) ?_
                refine (now_sl b T' _ H5.out.drew.right).mono ?_
                rintro e w6 ⟨rfl, rfl⟩
                refine ⟨_, rfl, HB.out, ?_⟩
                try simp only [Act.put, List.setIfInBounds_toArray, List.set_cons_zero, List.set_cons_succ]
                repeat (first | (refine LexL.none (by rfl) ?_; (try simp only [Act.put, List.setIfInBounds_toArray, List.set_cons_zero, List.set_cons_succ])) | (refine LexL.still (v := ?_) (by rfl) ?_ ?_; rotate_left; (focus (intro W hW; (try dsimp only at hW); go_simp; (try (with_reducible rfl)); done)); (try simp only [Act.put, List.setIfInBounds_toArray, List.set_cons_zero, List.set_cons_succ])))
                refine LexL.done ?_
                go_wp2
                go_roundw
                case rel => exact ⟨m + 1, by omega, by go_num, H5.out.drew.right, (Q5.out.alloc _).drew⟩
                case measure => simp [intOf]; omega
              · have hs1 : (st == 2) = false := by simpa using hs
                clear hs
                go_wp2_with fail
                refine wp_region_lex (fun W => (∀ o, W.cell? ⟨w5.heap.size, o, none⟩ = [Value.int .i64 st, .int .i64 wk', .int .i64 tr', .int .i64 un][o]?) ∧ W.cell? ⟨w2.heap.size, m, none⟩ = some (.int .i64 tr') ∧ W.cell? ⟨w2.heap.size + 1, m, none⟩ = some (.int .i64 wkm)) [21] (by kernel_rfl) (by kernel_rfl) HB.out ?_
                repeat (first | (refine LexL.none (by rfl) ?_; (try simp only [Act.put, List.setIfInBounds_toArray, List.set_cons_zero, List.set_cons_succ])) | (refine LexL.still (v := ?_) (by rfl) ?_ ?_; rotate_left; (focus (intro W hW; (try dsimp only at hW); go_simp; (try (with_reducible rfl)); done)); (try simp only [Act.put, List.setIfInBounds_toArray, List.set_cons_zero, List.set_cons_succ])))
                refine LexL.done ?_
                go_wp2
                go_roundw
                case rel => exact ⟨m + 1, by omega, by go_num, H5.out.drew.right, (Q5.out.alloc _).drew⟩
                case measure => simp [intOf]; omega
            · obtain rfl : m = 6 := by omega
              go_wp2_with fail
              go_roundw
              case rel => exact ⟨k + 1, T', (upd tries i (tries i + 1)), (upd workers i wk), by omega, by go_num, HHi.out, HQi.out, HI'.out, HT'.out⟩
              case measure => simp [intOf]; omega
        · have hX2 := hX
          have hT' := HT.out.other HI.out (o := ⟨kd, nw, jb, tr, wk, tm⟩) hc
          rw [hX] at *
          obtain ⟨T', ⟨xc, xj, xt⟩⟩ := X
          dsimp only at hc hin' hT' ⊢
          rintro e w3 ⟨rfl, q3, h3⟩
          have h4 := (h3.boxB (ty := 68) (cs := [.int .i64 xc, .int .i64 xj, .int .i64 xt]) rfl)
          have Q4 := Lib.hid ((HQ.out.trans q3).alloc (.cells ([.int .i64 xc, .int .i64 xj, .int .i64 xt] : List Value).toArray 68))
          obtain ⟨a0, a1, a2, a3, a4, a5⟩ := ord_cells HV.out HO.out h3.right.right
          have glt := block_lt_of_cell a4
          dsimp only at glt
          have H4 := Lib.hid h4; have HI' := Lib.hid hin'; have HT' := Lib.hid hT'; clear h4 h3 q3 hin' hT' hX hX2
          by_cases hk2 : kd = 2
          · have hc0 : (xc == 0) = false := by simp; intro e; exact hc ⟨hk2, e⟩
            subst hk2
            clear hc
            go_wp2_with fail
            go_loopw [8, 9] (fun n _ wi => ∃ m : Nat, m ≤ 6 ∧ n = .int .i64 m ∧ Holds wi (tab b T' * (bl w2.heap.size 73 (iv6 tries) * (bl (w2.heap.size + 1) 73 (iv6 workers) * old w))) ∧ Quiet w wi) (fun n _ _ => 6 - (intOf n).toNat)
            case atStart => exact ⟨0, by omega, rfl, H4.out.right, Q4.out⟩
            case round =>
              obtain ⟨m, hm, rfl, hh, hq⟩ := hrel
              have HHi := Lib.hid hh; have HQi := Lib.hid hq; clear hh hq
              by_cases hlt2 : m < 6
              · have hj : (T').job m = (T').jobs m := by
                  unfold Tbl.job
                  rw [if_pos (by omega)]; rfl
                obtain ⟨⟨st, wk', tr', un⟩, hJ⟩ : ∃ J, (T').jobs m = J := ⟨_, rfl⟩
                have ht1 := HT'.out.tr m hlt2
                have ht2 := HT'.out.wk m hlt2
                have ht3 := (HI'.out.held m)
                rw [hJ] at ht1 ht2 ht3 hj
                dsimp only at ht1 ht2 ht3
                obtain ⟨wkm, hwkm⟩ : ∃ x, workers m = x := ⟨_, rfl⟩
                rw [hwkm] at ht2
                have HJ := Lib.hid hj; have HT1 := Lib.hid ht1; have HT2 := Lib.hid ht2; have HT3 := Lib.hid ht3; have HWK := Lib.hid hwkm
                clear hj ht1 ht2 ht3 hwkm hJ
                go_wp2_with fail
                refine (job_sl b T' m _ HHi.out).mono ?_
                rw [HJ.out]
                simp only [Job.val, jcells]
                rintro e w5 ⟨rfl, hb5⟩
                have h5 := ((HHi.out.below hb5).boxB (ty := 63) (cs := [.int .i64 st, .int .i64 wk', .int .i64 tr', .int .i64 un]) rfl)
                have Q5 := Lib.hid (HQi.out.trans (Quiet.below hb5))
                have HB := Lib.hid (And.intro h5.drew.bl.cells (And.intro (h5.drew.right.right.bl.cell m (.int .i64 tr') (by rw [HT1.out]; exact iv6_get _ hlt2)) (h5.drew.right.right.right.bl.cell m (.int .i64 wkm) (by rw [← HWK.out]; exact iv6_get _ hlt2))))
                have H5 := Lib.hid h5; clear h5 hb5
                by_cases hs : st = 2
                · have hs1 : (st == 2) = true := by simpa using hs
                  have e1 : (wk' != wkm) = false := by simpa using HT2.out hs
                  have e2 := (HT3.out hs).2
                  clear hs
                  have e3 : decide (un ≤ (T').now) = false := by simp; omega
                  go_wp2_with fail
                  refine wp_region_lex (fun W => (∀ o, W.cell? ⟨w5.heap.size, o, none⟩ = [Value.int .i64 st, .int .i64 wk', .int .i64 tr', .int .i64 un][o]?) ∧ W.cell? ⟨w2.heap.size, m, none⟩ = some (.int .i64 tr') ∧ W.cell? ⟨w2.heap.size + 1, m, none⟩ = some (.int .i64 wkm)) [21] (by kernel_rfl) (by kernel_rfl) HB.out ?_
                  repeat (first | (refine LexL.none (by rfl) ?_; (try simp only [Act.put, List.setIfInBounds_toArray, List.set_cons_zero, List.set_cons_succ])) | (refine LexL.still (v := ?_) (by rfl) ?_ ?_; rotate_left; (focus (intro W hW; (try dsimp only at hW); go_simp; (try (with_reducible rfl)); done)); (try simp only [Act.put, List.setIfInBounds_toArray, List.set_cons_zero, List.set_cons_succ])))
                  refine LexL.call (f := 43) (args := #[.pointer (some ⟨b, 0, none⟩)]) (w1 := (w5.alloc (.cells #[.int .i64 st, .int .i64 wk', .int .i64 tr', .int .i64 un] 63)).drew) (by rfl) (by decide) (by go_simp) ?_
                  refine (now_sl b T' _ H5.out.drew.right).mono ?_
                  rintro e w6 ⟨rfl, rfl⟩
                  refine ⟨_, rfl, HB.out, ?_⟩
                  try simp only [Act.put, List.setIfInBounds_toArray, List.set_cons_zero, List.set_cons_succ]
                  repeat (first | (refine LexL.none (by rfl) ?_; (try simp only [Act.put, List.setIfInBounds_toArray, List.set_cons_zero, List.set_cons_succ])) | (refine LexL.still (v := ?_) (by rfl) ?_ ?_; rotate_left; (focus (intro W hW; (try dsimp only at hW); go_simp; (try (with_reducible rfl)); done)); (try simp only [Act.put, List.setIfInBounds_toArray, List.set_cons_zero, List.set_cons_succ])))
                  refine LexL.done ?_
                  go_wp2
                  go_roundw
                  case rel => exact ⟨m + 1, by omega, by go_num, H5.out.drew.right, (Q5.out.alloc _).drew⟩
                  case measure => simp [intOf]; omega
                · have hs1 : (st == 2) = false := by simpa using hs
                  clear hs
                  go_wp2_with fail
                  refine wp_region_lex (fun W => (∀ o, W.cell? ⟨w5.heap.size, o, none⟩ = [Value.int .i64 st, .int .i64 wk', .int .i64 tr', .int .i64 un][o]?) ∧ W.cell? ⟨w2.heap.size, m, none⟩ = some (.int .i64 tr') ∧ W.cell? ⟨w2.heap.size + 1, m, none⟩ = some (.int .i64 wkm)) [21] (by kernel_rfl) (by kernel_rfl) HB.out ?_
                  repeat (first | (refine LexL.none (by rfl) ?_; (try simp only [Act.put, List.setIfInBounds_toArray, List.set_cons_zero, List.set_cons_succ])) | (refine LexL.still (v := ?_) (by rfl) ?_ ?_; rotate_left; (focus (intro W hW; (try dsimp only at hW); go_simp; (try (with_reducible rfl)); done)); (try simp only [Act.put, List.setIfInBounds_toArray, List.set_cons_zero, List.set_cons_succ])))
                  refine LexL.done ?_
                  go_wp2
                  go_roundw
                  case rel => exact ⟨m + 1, by omega, by go_num, H5.out.drew.right, (Q5.out.alloc _).drew⟩
                  case measure => simp [intOf]; omega
              · obtain rfl : m = 6 := by omega
                go_wp2_with fail
                go_roundw
                case rel => exact ⟨k + 1, T', tries, workers, by omega, by go_num, HHi.out, HQi.out, HI'.out, HT'.out⟩
                case measure => simp [intOf]; omega
          · have hk3 : (kd == 2) = false := by simpa using hk2
            clear hk2 hc
            go_wp2_with fail
            go_loopw [8, 9] (fun n _ wi => ∃ m : Nat, m ≤ 6 ∧ n = .int .i64 m ∧ Holds wi (tab b T' * (bl w2.heap.size 73 (iv6 tries) * (bl (w2.heap.size + 1) 73 (iv6 workers) * old w))) ∧ Quiet w wi) (fun n _ _ => 6 - (intOf n).toNat)
            case atStart => exact ⟨0, by omega, rfl, H4.out.right, Q4.out⟩
            case round =>
              obtain ⟨m, hm, rfl, hh, hq⟩ := hrel
              have HHi := Lib.hid hh; have HQi := Lib.hid hq; clear hh hq
              by_cases hlt2 : m < 6
              · have hj : (T').job m = (T').jobs m := by
                  unfold Tbl.job
                  rw [if_pos (by omega)]; rfl
                obtain ⟨⟨st, wk', tr', un⟩, hJ⟩ : ∃ J, (T').jobs m = J := ⟨_, rfl⟩
                have ht1 := HT'.out.tr m hlt2
                have ht2 := HT'.out.wk m hlt2
                have ht3 := (HI'.out.held m)
                rw [hJ] at ht1 ht2 ht3 hj
                dsimp only at ht1 ht2 ht3
                obtain ⟨wkm, hwkm⟩ : ∃ x, workers m = x := ⟨_, rfl⟩
                rw [hwkm] at ht2
                have HJ := Lib.hid hj; have HT1 := Lib.hid ht1; have HT2 := Lib.hid ht2; have HT3 := Lib.hid ht3; have HWK := Lib.hid hwkm
                clear hj ht1 ht2 ht3 hwkm hJ
                go_wp2_with fail
                refine (job_sl b T' m _ HHi.out).mono ?_
                rw [HJ.out]
                simp only [Job.val, jcells]
                rintro e w5 ⟨rfl, hb5⟩
                have h5 := ((HHi.out.below hb5).boxB (ty := 63) (cs := [.int .i64 st, .int .i64 wk', .int .i64 tr', .int .i64 un]) rfl)
                have Q5 := Lib.hid (HQi.out.trans (Quiet.below hb5))
                have HB := Lib.hid (And.intro h5.drew.bl.cells (And.intro (h5.drew.right.right.bl.cell m (.int .i64 tr') (by rw [HT1.out]; exact iv6_get _ hlt2)) (h5.drew.right.right.right.bl.cell m (.int .i64 wkm) (by rw [← HWK.out]; exact iv6_get _ hlt2))))
                have H5 := Lib.hid h5; clear h5 hb5
                by_cases hs : st = 2
                · have hs1 : (st == 2) = true := by simpa using hs
                  have e1 : (wk' != wkm) = false := by simpa using HT2.out hs
                  have e2 := (HT3.out hs).2
                  clear hs
                  have e3 : decide (un ≤ (T').now) = false := by simp; omega
                  go_wp2_with fail
                  refine wp_region_lex (fun W => (∀ o, W.cell? ⟨w5.heap.size, o, none⟩ = [Value.int .i64 st, .int .i64 wk', .int .i64 tr', .int .i64 un][o]?) ∧ W.cell? ⟨w2.heap.size, m, none⟩ = some (.int .i64 tr') ∧ W.cell? ⟨w2.heap.size + 1, m, none⟩ = some (.int .i64 wkm)) [21] (by kernel_rfl) (by kernel_rfl) HB.out ?_
                  repeat (first | (refine LexL.none (by rfl) ?_; (try simp only [Act.put, List.setIfInBounds_toArray, List.set_cons_zero, List.set_cons_succ])) | (refine LexL.still (v := ?_) (by rfl) ?_ ?_; rotate_left; (focus (intro W hW; (try dsimp only at hW); go_simp; (try (with_reducible rfl)); done)); (try simp only [Act.put, List.setIfInBounds_toArray, List.set_cons_zero, List.set_cons_succ])))
                  refine LexL.call (f := 43) (args := #[.pointer (some ⟨b, 0, none⟩)]) (w1 := (w5.alloc (.cells #[.int .i64 st, .int .i64 wk', .int .i64 tr', .int .i64 un] 63)).drew) (by rfl) (by decide) (by go_simp) ?_
                  refine (now_sl b T' _ H5.out.drew.right).mono ?_
                  rintro e w6 ⟨rfl, rfl⟩
                  refine ⟨_, rfl, HB.out, ?_⟩
                  try simp only [Act.put, List.setIfInBounds_toArray, List.set_cons_zero, List.set_cons_succ]
                  repeat (first | (refine LexL.none (by rfl) ?_; (try simp only [Act.put, List.setIfInBounds_toArray, List.set_cons_zero, List.set_cons_succ])) | (refine LexL.still (v := ?_) (by rfl) ?_ ?_; rotate_left; (focus (intro W hW; (try dsimp only at hW); go_simp; (try (with_reducible rfl)); done)); (try simp only [Act.put, List.setIfInBounds_toArray, List.set_cons_zero, List.set_cons_succ])))
                  refine LexL.done ?_
                  go_wp2
                  go_roundw
                  case rel => exact ⟨m + 1, by omega, by go_num, H5.out.drew.right, (Q5.out.alloc _).drew⟩
                  case measure => simp [intOf]; omega
                · have hs1 : (st == 2) = false := by simpa using hs
                  clear hs
                  go_wp2_with fail
                  refine wp_region_lex (fun W => (∀ o, W.cell? ⟨w5.heap.size, o, none⟩ = [Value.int .i64 st, .int .i64 wk', .int .i64 tr', .int .i64 un][o]?) ∧ W.cell? ⟨w2.heap.size, m, none⟩ = some (.int .i64 tr') ∧ W.cell? ⟨w2.heap.size + 1, m, none⟩ = some (.int .i64 wkm)) [21] (by kernel_rfl) (by kernel_rfl) HB.out ?_
                  repeat (first | (refine LexL.none (by rfl) ?_; (try simp only [Act.put, List.setIfInBounds_toArray, List.set_cons_zero, List.set_cons_succ])) | (refine LexL.still (v := ?_) (by rfl) ?_ ?_; rotate_left; (focus (intro W hW; (try dsimp only at hW); go_simp; (try (with_reducible rfl)); done)); (try simp only [Act.put, List.setIfInBounds_toArray, List.set_cons_zero, List.set_cons_succ])))
                  refine LexL.done ?_
                  go_wp2
                  go_roundw
                  case rel => exact ⟨m + 1, by omega, by go_num, H5.out.drew.right, (Q5.out.alloc _).drew⟩
                  case measure => simp [intOf]; omega
              · obtain rfl : m = 6 := by omega
                go_wp2_with fail
                go_roundw
                case rel => exact ⟨k + 1, T', tries, workers, by omega, by go_num, HHi.out, HQi.out, HI'.out, HT'.out⟩
                case measure => simp [intOf]; omega
      · obtain rfl : k = L.length := by omega
        go_wp2
        go_ret
        exact ⟨rfl, HH.out.right.right.right.toBelow' HQ.out⟩
end Go.Proofs.Ytfihmpkkpgmdhaa
