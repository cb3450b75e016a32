/-
  JobsDoes, walked: every Check, Do, Job, Now and Own is as the document says.
-/
import Derived.Test.YtfihmpkkpgmdhaaSame2
import Derived.Test.YtfihmpkkpgmdhaaView3
namespace Go.Proofs.Ytfihmpkkpgmdhaa
set_option linter.unusedSimpArgs false
set_option linter.unusedVariables false
open Go.RowKit
set_option maxRecDepth 100000 in
set_option maxHeartbeats 8000000 in
theorem jobsDoes_any (v1 : Value) (n0 : Int) (L : List Ord) (w : World) (hv1 : (∀ r ∈ L, ∀ n ∈ r.ints, I64' n) ∧ RowAt w v1 L.length (ovs L)) (hn0 : I64' n0) :
    Calls Try.prog 10 #[v1, .int .i64 n0] w fun e w' => e = .returned (.bool true) ∧ Below w.heap.size w w' := by
  obtain ⟨ad1, cc1, rfl, c1, d1⟩ := hv1.2.shape
  have HV1 := Lib.hid hv1.2; clear hv1 hn0
  go_enter Try.func10, Try.ntmps10
  go_wp2_with fail
  refine (jobsBegun_any _).mono ?_
  rintro e w1 ⟨rfl, hb1⟩
  have H1 := Lib.hid ((Holds.old (w := w)).below hb1)
  have Q1 := Lib.hid (Quiet.below hb1); clear hb1
  by_cases hl1 : 300 < L.length
  · go_wp2
    go_ret
    exact ⟨rfl, H1.out.toBelow' Q1.out⟩
  go_wp2_with fail
  refine (new_sl _ H1.out).mono ?_
  rintro e w2 ⟨b, rfl, q2, h2⟩
  obtain ⟨g, hg⟩ : ∃ g, w2.heap.size = g := ⟨_, rfl⟩
  have h3 := (h2.boxB (ty := 66) (cs := tcells Tbl.zero) hg).two
  have q3 := (Q1.out.trans q2).alloc (.cells (tcells Tbl.zero).toArray 66)
  have H3 := Lib.hid (show Holds (w2.alloc (.cells (tcells Tbl.zero).toArray 66)) (tab b Tbl.zero * (tb g 66 Tbl.zero * old w)) from h3)
  have Q3 := Lib.hid q3; clear h2 q2 h3 q3
  go_wp2_with fail
  clear hg
  go_loopw [5, 7] (fun t i wr => ∃ (k : Nat) (T : Tbl) (b : Nat), t = .pointer (some ⟨b, 0, none⟩) ∧ k ≤ L.length ∧ i = .int .i64 k ∧ Holds wr (tab b T * (tb g 66 T * old w)) ∧ Quiet w wr ∧ T.In) (fun _ i _ => L.length - (intOf i).toNat)
  case atStart => exact ⟨0, Tbl.zero, b, rfl, by omega, rfl, H3.out, Q3.out, Tbl.zero_in⟩
  case round =>
    obtain ⟨k, T, b, rfl, hk, rfl, hh, hq, hin⟩ := hrel
    obtain ⟨wo, rfl⟩ : ∃ wo : World, wo = wr := ⟨_, rfl⟩
    have HH := Lib.hid hh; have HQ := Lib.hid hq; have HI := Lib.hid hin; clear hh hq hin
    by_cases hlt : k < L.length
    · obtain ⟨o, ho⟩ : ∃ o, L[k]? = some o := ⟨_, List.getElem?_eq_getElem hlt⟩
      obtain ⟨ga, off, c', e, _, _, hc0⟩ := HV1.out.get (by omega)
      simp only [Value.slice.injEq] at e
      obtain ⟨rfl, _, rfl⟩ := e
      have HO := Lib.hid ho
      have cells : ∀ (W : World) (A : HP), Holds W (A * old w) → _ := fun W A h => ord_cells HV1.out HO.out h
      obtain ⟨kd, nw, jb, tr, wk, tm⟩ := o
      dsimp only at cells
      have HC := Lib.hid cells
      clear ho hc0 cells
      by_cases hki : (k : Int) = n0
      · have hkb : ((k : Int) == n0) = true := by simpa using hki
        clear hki
        go_wp2_with fail
        refine (own_sl b T _ HH.out).mono ?_
        rintro e w3 ⟨u, rfl, q3, h3⟩
        have H3 := Lib.hid (show Holds w3 (tab u T * (tab b T * (tb g 66 T * old w))) from h3); have Q3 := Lib.hid (HQ.out.trans q3); clear h3 q3
        obtain ⟨a0, a1, a2, a3, a4, a5⟩ := HC.out _ _ (H3.out.eq (by ac_rfl : _ = tab u T * (tab b T * tb g 66 T) * old w))
        go_wp2_with fail
        refine (do_sl b T kd nw jb tr wk tm _ H3.out.two HI.out.ok).mono ?_
        rintro e w4 ⟨rfl, q4, h4⟩
        have H4 := Lib.hid (h4.right)
        have Q4 := Lib.hid (Q3.out.trans q4)
        clear h4 q4 a0 a1 a2 a3 a4 a5
        have HZ := Lib.hid (show Holds w4 (tab u T * (tb g 66 T * old w)) from H4.out)
        have QZ := Lib.hid Q4.out
        go_wp2_with fail
        refine wp_region_lex (fun W => W.cell? ⟨ga, off + k * 6, none⟩ = some (.int .i64 kd) ∧ W.cell? ⟨ga, off + k * 6 + 1, none⟩ = some (.int .i64 nw) ∧ W.cell? ⟨ga, off + k * 6 + 2, none⟩ = some (.int .i64 jb) ∧ W.cell? ⟨ga, off + k * 6 + 3, none⟩ = some (.int .i64 tr) ∧ W.cell? ⟨ga, off + k * 6 + 4, none⟩ = some (.int .i64 wk) ∧ W.cell? ⟨ga, off + k * 6 + 5, none⟩ = some (.int .i64 tm)) [4, 9, 11, 17, 23, 26, 29] (by kernel_rfl) (by kernel_rfl) (HC.out _ _ (HZ.out.drew.eq (by ac_rfl : _ = tab u T * tb g 66 T * old w))) ?_
        repeat (first | (refine LexL.none (by rfl) ?_; (try simp only [Act.put, List.setIfInBounds_toArray, List.set_cons_zero, List.set_cons_succ])) | (refine LexL.still (v := ?_) (by rfl) ?_ ?_; rotate_left; (focus (intro W hW; (try dsimp only at hW); go_simp; (try (with_reducible rfl)); done)); (try simp only [Act.put, List.setIfInBounds_toArray, List.set_cons_zero, List.set_cons_succ])))
        refine LexL.call (f := 38) (args := #[.agg #[.int .i64 kd, .int .i64 nw, .int .i64 jb, .int .i64 tr, .int .i64 wk, .int .i64 tm]]) (w1 := w4.drew) (by rfl) (by decide) (by go_simp) ?_
        obtain ⟨C, hC⟩ : ∃ C, chk ⟨kd, nw, jb, tr, wk, tm⟩ = C := ⟨_, rfl⟩
        have HCC := Lib.hid hC; clear hC
        refine (check_any kd nw jb tr wk tm _).mono ?_
        rw [HCC.out]
        rintro e w5 ⟨rfl, hb5⟩
        have H5 := Lib.hid (HZ.out.drew.below hb5); have Q5 := Lib.hid (QZ.out.drew.trans (Quiet.below hb5)); clear hb5
        refine ⟨_, rfl, HC.out _ _ (H5.out.eq (by ac_rfl : _ = tab u T * tb g 66 T * old w)), ?_⟩
        try simp only [Act.put, List.setIfInBounds_toArray, List.set_cons_zero, List.set_cons_succ]
        repeat (first | (refine LexL.none (by rfl) ?_; (try simp only [Act.put, List.setIfInBounds_toArray, List.set_cons_zero, List.set_cons_succ])) | (refine LexL.still (v := ?_) (by rfl) ?_ ?_; rotate_left; (focus (intro W hW; (try dsimp only at hW); go_simp; (try (with_reducible rfl)); done)); (try simp only [Act.put, List.setIfInBounds_toArray, List.set_cons_zero, List.set_cons_succ])))
        refine LexL.call (f := 39) (args := #[.agg #[.int .i64 kd, .int .i64 nw, .int .i64 jb, .int .i64 tr, .int .i64 wk, .int .i64 tm]]) (w1 := w5) (by rfl) (by decide) (by go_simp) ?_
        refine (ofault_any kd nw jb tr wk tm _).mono ?_
        rw [HCC.out]
        rintro e w6 ⟨rfl, hb6⟩
        have H6 := Lib.hid (H5.out.below hb6); have Q6 := Lib.hid (Q5.out.trans (Quiet.below hb6)); clear hb6
        refine ⟨_, rfl, HC.out _ _ (H6.out.eq (by ac_rfl : _ = tab u T * tb g 66 T * old w)), ?_⟩
        try simp only [Act.put, List.setIfInBounds_toArray, List.set_cons_zero, List.set_cons_succ]
        repeat (first | (refine LexL.none (by rfl) ?_; (try simp only [Act.put, List.setIfInBounds_toArray, List.set_cons_zero, List.set_cons_succ])) | (refine LexL.still (v := ?_) (by rfl) ?_ ?_; rotate_left; (focus (intro W hW; (try dsimp only at hW); go_simp; (try (with_reducible rfl)); done)); (try simp only [Act.put, List.setIfInBounds_toArray, List.set_cons_zero, List.set_cons_succ])))
        refine LexL.call (f := 37) (args := #[.pointer (some ⟨u, 0, none⟩), .agg #[.int .i64 kd, .int .i64 nw, .int .i64 jb, .int .i64 tr, .int .i64 wk, .int .i64 tm]]) (w1 := w6) (by rfl) (by decide) (by go_simp) ?_
        refine (do_sl u T kd nw jb tr wk tm _ H6.out HI.out.ok).mono ?_
        have hin := did_in HI.out ⟨kd, nw, jb, tr, wk, tm⟩
        obtain ⟨X, hX⟩ : ∃ X, T.did ⟨kd, nw, jb, tr, wk, tm⟩ = X := ⟨_, rfl⟩
        rw [hX] at hin ⊢
        obtain ⟨T', ⟨x1, y1, z1⟩⟩ := X
        have HX := Lib.hid hX
        have HI' := Lib.hid hin
        clear hX hin
        rintro e w7 ⟨rfl, q7, h7⟩
        have H7 := Lib.hid h7; have Q7 := Lib.hid (Q6.out.trans q7); clear h7 q7
        refine ⟨_, rfl, HC.out _ _ (H7.out.eq (by ac_rfl : _ = tab u T' * tb g 66 T * old w)), ?_⟩
        try simp only [Act.put, List.setIfInBounds_toArray, List.set_cons_zero, List.set_cons_succ]
        repeat (first | (refine LexL.none (by rfl) ?_; (try simp only [Act.put, List.setIfInBounds_toArray, List.set_cons_zero, List.set_cons_succ])) | (refine LexL.still (v := ?_) (by rfl) ?_ ?_; rotate_left; (focus (intro W hW; (try dsimp only at hW); go_simp; (try (with_reducible rfl)); done)); (try simp only [Act.put, List.setIfInBounds_toArray, List.set_cons_zero, List.set_cons_succ])))
        refine LexL.call (f := 40) (args := #[.pointer (some ⟨g, 0, none⟩), .agg #[.int .i64 kd, .int .i64 nw, .int .i64 jb, .int .i64 tr, .int .i64 wk, .int .i64 tm]]) (w1 := w7) (by rfl) (by decide) (by go_simp) ?_
        refine (bdo_sl g T kd nw jb tr wk tm _ H7.out.two HI.out.ok).mono ?_
        rw [HX.out]
        rintro e w8 ⟨rfl, q8, h8⟩
        have H8 := Lib.hid h8; have Q8 := Lib.hid (Q7.out.trans q8); clear h8 q8
        refine ⟨_, rfl, HC.out _ _ (H8.out.eq (by ac_rfl : _ = tb g 66 T' * tab u T' * old w)), ?_⟩
        try simp only [Act.put, List.setIfInBounds_toArray, List.set_cons_zero, List.set_cons_succ]
        repeat (first | (refine LexL.none (by rfl) ?_; (try simp only [Act.put, List.setIfInBounds_toArray, List.set_cons_zero, List.set_cons_succ])) | (refine LexL.still (v := ?_) (by rfl) ?_ ?_; rotate_left; (focus (intro W hW; (try dsimp only at hW); go_simp; (try (with_reducible rfl)); done)); (try simp only [Act.put, List.setIfInBounds_toArray, List.set_cons_zero, List.set_cons_succ])))
        refine LexL.call (f := 41) (args := #[.pointer (some ⟨u, 0, none⟩), .pointer (some ⟨g, 0, none⟩)]) (w1 := w8) (by rfl) (by decide) (by go_simp) ?_
        refine (same_sl u g T' _ H8.out.two).mono ?_
        rintro e w9 ⟨rfl, hb9⟩
        have H9 := Lib.hid (H8.out.two.below hb9); have Q9 := Lib.hid (Q8.out.trans (Quiet.below hb9)); clear hb9
        refine ⟨_, rfl, HC.out _ _ (H9.out.eq (by ac_rfl : _ = tab u T' * tb g 66 T' * old w)), ?_⟩
        try simp only [Act.put, List.setIfInBounds_toArray, List.set_cons_zero, List.set_cons_succ]
        repeat (first | (refine LexL.none (by rfl) ?_; (try simp only [Act.put, List.setIfInBounds_toArray, List.set_cons_zero, List.set_cons_succ])) | (refine LexL.still (v := ?_) (by rfl) ?_ ?_; rotate_left; (focus (intro W hW; (try dsimp only at hW); go_simp; (try (with_reducible rfl)); done)); (try simp only [Act.put, List.setIfInBounds_toArray, List.set_cons_zero, List.set_cons_succ])))
        refine LexL.done ?_
        go_wp2_with fail
        go_roundw
        case rel => exact ⟨k + 1, T', u, rfl, by omega, by go_num, H9.out, Q9.out, HI'.out⟩
        case measure => simp [intOf]; omega
      · have hkb : ((k : Int) == n0) = false := by simpa using hki
        clear hki
        have HZ := Lib.hid HH.out
        have QZ := Lib.hid HQ.out
        go_wp2_with fail
        refine wp_region_lex (fun W => W.cell? ⟨ga, off + k * 6, none⟩ = some (.int .i64 kd) ∧ W.cell? ⟨ga, off + k * 6 + 1, none⟩ = some (.int .i64 nw) ∧ W.cell? ⟨ga, off + k * 6 + 2, none⟩ = some (.int .i64 jb) ∧ W.cell? ⟨ga, off + k * 6 + 3, none⟩ = some (.int .i64 tr) ∧ W.cell? ⟨ga, off + k * 6 + 4, none⟩ = some (.int .i64 wk) ∧ W.cell? ⟨ga, off + k * 6 + 5, none⟩ = some (.int .i64 tm)) [4, 9, 11, 17, 23, 26, 29] (by kernel_rfl) (by kernel_rfl) (HC.out _ _ (HZ.out.drew.eq (by ac_rfl : _ = tab b T * tb g 66 T * old w))) ?_
        repeat (first | (refine LexL.none (by rfl) ?_; (try simp only [Act.put, List.setIfInBounds_toArray, List.set_cons_zero, List.set_cons_succ])) | (refine LexL.still (v := ?_) (by rfl) ?_ ?_; rotate_left; (focus (intro W hW; (try dsimp only at hW); go_simp; (try (with_reducible rfl)); done)); (try simp only [Act.put, List.setIfInBounds_toArray, List.set_cons_zero, List.set_cons_succ])))
        refine LexL.call (f := 38) (args := #[.agg #[.int .i64 kd, .int .i64 nw, .int .i64 jb, .int .i64 tr, .int .i64 wk, .int .i64 tm]]) (w1 := wo.drew) (by rfl) (by decide) (by go_simp) ?_
        obtain ⟨C, hC⟩ : ∃ C, chk ⟨kd, nw, jb, tr, wk, tm⟩ = C := ⟨_, rfl⟩
        have HCC := Lib.hid hC; clear hC
        refine (check_any kd nw jb tr wk tm _).mono ?_
        rw [HCC.out]
        rintro e w5 ⟨rfl, hb5⟩
        have H5 := Lib.hid (HZ.out.drew.below hb5); have Q5 := Lib.hid (QZ.out.drew.trans (Quiet.below hb5)); clear hb5
        refine ⟨_, rfl, HC.out _ _ (H5.out.eq (by ac_rfl : _ = tab b T * tb g 66 T * old w)), ?_⟩
        try simp only [Act.put, List.setIfInBounds_toArray, List.set_cons_zero, List.set_cons_succ]
        repeat (first | (refine LexL.none (by rfl) ?_; (try simp only [Act.put, List.setIfInBounds_toArray, List.set_cons_zero, List.set_cons_succ])) | (refine LexL.still (v := ?_) (by rfl) ?_ ?_; rotate_left; (focus (intro W hW; (try dsimp only at hW); go_simp; (try (with_reducible rfl)); done)); (try simp only [Act.put, List.setIfInBounds_toArray, List.set_cons_zero, List.set_cons_succ])))
        refine LexL.call (f := 39) (args := #[.agg #[.int .i64 kd, .int .i64 nw, .int .i64 jb, .int .i64 tr, .int .i64 wk, .int .i64 tm]]) (w1 := w5) (by rfl) (by decide) (by go_simp) ?_
        refine (ofault_any kd nw jb tr wk tm _).mono ?_
        rw [HCC.out]
        rintro e w6 ⟨rfl, hb6⟩
        have H6 := Lib.hid (H5.out.below hb6); have Q6 := Lib.hid (Q5.out.trans (Quiet.below hb6)); clear hb6
        refine ⟨_, rfl, HC.out _ _ (H6.out.eq (by ac_rfl : _ = tab b T * tb g 66 T * old w)), ?_⟩
        try simp only [Act.put, List.setIfInBounds_toArray, List.set_cons_zero, List.set_cons_succ]
        repeat (first | (refine LexL.none (by rfl) ?_; (try simp only [Act.put, List.setIfInBounds_toArray, List.set_cons_zero, List.set_cons_succ])) | (refine LexL.still (v := ?_) (by rfl) ?_ ?_; rotate_left; (focus (intro W hW; (try dsimp only at hW); go_simp; (try (with_reducible rfl)); done)); (try simp only [Act.put, List.setIfInBounds_toArray, List.set_cons_zero, List.set_cons_succ])))
        refine LexL.call (f := 37) (args := #[.pointer (some ⟨b, 0, none⟩), .agg #[.int .i64 kd, .int .i64 nw, .int .i64 jb, .int .i64 tr, .int .i64 wk, .int .i64 tm]]) (w1 := w6) (by rfl) (by decide) (by go_simp) ?_
        refine (do_sl b T kd nw jb tr wk tm _ H6.out HI.out.ok).mono ?_
        have hin := did_in HI.out ⟨kd, nw, jb, tr, wk, tm⟩
        obtain ⟨X, hX⟩ : ∃ X, T.did ⟨kd, nw, jb, tr, wk, tm⟩ = X := ⟨_, rfl⟩
        rw [hX] at hin ⊢
        obtain ⟨T', ⟨x1, y1, z1⟩⟩ := X
        have HX := Lib.hid hX
        have HI' := Lib.hid hin
        clear hX hin
        rintro e w7 ⟨rfl, q7, h7⟩
        have H7 := Lib.hid h7; have Q7 := Lib.hid (Q6.out.trans q7); clear h7 q7
        refine ⟨_, rfl, HC.out _ _ (H7.out.eq (by ac_rfl : _ = tab b T' * tb g 66 T * old w)), ?_⟩
        try simp only [Act.put, List.setIfInBounds_toArray, List.set_cons_zero, List.set_cons_succ]
        repeat (first | (refine LexL.none (by rfl) ?_; (try simp only [Act.put, List.setIfInBounds_toArray, List.set_cons_zero, List.set_cons_succ])) | (refine LexL.still (v := ?_) (by rfl) ?_ ?_; rotate_left; (focus (intro W hW; (try dsimp only at hW); go_simp; (try (with_reducible rfl)); done)); (try simp only [Act.put, List.setIfInBounds_toArray, List.set_cons_zero, List.set_cons_succ])))
        refine LexL.call (f := 40) (args := #[.pointer (some ⟨g, 0, none⟩), .agg #[.int .i64 kd, .int .i64 nw, .int .i64 jb, .int .i64 tr, .int .i64 wk, .int .i64 tm]]) (w1 := w7) (by rfl) (by decide) (by go_simp) ?_
        refine (bdo_sl g T kd nw jb tr wk tm _ H7.out.two HI.out.ok).mono ?_
        rw [HX.out]
        rintro e w8 ⟨rfl, q8, h8⟩
        have H8 := Lib.hid h8; have Q8 := Lib.hid (Q7.out.trans q8); clear h8 q8
        refine ⟨_, rfl, HC.out _ _ (H8.out.eq (by ac_rfl : _ = tb g 66 T' * tab b T' * old w)), ?_⟩
        try simp only [Act.put, List.setIfInBounds_toArray, List.set_cons_zero, List.set_cons_succ]
        repeat (first | (refine LexL.none (by rfl) ?_; (try simp only [Act.put, List.setIfInBounds_toArray, List.set_cons_zero, List.set_cons_succ])) | (refine LexL.still (v := ?_) (by rfl) ?_ ?_; rotate_left; (focus (intro W hW; (try dsimp only at hW); go_simp; (try (with_reducible rfl)); done)); (try simp only [Act.put, List.setIfInBounds_toArray, List.set_cons_zero, List.set_cons_succ])))
        refine LexL.call (f := 41) (args := #[.pointer (some ⟨b, 0, none⟩), .pointer (some ⟨g, 0, none⟩)]) (w1 := w8) (by rfl) (by decide) (by go_simp) ?_
        refine (same_sl b g T' _ H8.out.two).mono ?_
        rintro e w9 ⟨rfl, hb9⟩
        have H9 := Lib.hid (H8.out.two.below hb9); have Q9 := Lib.hid (Q8.out.trans (Quiet.below hb9)); clear hb9
        refine ⟨_, rfl, HC.out _ _ (H9.out.eq (by ac_rfl : _ = tab b T' * tb g 66 T' * old w)), ?_⟩
        try simp only [Act.put, List.setIfInBounds_toArray, List.set_cons_zero, List.set_cons_succ]
        repeat (first | (refine LexL.none (by rfl) ?_; (try simp only [Act.put, List.setIfInBounds_toArray, List.set_cons_zero, List.set_cons_succ])) | (refine LexL.still (v := ?_) (by rfl) ?_ ?_; rotate_left; (focus (intro W hW; (try dsimp only at hW); go_simp; (try (with_reducible rfl)); done)); (try simp only [Act.put, List.setIfInBounds_toArray, List.set_cons_zero, List.set_cons_succ])))
        refine LexL.done ?_
        go_wp2_with fail
        go_roundw
        case rel => exact ⟨k + 1, T', b, rfl, by omega, by go_num, H9.out, Q9.out, HI'.out⟩
        case measure => simp [intOf]; omega
    · obtain rfl : k = L.length := by omega
      go_wp2
      go_ret
      exact ⟨rfl, HH.out.right.right.toBelow' HQ.out⟩
end Go.Proofs.Ytfihmpkkpgmdhaa
