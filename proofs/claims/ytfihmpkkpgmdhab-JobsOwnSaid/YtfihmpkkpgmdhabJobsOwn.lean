/-
  JobsOwn, walked: each its own.
-/
import Derived.Test.YtfihmpkkpgmdhabSame2
import Derived.Test.YtfihmpkkpgmdhabView3
namespace Go.Proofs.Ytfihmpkkpgmdhab
set_option linter.unusedSimpArgs false
set_option linter.unusedVariables false
open Go.RowKit
set_option maxRecDepth 100000 in
set_option maxHeartbeats 8000000 in
theorem jobsOwn_any (v1 v2 v3 : Value) (L M K : List Ord) (w : World) (hv1 : (∀ r ∈ L, ∀ n ∈ r.ints, I64' n) ∧ RowAt w v1 L.length (ovs L)) (hv2 : (∀ r ∈ M, ∀ n ∈ r.ints, I64' n) ∧ RowAt w v2 M.length (ovs M)) (hv3 : (∀ r ∈ K, ∀ n ∈ r.ints, I64' n) ∧ RowAt w v3 K.length (ovs K)) :
    Calls Try.prog 6 #[v1, v2, v3] w fun e w' => e = .returned (.bool true) ∧ Below w.heap.size w w' := by
  obtain ⟨ad1, cc1, rfl, c1, d1⟩ := hv1.2.shape
  obtain ⟨ad2, cc2, rfl, c2, d2⟩ := hv2.2.shape
  obtain ⟨ad3, cc3, rfl, c3, d3⟩ := hv3.2.shape
  have HV1 := Lib.hid hv1.2; have HV2 := Lib.hid hv2.2; have HV3 := Lib.hid hv3.2; clear hv1 hv2 hv3
  go_enter Try.func6, Try.ntmps6
  go_wp2_with fail
  refine (jobsBegun_any _).mono ?_
  rintro e w1 ⟨rfl, hb1⟩
  have H1 := Lib.hid ((Holds.old (w := w)).below hb1)
  have Q1 := Lib.hid (Quiet.below hb1); clear hb1
  by_cases hl1 : 200 < L.length
  · go_wp2
    go_ret
    exact ⟨rfl, H1.out.toBelow' Q1.out⟩
  by_cases hl2 : 200 < M.length
  · go_wp2
    go_ret
    exact ⟨rfl, H1.out.toBelow' Q1.out⟩
  by_cases hl3 : 200 < K.length
  · go_wp2
    go_ret
    exact ⟨rfl, H1.out.toBelow' Q1.out⟩
  go_wp2_with fail
  refine (new_sl _ H1.out).mono ?_
  rintro e w2 ⟨b, rfl, q2, h2⟩
  obtain ⟨g, hg⟩ : ∃ g, w2.heap.size = g := ⟨_, rfl⟩
  have h3 := (h2.boxB (ty := 41) (cs := tcells Tbl.zero) hg).two
  have q3 := (Q1.out.trans q2).alloc (.cells (tcells Tbl.zero).toArray 41)
  have H3 := Lib.hid (show Holds (w2.alloc (.cells (tcells Tbl.zero).toArray 41)) (tab b Tbl.zero * (tb g 41 Tbl.zero * old w)) from h3)
  have Q3 := Lib.hid q3; clear h2 q2 h3 q3
  go_wp2_with fail
  clear hg
  go_loopw [9] (fun i wr => ∃ (k : Nat) (T : Tbl), k ≤ L.length ∧ i = .int .i64 k ∧ Holds wr (tab b T * (tb g 41 T * old w)) ∧ Quiet w wr ∧ T.In) (fun i _ => L.length - (intOf i).toNat)
  case atStart => exact ⟨0, Tbl.zero, by omega, rfl, H3.out, Q3.out, Tbl.zero_in⟩
  case round =>
    obtain ⟨k, T, hk, rfl, hh, hq, hin⟩ := hrel
    obtain ⟨wo, rfl⟩ : ∃ wo : World, wo = wr := ⟨_, rfl⟩
    have HH := Lib.hid hh; have HQ := Lib.hid hq; have HI := Lib.hid hin; clear hh hq hin
    by_cases hlt : k < L.length
    · obtain ⟨o, ho⟩ : ∃ o, L[k]? = some o := ⟨_, List.getElem?_eq_getElem hlt⟩
      obtain ⟨ga, off, c', e, _, _, hc0⟩ := HV1.out.get (by omega)
      simp only [Value.slice.injEq] at e
      obtain ⟨rfl, _, rfl⟩ := e
      obtain ⟨a0, a1, a2, a3, a4, a5⟩ := ord_cells HV1.out ho (HH.out.eq (HP.assoc _ _ _).symm)
      have HO := Lib.hid ho
      obtain ⟨kd, nw, jb, tr, wk, tm⟩ := o
      dsimp only at a0 a1 a2 a3 a4 a5
      clear ho hc0
      go_wp2_with fail
      refine (do_sl b T kd nw jb tr wk tm _ HH.out HI.out.ok).mono ?_
      rintro e w3 ⟨rfl, q3, h3⟩
      obtain ⟨X, hX⟩ : ∃ X, T.did ⟨kd, nw, jb, tr, wk, tm⟩ = X := ⟨_, rfl⟩
      rw [hX] at h3 ⊢
      have HX := Lib.hid hX; clear hX a0 a1 a2 a3 a4 a5
      have H3 := Lib.hid h3; have Q3 := Lib.hid (HQ.out.trans q3); clear h3 q3
      obtain ⟨a0, a1, a2, a3, a4, a5⟩ := ord_cells HV1.out HO.out (H3.out.eq (HP.assoc _ _ _).symm)
      dsimp only at a0 a1 a2 a3 a4 a5
      go_wp2_with fail
      refine (bdo_sl g T kd nw jb tr wk tm _ H3.out.two HI.out.ok).mono ?_
      rw [HX.out]
      rintro e w4 ⟨rfl, q4, h4⟩
      have HI4 := Lib.hid (did_in HI.out ⟨kd, nw, jb, tr, wk, tm⟩)
      rw [HX.out] at HI4
      have H4 := Lib.hid h4.two; have Q4 := Lib.hid (Q3.out.trans q4); clear h4 q4 a0 a1 a2 a3 a4 a5
      go_wp2_with fail
      go_roundw
      case rel => exact ⟨k + 1, X.1, by omega, by go_num, H4.out, Q4.out, HI4.out⟩
      case measure => simp [intOf]; omega
    · obtain rfl : k = L.length := by omega
      go_wp2_with fail
      refine (own_sl b T _ HH.out).mono ?_
      rintro e w3 ⟨u, rfl, q3, h3⟩
      have H3 := Lib.hid h3; have Q3 := Lib.hid (HQ.out.trans q3); clear h3 q3
      go_wp2_with (first | (refine wpList_load_whole rfl 41 _ rfl g rfl (tcells T) H3.out.three.tb Try.underlying41 rfl (by kernel_rfl) ?_) | (refine wpList_store_whole rfl 41 _ _ rfl w3.heap.size (tcells T) rfl rfl (BlockAt.new w3 41 (tcells Tbl.zero)) (by simp [tcells_len]) (by kernel_rfl) (tcells_ones T) ?_; intro w4 h1' h2' h3'; have H4 := Lib.hid ((H3.out.allocB 41 (tcells Tbl.zero)).grown h2' h1'); have Q4 := Lib.hid ((Q3.out.alloc (.cells (tcells Tbl.zero).toArray 41)).trans (Quiet.grown h2')); clear h1' h2' h3'))
      refine (same_sl u g T _ (H4.out.eq (by ac_rfl : _ = tab u T * (tb g 41 T * (bl w3.heap.size 41 (tcells T) * (tab b T * old w)))))).mono ?_
      rintro e w5 ⟨rfl, hb5⟩
      obtain ⟨c, hc⟩ : ∃ c, w3.heap.size = c := ⟨_, rfl⟩
      have H5 := Lib.hid (show Holds w5 (tab b T * (tb g 41 T * (tab u T * (tb c 41 T * old w)))) from by
        rw [← hc]
        exact (H4.out.below hb5).eq (by ac_rfl : _ = tab b T * (tb g 41 T * (tab u T * (bl w3.heap.size 41 (tcells T) * old w)))))
      have Q5 := Lib.hid (Q4.out.trans (Quiet.below hb5))
      clear hb5
      go_wp2_with fail
      clear hc
      go_loopw [12] (fun i wr => ∃ (k : Nat) (T U : Tbl), k ≤ max M.length K.length ∧ i = .int .i64 k ∧ Holds wr (tab b T * (tb g 41 T * (tab u U * (tb c 41 U * old w)))) ∧ Quiet w wr ∧ T.In ∧ U.In) (fun i _ => max M.length K.length - (intOf i).toNat)
      case atStart => exact ⟨0, T, T, by omega, rfl, H5.out, Q5.out, HI.out, HI.out⟩
      case round =>
        obtain ⟨k, T, U, hk, rfl, hh, hq, hin, hiu⟩ := hrel
        have HHi := Lib.hid hh; have HQi := Lib.hid hq; have HIi := Lib.hid hin; have HIU := Lib.hid hiu; clear hh hq hin hiu
        by_cases hM : k < M.length
        · have hMb : decide ((k : Int) < (M.length : Int)) = true := by simp; omega
          by_cases hK : k < K.length
          · have hKb : decide ((k : Int) < (K.length : Int)) = true := by simp; omega
            obtain ⟨o6, ho6⟩ : ∃ o, M[k]? = some o := ⟨_, List.getElem?_eq_getElem (by omega)⟩
            obtain ⟨ga6, off6, cx6, e, _, _, hc0⟩ := HV2.out.get (by omega)
            simp only [Value.slice.injEq] at e
            obtain ⟨rfl, _, rfl⟩ := e
            clear hc0
            have HO6 := Lib.hid ho6
            have cells6 : ∀ (W : World) (A : HP), Holds W (A * old w) → _ := fun W A h => ord_cells HV2.out HO6.out h
            obtain ⟨kd6, nw6, jb6, tr6, wk6, tm6⟩ := o6
            dsimp only at cells6
            have HC6 := Lib.hid cells6
            clear ho6 cells6
            go_wp2_with fail
            refine wp_region_lex (fun W => W.cell? ⟨ga6, off6 + k * 6, none⟩ = some (.int .i64 kd6) ∧ W.cell? ⟨ga6, off6 + k * 6 + 1, none⟩ = some (.int .i64 nw6) ∧ W.cell? ⟨ga6, off6 + k * 6 + 2, none⟩ = some (.int .i64 jb6) ∧ W.cell? ⟨ga6, off6 + k * 6 + 3, none⟩ = some (.int .i64 tr6) ∧ W.cell? ⟨ga6, off6 + k * 6 + 4, none⟩ = some (.int .i64 wk6) ∧ W.cell? ⟨ga6, off6 + k * 6 + 5, none⟩ = some (.int .i64 tm6)) [10, 16] (by kernel_rfl) (by kernel_rfl) (HC6.out _ _ (HHi.out.drew.eq (by ac_rfl : _ = tab b T * (tb g 41 T * (tab u U * tb c 41 U)) * old w))) ?_
            repeat (first | (refine LexL.none (by rfl) ?_; (try simp only [Act.put, List.setIfInBounds_toArray, List.set_cons_zero, List.set_cons_succ])) | (refine LexL.still (v := ?_) (by rfl) ?_ ?_; rotate_left; (focus (intro W hW; (try dsimp only at hW); go_simp; (try (with_reducible rfl)); done)); (try simp only [Act.put, List.setIfInBounds_toArray, List.set_cons_zero, List.set_cons_succ])))
            refine LexL.call (f := 19) (args := #[.pointer (some ⟨b, 0, none⟩), .agg #[.int .i64 kd6, .int .i64 nw6, .int .i64 jb6, .int .i64 tr6, .int .i64 wk6, .int .i64 tm6]]) (w1 := wr.drew) (by rfl) (by decide) (by go_simp) ?_
            refine (do_sl b T kd6 nw6 jb6 tr6 wk6 tm6 _ (HHi.out.drew.eq (by ac_rfl : _ = tab b T * (tb g 41 T * (tab u U * (tb c 41 U * old w))))) HIi.out.ok).mono ?_
            have hin := did_in HIi.out ⟨kd6, nw6, jb6, tr6, wk6, tm6⟩
            obtain ⟨X6, hX⟩ : ∃ X, T.did ⟨kd6, nw6, jb6, tr6, wk6, tm6⟩ = X := ⟨_, rfl⟩
            rw [hX] at hin ⊢
            obtain ⟨T6, ⟨x6, y6, z6⟩⟩ := X6
            have HX6 := Lib.hid hX
            have HI6 := Lib.hid hin
            clear hX hin
            rintro e w6 ⟨rfl, q6, h6⟩
            have H6a := Lib.hid h6
            have Q6a := Lib.hid (HQi.out.drew.trans q6)
            clear h6 q6
            refine ⟨_, rfl, HC6.out _ _ (H6a.out.eq (by ac_rfl : _ = tab b T6 * (tb g 41 T * (tab u U * tb c 41 U)) * old w)), ?_⟩
            try simp only [Act.put, List.setIfInBounds_toArray, List.set_cons_zero, List.set_cons_succ]
            repeat (first | (refine LexL.none (by rfl) ?_; (try simp only [Act.put, List.setIfInBounds_toArray, List.set_cons_zero, List.set_cons_succ])) | (refine LexL.still (v := ?_) (by rfl) ?_ ?_; rotate_left; (focus (intro W hW; (try dsimp only at hW); go_simp; (try (with_reducible rfl)); done)); (try simp only [Act.put, List.setIfInBounds_toArray, List.set_cons_zero, List.set_cons_succ])))
            refine LexL.call (f := 21) (args := #[.pointer (some ⟨g, 0, none⟩), .agg #[.int .i64 kd6, .int .i64 nw6, .int .i64 jb6, .int .i64 tr6, .int .i64 wk6, .int .i64 tm6]]) (w1 := w6) (by rfl) (by decide) (by go_simp) ?_
            refine (bdo_sl g T kd6 nw6 jb6 tr6 wk6 tm6 _ (H6a.out.two) HIi.out.ok).mono ?_
            rw [HX6.out]
            rintro e w6' ⟨rfl, q6, h6⟩
            have H6b := Lib.hid h6
            have Q6b := Lib.hid (Q6a.out.trans q6)
            clear h6 q6
            refine ⟨_, rfl, HC6.out _ _ (H6b.out.eq (by ac_rfl : _ = tb g 41 T6 * (tab b T6 * (tab u U * tb c 41 U)) * old w)), ?_⟩
            try simp only [Act.put, List.setIfInBounds_toArray, List.set_cons_zero, List.set_cons_succ]
            repeat (first | (refine LexL.none (by rfl) ?_; (try simp only [Act.put, List.setIfInBounds_toArray, List.set_cons_zero, List.set_cons_succ])) | (refine LexL.still (v := ?_) (by rfl) ?_ ?_; rotate_left; (focus (intro W hW; (try dsimp only at hW); go_simp; (try (with_reducible rfl)); done)); (try simp only [Act.put, List.setIfInBounds_toArray, List.set_cons_zero, List.set_cons_succ])))
            refine LexL.done ?_
            have H6 := Lib.hid (H6b.out.eq (by ac_rfl : _ = tab b T6 * (tb g 41 T6 * (tab u U * (tb c 41 U * old w)))))
            have Q6 := Lib.hid Q6b.out
            clear H6a H6b Q6a Q6b HC6
            obtain ⟨o7, ho7⟩ : ∃ o, K[k]? = some o := ⟨_, List.getElem?_eq_getElem (by omega)⟩
            obtain ⟨ga7, off7, cx7, e, _, _, hc0⟩ := HV3.out.get (by omega)
            simp only [Value.slice.injEq] at e
            obtain ⟨rfl, _, rfl⟩ := e
            clear hc0
            have HO7 := Lib.hid ho7
            have cells7 : ∀ (W : World) (A : HP), Holds W (A * old w) → _ := fun W A h => ord_cells HV3.out HO7.out h
            obtain ⟨kd7, nw7, jb7, tr7, wk7, tm7⟩ := o7
            dsimp only at cells7
            have HC7 := Lib.hid cells7
            clear ho7 cells7
            go_wp2_with fail
            refine wp_region_lex (fun W => W.cell? ⟨ga7, off7 + k * 6, none⟩ = some (.int .i64 kd7) ∧ W.cell? ⟨ga7, off7 + k * 6 + 1, none⟩ = some (.int .i64 nw7) ∧ W.cell? ⟨ga7, off7 + k * 6 + 2, none⟩ = some (.int .i64 jb7) ∧ W.cell? ⟨ga7, off7 + k * 6 + 3, none⟩ = some (.int .i64 tr7) ∧ W.cell? ⟨ga7, off7 + k * 6 + 4, none⟩ = some (.int .i64 wk7) ∧ W.cell? ⟨ga7, off7 + k * 6 + 5, none⟩ = some (.int .i64 tm7)) [10, 15] (by kernel_rfl) (by kernel_rfl) (HC7.out _ _ (H6.out.drew.eq (by ac_rfl : _ = tab b T6 * (tb g 41 T6 * (tab u U * tb c 41 U)) * old w))) ?_
            repeat (first | (refine LexL.none (by rfl) ?_; (try simp only [Act.put, List.setIfInBounds_toArray, List.set_cons_zero, List.set_cons_succ])) | (refine LexL.still (v := ?_) (by rfl) ?_ ?_; rotate_left; (focus (intro W hW; (try dsimp only at hW); go_simp; (try (with_reducible rfl)); done)); (try simp only [Act.put, List.setIfInBounds_toArray, List.set_cons_zero, List.set_cons_succ])))
            refine LexL.call (f := 19) (args := #[.pointer (some ⟨u, 0, none⟩), .agg #[.int .i64 kd7, .int .i64 nw7, .int .i64 jb7, .int .i64 tr7, .int .i64 wk7, .int .i64 tm7]]) (w1 := w6'.drew) (by rfl) (by decide) (by go_simp) ?_
            refine (do_sl u U kd7 nw7 jb7 tr7 wk7 tm7 _ (H6.out.drew.eq (by ac_rfl : _ = tab u U * (tb c 41 U * (tab b T6 * (tb g 41 T6 * old w))))) HIU.out.ok).mono ?_
            have hin := did_in HIU.out ⟨kd7, nw7, jb7, tr7, wk7, tm7⟩
            obtain ⟨X7, hX⟩ : ∃ X, U.did ⟨kd7, nw7, jb7, tr7, wk7, tm7⟩ = X := ⟨_, rfl⟩
            rw [hX] at hin ⊢
            obtain ⟨T7, ⟨x7, y7, z7⟩⟩ := X7
            have HX7 := Lib.hid hX
            have HI7 := Lib.hid hin
            clear hX hin
            rintro e w7 ⟨rfl, q7, h7⟩
            have H7a := Lib.hid h7
            have Q7a := Lib.hid (Q6.out.drew.trans q7)
            clear h7 q7
            refine ⟨_, rfl, HC7.out _ _ (H7a.out.eq (by ac_rfl : _ = tab u T7 * (tb c 41 U * (tab b T6 * tb g 41 T6)) * old w)), ?_⟩
            try simp only [Act.put, List.setIfInBounds_toArray, List.set_cons_zero, List.set_cons_succ]
            repeat (first | (refine LexL.none (by rfl) ?_; (try simp only [Act.put, List.setIfInBounds_toArray, List.set_cons_zero, List.set_cons_succ])) | (refine LexL.still (v := ?_) (by rfl) ?_ ?_; rotate_left; (focus (intro W hW; (try dsimp only at hW); go_simp; (try (with_reducible rfl)); done)); (try simp only [Act.put, List.setIfInBounds_toArray, List.set_cons_zero, List.set_cons_succ])))
            refine LexL.call (f := 21) (args := #[.pointer (some ⟨c, 0, none⟩), .agg #[.int .i64 kd7, .int .i64 nw7, .int .i64 jb7, .int .i64 tr7, .int .i64 wk7, .int .i64 tm7]]) (w1 := w7) (by rfl) (by decide) (by go_simp) ?_
            refine (bdo_sl c U kd7 nw7 jb7 tr7 wk7 tm7 _ (H7a.out.two) HIU.out.ok).mono ?_
            rw [HX7.out]
            rintro e w7' ⟨rfl, q7, h7⟩
            have H7b := Lib.hid h7
            have Q7b := Lib.hid (Q7a.out.trans q7)
            clear h7 q7
            refine ⟨_, rfl, HC7.out _ _ (H7b.out.eq (by ac_rfl : _ = tb c 41 T7 * (tab u T7 * (tab b T6 * tb g 41 T6)) * old w)), ?_⟩
            try simp only [Act.put, List.setIfInBounds_toArray, List.set_cons_zero, List.set_cons_succ]
            repeat (first | (refine LexL.none (by rfl) ?_; (try simp only [Act.put, List.setIfInBounds_toArray, List.set_cons_zero, List.set_cons_succ])) | (refine LexL.still (v := ?_) (by rfl) ?_ ?_; rotate_left; (focus (intro W hW; (try dsimp only at hW); go_simp; (try (with_reducible rfl)); done)); (try simp only [Act.put, List.setIfInBounds_toArray, List.set_cons_zero, List.set_cons_succ])))
            refine LexL.done ?_
            have H7 := Lib.hid (H7b.out.eq (by ac_rfl : _ = tab b T6 * (tb g 41 T6 * (tab u T7 * (tb c 41 T7 * old w)))))
            have Q7 := Lib.hid Q7b.out
            clear H7a H7b Q7a Q7b HC7
            go_wp2_with fail
            go_roundw
            case rel => exact ⟨k + 1, T6, T7, by omega, by go_num, H7.out, Q7.out, HI6.out, HI7.out⟩
            case measure => simp [intOf]; omega
          · have hKb : decide ((k : Int) < (K.length : Int)) = false := by simp; omega
            obtain ⟨o6, ho6⟩ : ∃ o, M[k]? = some o := ⟨_, List.getElem?_eq_getElem (by omega)⟩
            obtain ⟨ga6, off6, cx6, e, _, _, hc0⟩ := HV2.out.get (by omega)
            simp only [Value.slice.injEq] at e
            obtain ⟨rfl, _, rfl⟩ := e
            clear hc0
            have HO6 := Lib.hid ho6
            have cells6 : ∀ (W : World) (A : HP), Holds W (A * old w) → _ := fun W A h => ord_cells HV2.out HO6.out h
            obtain ⟨kd6, nw6, jb6, tr6, wk6, tm6⟩ := o6
            dsimp only at cells6
            have HC6 := Lib.hid cells6
            clear ho6 cells6
            go_wp2_with fail
            refine wp_region_lex (fun W => W.cell? ⟨ga6, off6 + k * 6, none⟩ = some (.int .i64 kd6) ∧ W.cell? ⟨ga6, off6 + k * 6 + 1, none⟩ = some (.int .i64 nw6) ∧ W.cell? ⟨ga6, off6 + k * 6 + 2, none⟩ = some (.int .i64 jb6) ∧ W.cell? ⟨ga6, off6 + k * 6 + 3, none⟩ = some (.int .i64 tr6) ∧ W.cell? ⟨ga6, off6 + k * 6 + 4, none⟩ = some (.int .i64 wk6) ∧ W.cell? ⟨ga6, off6 + k * 6 + 5, none⟩ = some (.int .i64 tm6)) [10, 16] (by kernel_rfl) (by kernel_rfl) (HC6.out _ _ (HHi.out.drew.eq (by ac_rfl : _ = tab b T * (tb g 41 T * (tab u U * tb c 41 U)) * old w))) ?_
            repeat (first | (refine LexL.none (by rfl) ?_; (try simp only [Act.put, List.setIfInBounds_toArray, List.set_cons_zero, List.set_cons_succ])) | (refine LexL.still (v := ?_) (by rfl) ?_ ?_; rotate_left; (focus (intro W hW; (try dsimp only at hW); go_simp; (try (with_reducible rfl)); done)); (try simp only [Act.put, List.setIfInBounds_toArray, List.set_cons_zero, List.set_cons_succ])))
            refine LexL.call (f := 19) (args := #[.pointer (some ⟨b, 0, none⟩), .agg #[.int .i64 kd6, .int .i64 nw6, .int .i64 jb6, .int .i64 tr6, .int .i64 wk6, .int .i64 tm6]]) (w1 := wr.drew) (by rfl) (by decide) (by go_simp) ?_
            refine (do_sl b T kd6 nw6 jb6 tr6 wk6 tm6 _ (HHi.out.drew.eq (by ac_rfl : _ = tab b T * (tb g 41 T * (tab u U * (tb c 41 U * old w))))) HIi.out.ok).mono ?_
            have hin := did_in HIi.out ⟨kd6, nw6, jb6, tr6, wk6, tm6⟩
            obtain ⟨X6, hX⟩ : ∃ X, T.did ⟨kd6, nw6, jb6, tr6, wk6, tm6⟩ = X := ⟨_, rfl⟩
            rw [hX] at hin ⊢
            obtain ⟨T6, ⟨x6, y6, z6⟩⟩ := X6
            have HX6 := Lib.hid hX
            have HI6 := Lib.hid hin
            clear hX hin
            rintro e w6 ⟨rfl, q6, h6⟩
            have H6a := Lib.hid h6
            have Q6a := Lib.hid (HQi.out.drew.trans q6)
            clear h6 q6
            refine ⟨_, rfl, HC6.out _ _ (H6a.out.eq (by ac_rfl : _ = tab b T6 * (tb g 41 T * (tab u U * tb c 41 U)) * old w)), ?_⟩
            try simp only [Act.put, List.setIfInBounds_toArray, List.set_cons_zero, List.set_cons_succ]
            repeat (first | (refine LexL.none (by rfl) ?_; (try simp only [Act.put, List.setIfInBounds_toArray, List.set_cons_zero, List.set_cons_succ])) | (refine LexL.still (v := ?_) (by rfl) ?_ ?_; rotate_left; (focus (intro W hW; (try dsimp only at hW); go_simp; (try (with_reducible rfl)); done)); (try simp only [Act.put, List.setIfInBounds_toArray, List.set_cons_zero, List.set_cons_succ])))
            refine LexL.call (f := 21) (args := #[.pointer (some ⟨g, 0, none⟩), .agg #[.int .i64 kd6, .int .i64 nw6, .int .i64 jb6, .int .i64 tr6, .int .i64 wk6, .int .i64 tm6]]) (w1 := w6) (by rfl) (by decide) (by go_simp) ?_
            refine (bdo_sl g T kd6 nw6 jb6 tr6 wk6 tm6 _ (H6a.out.two) HIi.out.ok).mono ?_
            rw [HX6.out]
            rintro e w6' ⟨rfl, q6, h6⟩
            have H6b := Lib.hid h6
            have Q6b := Lib.hid (Q6a.out.trans q6)
            clear h6 q6
            refine ⟨_, rfl, HC6.out _ _ (H6b.out.eq (by ac_rfl : _ = tb g 41 T6 * (tab b T6 * (tab u U * tb c 41 U)) * old w)), ?_⟩
            try simp only [Act.put, List.setIfInBounds_toArray, List.set_cons_zero, List.set_cons_succ]
            repeat (first | (refine LexL.none (by rfl) ?_; (try simp only [Act.put, List.setIfInBounds_toArray, List.set_cons_zero, List.set_cons_succ])) | (refine LexL.still (v := ?_) (by rfl) ?_ ?_; rotate_left; (focus (intro W hW; (try dsimp only at hW); go_simp; (try (with_reducible rfl)); done)); (try simp only [Act.put, List.setIfInBounds_toArray, List.set_cons_zero, List.set_cons_succ])))
            refine LexL.done ?_
            have H6 := Lib.hid (H6b.out.eq (by ac_rfl : _ = tab b T6 * (tb g 41 T6 * (tab u U * (tb c 41 U * old w)))))
            have Q6 := Lib.hid Q6b.out
            clear H6a H6b Q6a Q6b HC6
            go_wp2_with fail
            refine wp_region_lex (fun W => True) [10, 15] (by kernel_rfl) (by kernel_rfl) trivial ?_
            repeat (first | (refine LexL.none (by rfl) ?_; (try simp only [Act.put, List.setIfInBounds_toArray, List.set_cons_zero, List.set_cons_succ])) | (refine LexL.still (v := ?_) (by rfl) ?_ ?_; rotate_left; (focus (intro W hW; (try dsimp only at hW); go_simp; (try (with_reducible rfl)); done)); (try simp only [Act.put, List.setIfInBounds_toArray, List.set_cons_zero, List.set_cons_succ])))
            refine LexL.done ?_
            have H7 := Lib.hid H6.out.drew
            have Q7 := Lib.hid Q6.out.drew
            go_wp2_with fail
            go_roundw
            case rel => exact ⟨k + 1, T6, U, by omega, by go_num, H7.out, Q7.out, HI6.out, HIU.out⟩
            case measure => simp [intOf]; omega
        · have hMb : decide ((k : Int) < (M.length : Int)) = false := by simp; omega
          by_cases hK : k < K.length
          · have hKb : decide ((k : Int) < (K.length : Int)) = true := by simp; omega
            go_wp2_with fail
            refine wp_region_lex (fun W => True) [10, 16] (by kernel_rfl) (by kernel_rfl) trivial ?_
            repeat (first | (refine LexL.none (by rfl) ?_; (try simp only [Act.put, List.setIfInBounds_toArray, List.set_cons_zero, List.set_cons_succ])) | (refine LexL.still (v := ?_) (by rfl) ?_ ?_; rotate_left; (focus (intro W hW; (try dsimp only at hW); go_simp; (try (with_reducible rfl)); done)); (try simp only [Act.put, List.setIfInBounds_toArray, List.set_cons_zero, List.set_cons_succ])))
            refine LexL.done ?_
            have H6 := Lib.hid HHi.out.drew
            have Q6 := Lib.hid HQi.out.drew
            obtain ⟨o7, ho7⟩ : ∃ o, K[k]? = some o := ⟨_, List.getElem?_eq_getElem (by omega)⟩
            obtain ⟨ga7, off7, cx7, e, _, _, hc0⟩ := HV3.out.get (by omega)
            simp only [Value.slice.injEq] at e
            obtain ⟨rfl, _, rfl⟩ := e
            clear hc0
            have HO7 := Lib.hid ho7
            have cells7 : ∀ (W : World) (A : HP), Holds W (A * old w) → _ := fun W A h => ord_cells HV3.out HO7.out h
            obtain ⟨kd7, nw7, jb7, tr7, wk7, tm7⟩ := o7
            dsimp only at cells7
            have HC7 := Lib.hid cells7
            clear ho7 cells7
            go_wp2_with fail
            refine wp_region_lex (fun W => W.cell? ⟨ga7, off7 + k * 6, none⟩ = some (.int .i64 kd7) ∧ W.cell? ⟨ga7, off7 + k * 6 + 1, none⟩ = some (.int .i64 nw7) ∧ W.cell? ⟨ga7, off7 + k * 6 + 2, none⟩ = some (.int .i64 jb7) ∧ W.cell? ⟨ga7, off7 + k * 6 + 3, none⟩ = some (.int .i64 tr7) ∧ W.cell? ⟨ga7, off7 + k * 6 + 4, none⟩ = some (.int .i64 wk7) ∧ W.cell? ⟨ga7, off7 + k * 6 + 5, none⟩ = some (.int .i64 tm7)) [10, 15] (by kernel_rfl) (by kernel_rfl) (HC7.out _ _ (H6.out.drew.eq (by ac_rfl : _ = tab b T * (tb g 41 T * (tab u U * tb c 41 U)) * old w))) ?_
            repeat (first | (refine LexL.none (by rfl) ?_; (try simp only [Act.put, List.setIfInBounds_toArray, List.set_cons_zero, List.set_cons_succ])) | (refine LexL.still (v := ?_) (by rfl) ?_ ?_; rotate_left; (focus (intro W hW; (try dsimp only at hW); go_simp; (try (with_reducible rfl)); done)); (try simp only [Act.put, List.setIfInBounds_toArray, List.set_cons_zero, List.set_cons_succ])))
            refine LexL.call (f := 19) (args := #[.pointer (some ⟨u, 0, none⟩), .agg #[.int .i64 kd7, .int .i64 nw7, .int .i64 jb7, .int .i64 tr7, .int .i64 wk7, .int .i64 tm7]]) (w1 := wr.drew.drew) (by rfl) (by decide) (by go_simp) ?_
            refine (do_sl u U kd7 nw7 jb7 tr7 wk7 tm7 _ (H6.out.drew.eq (by ac_rfl : _ = tab u U * (tb c 41 U * (tab b T * (tb g 41 T * old w))))) HIU.out.ok).mono ?_
            have hin := did_in HIU.out ⟨kd7, nw7, jb7, tr7, wk7, tm7⟩
            obtain ⟨X7, hX⟩ : ∃ X, U.did ⟨kd7, nw7, jb7, tr7, wk7, tm7⟩ = X := ⟨_, rfl⟩
            rw [hX] at hin ⊢
            obtain ⟨T7, ⟨x7, y7, z7⟩⟩ := X7
            have HX7 := Lib.hid hX
            have HI7 := Lib.hid hin
            clear hX hin
            rintro e w7 ⟨rfl, q7, h7⟩
            have H7a := Lib.hid h7
            have Q7a := Lib.hid (Q6.out.drew.trans q7)
            clear h7 q7
            refine ⟨_, rfl, HC7.out _ _ (H7a.out.eq (by ac_rfl : _ = tab u T7 * (tb c 41 U * (tab b T * tb g 41 T)) * old w)), ?_⟩
            try simp only [Act.put, List.setIfInBounds_toArray, List.set_cons_zero, List.set_cons_succ]
            repeat (first | (refine LexL.none (by rfl) ?_; (try simp only [Act.put, List.setIfInBounds_toArray, List.set_cons_zero, List.set_cons_succ])) | (refine LexL.still (v := ?_) (by rfl) ?_ ?_; rotate_left; (focus (intro W hW; (try dsimp only at hW); go_simp; (try (with_reducible rfl)); done)); (try simp only [Act.put, List.setIfInBounds_toArray, List.set_cons_zero, List.set_cons_succ])))
            refine LexL.call (f := 21) (args := #[.pointer (some ⟨c, 0, none⟩), .agg #[.int .i64 kd7, .int .i64 nw7, .int .i64 jb7, .int .i64 tr7, .int .i64 wk7, .int .i64 tm7]]) (w1 := w7) (by rfl) (by decide) (by go_simp) ?_
            refine (bdo_sl c U kd7 nw7 jb7 tr7 wk7 tm7 _ (H7a.out.two) HIU.out.ok).mono ?_
            rw [HX7.out]
            rintro e w7' ⟨rfl, q7, h7⟩
            have H7b := Lib.hid h7
            have Q7b := Lib.hid (Q7a.out.trans q7)
            clear h7 q7
            refine ⟨_, rfl, HC7.out _ _ (H7b.out.eq (by ac_rfl : _ = tb c 41 T7 * (tab u T7 * (tab b T * tb g 41 T)) * old w)), ?_⟩
            try simp only [Act.put, List.setIfInBounds_toArray, List.set_cons_zero, List.set_cons_succ]
            repeat (first | (refine LexL.none (by rfl) ?_; (try simp only [Act.put, List.setIfInBounds_toArray, List.set_cons_zero, List.set_cons_succ])) | (refine LexL.still (v := ?_) (by rfl) ?_ ?_; rotate_left; (focus (intro W hW; (try dsimp only at hW); go_simp; (try (with_reducible rfl)); done)); (try simp only [Act.put, List.setIfInBounds_toArray, List.set_cons_zero, List.set_cons_succ])))
            refine LexL.done ?_
            have H7 := Lib.hid (H7b.out.eq (by ac_rfl : _ = tab b T * (tb g 41 T * (tab u T7 * (tb c 41 T7 * old w)))))
            have Q7 := Lib.hid Q7b.out
            clear H7a H7b Q7a Q7b HC7
            go_wp2_with fail
            go_roundw
            case rel => exact ⟨k + 1, T, T7, by omega, by go_num, H7.out, Q7.out, HIi.out, HI7.out⟩
            case measure => simp [intOf]; omega
          · obtain rfl : k = max M.length K.length := by omega
            go_wp2_with fail
            refine (same_sl b g T _ (HHi.out)).mono ?_
            rintro e w8 ⟨rfl, hb8⟩
            have H8 := Lib.hid (HHi.out.below hb8); have Q8 := Lib.hid (HQi.out.trans (Quiet.below hb8)); clear hb8
            go_wp2_with fail
            refine (same_sl u c U _ (H8.out.right.right)).mono ?_
            rintro e w9 ⟨rfl, hb9⟩
            have H9 := Lib.hid (H8.out.below hb9); have Q9 := Lib.hid (Q8.out.trans (Quiet.below hb9)); clear hb9
            go_wp2
            go_ret
            exact ⟨rfl, H9.out.right.right.right.right.toBelow' Q9.out⟩
end Go.Proofs.Ytfihmpkkpgmdhab
