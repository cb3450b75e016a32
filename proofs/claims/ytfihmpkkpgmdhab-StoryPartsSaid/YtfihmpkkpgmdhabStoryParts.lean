/-
  StoryParts, walked: one record behind the other.
-/
import Derived.Test.YtfihmpkkpgmdhabStoryE
import Derived.Test.YtfihmpkkpgmdhabUidx
import Derived.Lib.MinMax
namespace Go.Proofs.Ytfihmpkkpgmdhab
set_option linter.unusedSimpArgs false
set_option linter.unusedVariables false
open Go.RowKit
theorem sev_cells {W : World} {g off n c i : Nat} {E : List Ev} {R : HP} (ep2 kd nw jb tr wk tm a0 a1 a2 s1 s2 s3 s4 : Int) (h : Holds W (sevs (.slice (some ⟨g, off, none⟩) n c) E * R)) (hi : E[i]? = some ⟨⟨ep2, ⟨kd, nw, jb, tr, wk, tm⟩⟩, ⟨a0, a1, a2⟩, ⟨s1, s2, s3, s4⟩⟩) : W.cell? ⟨g, off + i * 14, none⟩ = some (.int .i64 ep2) ∧ W.cell? ⟨g, off + i * 14 + 1, none⟩ = some (.int .i64 kd) ∧ W.cell? ⟨g, off + i * 14 + 2, none⟩ = some (.int .i64 nw) ∧ W.cell? ⟨g, off + i * 14 + 3, none⟩ = some (.int .i64 jb) ∧ W.cell? ⟨g, off + i * 14 + 4, none⟩ = some (.int .i64 tr) ∧ W.cell? ⟨g, off + i * 14 + 5, none⟩ = some (.int .i64 wk) ∧ W.cell? ⟨g, off + i * 14 + 6, none⟩ = some (.int .i64 tm) ∧ W.cell? ⟨g, off + i * 14 + 7, none⟩ = some (.int .i64 a0) ∧ W.cell? ⟨g, off + i * 14 + 8, none⟩ = some (.int .i64 a1) ∧ W.cell? ⟨g, off + i * 14 + 9, none⟩ = some (.int .i64 a2) ∧ W.cell? ⟨g, off + i * 14 + 10, none⟩ = some (.int .i64 s1) ∧ W.cell? ⟨g, off + i * 14 + 11, none⟩ = some (.int .i64 s2) ∧ W.cell? ⟨g, off + i * 14 + 12, none⟩ = some (.int .i64 s3) ∧ W.cell? ⟨g, off + i * 14 + 13, none⟩ = some (.int .i64 s4) := by
  have hn : E.length ≠ 0 := by intro e; have := (List.getElem?_eq_some_iff.1 hi).1; omega
  obtain ⟨g', off', c', e, _, _, hc⟩ := h.row.get hn
  simp only [Value.slice.injEq, Option.some.injEq, Addr.mk.injEq, and_true] at e
  obtain ⟨⟨rfl, rfl⟩, _, rfl⟩ := e
  exact ⟨evvs_cell0 hc hi, evvs_cell hc hi 1 _ (by omega) rfl, evvs_cell hc hi 2 _ (by omega) rfl, evvs_cell hc hi 3 _ (by omega) rfl, evvs_cell hc hi 4 _ (by omega) rfl, evvs_cell hc hi 5 _ (by omega) rfl, evvs_cell hc hi 6 _ (by omega) rfl, evvs_cell hc hi 7 _ (by omega) rfl, evvs_cell hc hi 8 _ (by omega) rfl, evvs_cell hc hi 9 _ (by omega) rfl, evvs_cell hc hi 10 _ (by omega) rfl, evvs_cell hc hi 11 _ (by omega) rfl, evvs_cell hc hi 12 _ (by omega) rfl, evvs_cell hc hi 13 _ (by omega) rfl⟩
theorem sev_shape {W : World} {v : Value} {E : List Ev} {R : HP} (h : Holds W (sevs v E * R)) {i : Nat} (hi : i < E.length) : ∃ g off c, v = .slice (some ⟨g, off, none⟩) E.length c := by
  obtain ⟨g, off, c, e, _⟩ := h.row.get (by omega)
  exact ⟨g, off, c, e⟩
set_option maxRecDepth 100000 in
set_option maxHeartbeats 8000000 in
theorem storyParts_any (v : Value) (cut : Int) (b : List UInt8) (w : World) (hv : BytesAt w v b) (ha : I64' cut) :
    Calls Try.prog 7 #[v, .int .i64 cut] w fun e w' => e = .returned (.bool true) ∧ Below w.heap.size w w' := by
  have HV := Lib.hid hv
  obtain ⟨a, cc, rfl, d1, d2, d0, -⟩ := hv
  have d2 : cc ≤ 9223372036854775807 := by unfold maxLen at d2; omega
  have HA := Lib.hid ha; clear ha
  go_enter Try.func7, Try.ntmps7
  go_wp2_with fail
  refine (storyBegun_any _).mono ?_
  rintro e w1 ⟨rfl, hb1⟩
  have H1 := Lib.hid ((Holds.old (w := w)).below hb1)
  have Q1 := Lib.hid (Quiet.below hb1); clear hb1
  by_cases hlen : 3000 < b.length
  · go_wp2
    go_ret
    exact ⟨rfl, H1.out.toBelow' Q1.out⟩
  · obtain ⟨K, hKM, hK⟩ := uidx cut (b.length + 1) (by omega) (by omega)
    have hK' : wrap64 ((IntKind.u64.wrap cut).tmod ((b.length : Int) + 1)) = (K : Int) := hK
    clear hK
    have hKM : K ≤ b.length := by omega
    have HB := Lib.hid (HV.out.to H1.out.block)
    have HB2 := Lib.hid (HB.out.take hKM)
    have hL9 := allB_len b
    obtain ⟨L, hL⟩ : ∃ L, allB b = L := ⟨_, rfl⟩
    have HL := Lib.hid hL
    rw [hL] at hL9
    have hEl : (evs Tbl.zero L).length = L.length := evs_len _ _
    have hF := evs_parts b K
    rw [hL] at hF
    obtain ⟨q, hq⟩ : ∃ q, K / 9 = q := ⟨_, rfl⟩
    rw [hq] at hF
    have hJ3 : (K : Int) / 9 = (q : Int) := by omega
    obtain ⟨F, hFF⟩ : ∃ F, (evs Tbl.zero L).take q = F := ⟨_, rfl⟩
    rw [hFF] at hF
    have hFl : F.length = min q L.length := by rw [← hFF, List.length_take, hEl]
    obtain ⟨f, hf⟩ : ∃ f, F.length = f := ⟨_, rfl⟩
    have hmin : min (L.length : Int) (q : Int) = (f : Int) := by omega
    have hfL : f ≤ L.length := by omega
    have hfq : f ≤ q := by omega
    have hdec1 : decide (L.length < f) = false := by simpa using hfL
    have HEL := Lib.hid hEl; have HF := Lib.hid hF; have HFF := Lib.hid hFF; have HFL := Lib.hid hf
    clear hL hEl hF hFF hFl hq hf
    have hKc : (K : Int) ≤ (cc : Int) := by omega
    rcases a with _ | a
    · have hc0 : cc = 0 := d0 rfl
      subst hc0
      obtain rfl : K = 0 := by omega
      obtain rfl : b = [] := List.eq_nil_of_length_eq_zero (by omega)
      obtain rfl : f = 0 := by simp at hL9; omega
      simp only [List.length_nil] at *
      go_wp2_with fail
      refine wp_region_lex (fun _ => True) [1, 5] (by kernel_rfl) (by kernel_rfl) trivial ?_
      repeat (first | (refine LexL.none (by rfl) ?_; (try simp only [Act.put, List.setIfInBounds_toArray, List.set_cons_zero, List.set_cons_succ])) | (refine LexL.still (v := ?_) (by rfl) ?_ ?_; rotate_left; (focus (intro W hW; (try dsimp only at hW); go_simp; (try (with_reducible rfl)); done)); (try simp only [Act.put, List.setIfInBounds_toArray, List.set_cons_zero, List.set_cons_succ])))
      refine LexL.call (f := 24) (args := #[.slice none 0 0]) (w1 := w1.drew) (by rfl) (by decide) (by go_simp) ?_
      refine (of_sl _ [] _ HB.out.row.drew.bytes (by first | omega | simp) H1.out.drew).mono ?_
      rw [HL.out]
      rintro e w3 ⟨v6, rfl, q3, h3⟩
      obtain ⟨a6, c6, rfl, _, _⟩ := h3.row.shape
      rw [HEL.out] at h3 ⊢
      have H3 := Lib.hid (show Holds w3 (sevs (.slice a6 L.length c6) (evs Tbl.zero L) * old w) from h3); have Q3 := Lib.hid (Q1.out.drew.trans q3); clear h3 q3
      refine ⟨_, rfl, trivial, ?_⟩
      try simp only [Act.put, List.setIfInBounds_toArray, List.set_cons_zero, List.set_cons_succ]
      repeat (first | (refine LexL.none (by rfl) ?_; (try simp only [Act.put, List.setIfInBounds_toArray, List.set_cons_zero, List.set_cons_succ])) | (refine LexL.still (v := ?_) (by rfl) ?_ ?_; rotate_left; (focus (intro W hW; (try dsimp only at hW); go_simp; (try (with_reducible rfl)); done)); (try simp only [Act.put, List.setIfInBounds_toArray, List.set_cons_zero, List.set_cons_succ])))
      refine LexL.call (f := 24) (args := #[.slice none 0 0]) (w1 := w3) (by rfl) (by decide) (by go_simp) ?_
      refine (of_sl _ ([].take 0) _ ((HV.out.old H3.out).take hKM) (by rw [List.length_take]; first | omega | simp) H3.out).mono ?_
      rw [HF.out]
      rintro e w4 ⟨v7, rfl, q4, h4⟩
      obtain ⟨a7, c7, rfl, _, _⟩ := h4.row.shape
      rw [HFL.out] at h4 ⊢
      have H4 := Lib.hid (show Holds w4 (sevs (.slice a7 0 c7) F * (sevs (.slice a6 L.length c6) (evs Tbl.zero L) * old w)) from h4); have Q4 := Lib.hid (Q3.out.trans q4); clear h4 q4
      refine ⟨_, rfl, trivial, ?_⟩
      try simp only [Act.put, List.setIfInBounds_toArray, List.set_cons_zero, List.set_cons_succ]
      repeat (first | (refine LexL.none (by rfl) ?_; (try simp only [Act.put, List.setIfInBounds_toArray, List.set_cons_zero, List.set_cons_succ])) | (refine LexL.still (v := ?_) (by rfl) ?_ ?_; rotate_left; (focus (intro W hW; (try dsimp only at hW); go_simp; (try (with_reducible rfl)); done)); (try simp only [Act.put, List.setIfInBounds_toArray, List.set_cons_zero, List.set_cons_succ])))
      refine LexL.done ?_
      go_wp2_with fail
      go_loopw [8] (fun i wr => i = .int .i64 0 ∧ wr = w4) (fun i _ => 0)
      case atStart => exact ⟨rfl, rfl⟩
      case round =>
        obtain ⟨rfl, rfl⟩ := hrel
        go_wp2
        go_ret
        exact ⟨rfl, H4.out.right.right.toBelow' Q4.out⟩
    · go_wp2_with fail
      refine wp_region_lex (fun _ => True) [1, 5] (by kernel_rfl) (by kernel_rfl) trivial ?_
      repeat (first | (refine LexL.none (by rfl) ?_; (try simp only [Act.put, List.setIfInBounds_toArray, List.set_cons_zero, List.set_cons_succ])) | (refine LexL.still (v := ?_) (by rfl) ?_ ?_; rotate_left; (focus (intro W hW; (try dsimp only at hW); go_simp; (try (with_reducible rfl)); done)); (try simp only [Act.put, List.setIfInBounds_toArray, List.set_cons_zero, List.set_cons_succ])))
      refine LexL.call (f := 24) (args := #[.slice (some a) b.length cc]) (w1 := w1.drew) (by rfl) (by decide) (by go_simp) ?_
      refine (of_sl _ b _ HB.out.row.drew.bytes (by first | omega | simp) H1.out.drew).mono ?_
      rw [HL.out]
      rintro e w3 ⟨v6, rfl, q3, h3⟩
      obtain ⟨a6, c6, rfl, _, _⟩ := h3.row.shape
      rw [HEL.out] at h3 ⊢
      have H3 := Lib.hid (show Holds w3 (sevs (.slice a6 L.length c6) (evs Tbl.zero L) * old w) from h3); have Q3 := Lib.hid (Q1.out.drew.trans q3); clear h3 q3
      refine ⟨_, rfl, trivial, ?_⟩
      try simp only [Act.put, List.setIfInBounds_toArray, List.set_cons_zero, List.set_cons_succ]
      repeat (first | (refine LexL.none (by rfl) ?_; (try simp only [Act.put, List.setIfInBounds_toArray, List.set_cons_zero, List.set_cons_succ])) | (refine LexL.still (v := ?_) (by rfl) ?_ ?_; rotate_left; (focus (intro W hW; (try dsimp only at hW); go_simp; (try (with_reducible rfl)); done)); (try simp only [Act.put, List.setIfInBounds_toArray, List.set_cons_zero, List.set_cons_succ])))
      refine LexL.call (f := 24) (args := #[.slice (some a) K cc]) (w1 := w3) (by rfl) (by decide) (by go_simp) ?_
      refine (of_sl _ (b.take K) _ ((HV.out.old H3.out).take hKM) (by rw [List.length_take]; first | omega | simp) H3.out).mono ?_
      rw [HF.out]
      rintro e w4 ⟨v7, rfl, q4, h4⟩
      obtain ⟨a7, c7, rfl, _, _⟩ := h4.row.shape
      rw [HFL.out] at h4 ⊢
      have H4 := Lib.hid (show Holds w4 (sevs (.slice a7 f c7) F * (sevs (.slice a6 L.length c6) (evs Tbl.zero L) * old w)) from h4); have Q4 := Lib.hid (Q3.out.trans q4); clear h4 q4
      refine ⟨_, rfl, trivial, ?_⟩
      try simp only [Act.put, List.setIfInBounds_toArray, List.set_cons_zero, List.set_cons_succ]
      repeat (first | (refine LexL.none (by rfl) ?_; (try simp only [Act.put, List.setIfInBounds_toArray, List.set_cons_zero, List.set_cons_succ])) | (refine LexL.still (v := ?_) (by rfl) ?_ ?_; rotate_left; (focus (intro W hW; (try dsimp only at hW); go_simp; (try (with_reducible rfl)); done)); (try simp only [Act.put, List.setIfInBounds_toArray, List.set_cons_zero, List.set_cons_succ])))
      refine LexL.done ?_
      go_wp2_with fail
      try simp only [hK', hdec1]
      go_loopw [8] (fun i wr => ∃ k : Nat, k ≤ f ∧ i = .int .i64 k ∧ Holds wr (sevs (.slice a7 f c7) F * (sevs (.slice a6 L.length c6) (evs Tbl.zero L) * old w)) ∧ Quiet w wr) (fun i _ => f - (intOf i).toNat)
      case atStart => exact ⟨0, by omega, rfl, H4.out, Q4.out⟩
      case round =>
        obtain ⟨k, hk, rfl, hh, hq⟩ := hrel
        have HH := Lib.hid hh; have HQ := Lib.hid hq; clear hh hq
        by_cases hlt : k < f
        · obtain ⟨r, hr⟩ : ∃ r, L[k]? = some r := ⟨_, List.getElem?_eq_getElem (by omega)⟩
          have hev := evs_get Tbl.zero L k r hr
          have hevF : F[k]? = some (evOf (runL Tbl.zero (L.take k)) r) := by rw [← HFF.out, List.getElem?_take, if_pos (by omega)]; exact hev
          have hrun := runL_step hr Tbl.zero
          obtain ⟨T, hT⟩ : ∃ T, runL Tbl.zero (L.take k) = T := ⟨_, rfl⟩
          rw [hT] at hev hevF hrun
          obtain ⟨ep2, ⟨kd, nw, jb, tr, wk, tm⟩⟩ := r
          unfold evOf at hev hevF
          dsimp only at hev hevF hrun
          obtain ⟨⟨T', ⟨a0, a1, a2⟩⟩, hX⟩ : ∃ X, T.did ⟨kd, nw, jb, tr, wk, tm⟩ = X := ⟨_, rfl⟩
          rw [hX] at hrun hev hevF
          dsimp only at hrun hev hevF
          obtain ⟨⟨s1, s2, s3, s4⟩, hJ⟩ : ∃ J, (if a0 = 0 then T'.job (if kd = 2 then a1 else jb) else Job.zero) = J := ⟨_, rfl⟩
          rw [hJ] at hev hevF
          obtain ⟨g7, o7, c7', e7⟩ := sev_shape HH.out (i := k) (by rw [HFL.out]; exact hlt)
          obtain ⟨g6, o6, c6', e6⟩ := sev_shape HH.out.two (i := k) (by rw [HEL.out]; omega)
          simp only [Value.slice.injEq] at e6 e7
          obtain ⟨rfl, hx6, rfl⟩ := e6
          obtain ⟨rfl, hx7, rfl⟩ := e7
          clear hx6 hx7
          have HEV := Lib.hid hev; have HEF := Lib.hid hevF; have HRUN := Lib.hid hrun; have HJ := Lib.hid hJ
          have HCE := Lib.hid (And.intro (sev_cells ep2 kd nw jb tr wk tm a0 a1 a2 s1 s2 s3 s4 HH.out.two.drew hev) (sev_cells ep2 kd nw jb tr wk tm a0 a1 a2 s1 s2 s3 s4 HH.out.drew hevF))
          clear hr hev hevF hrun hJ hX hT
          have hk2 : (k : Int) < (f : Int) := by omega
          have hk3 : (k : Int) < (L.length : Int) := by omega
          have hk3n : k < L.length := by omega
          have hk4 : IntKind.i64.wrap ((k : Int) + 1) = (k : Int) + 1 := by rw [IntKind.wrap_i64]; omega
          go_wp2_with fail
          refine wp_region_lex (fun W => (W.cell? ⟨g6, o6 + k * 14, none⟩ = some (.int .i64 ep2) ∧ W.cell? ⟨g6, o6 + k * 14 + 1, none⟩ = some (.int .i64 kd) ∧ W.cell? ⟨g6, o6 + k * 14 + 2, none⟩ = some (.int .i64 nw) ∧ W.cell? ⟨g6, o6 + k * 14 + 3, none⟩ = some (.int .i64 jb) ∧ W.cell? ⟨g6, o6 + k * 14 + 4, none⟩ = some (.int .i64 tr) ∧ W.cell? ⟨g6, o6 + k * 14 + 5, none⟩ = some (.int .i64 wk) ∧ W.cell? ⟨g6, o6 + k * 14 + 6, none⟩ = some (.int .i64 tm) ∧ W.cell? ⟨g6, o6 + k * 14 + 7, none⟩ = some (.int .i64 a0) ∧ W.cell? ⟨g6, o6 + k * 14 + 8, none⟩ = some (.int .i64 a1) ∧ W.cell? ⟨g6, o6 + k * 14 + 9, none⟩ = some (.int .i64 a2) ∧ W.cell? ⟨g6, o6 + k * 14 + 10, none⟩ = some (.int .i64 s1) ∧ W.cell? ⟨g6, o6 + k * 14 + 11, none⟩ = some (.int .i64 s2) ∧ W.cell? ⟨g6, o6 + k * 14 + 12, none⟩ = some (.int .i64 s3) ∧ W.cell? ⟨g6, o6 + k * 14 + 13, none⟩ = some (.int .i64 s4)) ∧ (W.cell? ⟨g7, o7 + k * 14, none⟩ = some (.int .i64 ep2) ∧ W.cell? ⟨g7, o7 + k * 14 + 1, none⟩ = some (.int .i64 kd) ∧ W.cell? ⟨g7, o7 + k * 14 + 2, none⟩ = some (.int .i64 nw) ∧ W.cell? ⟨g7, o7 + k * 14 + 3, none⟩ = some (.int .i64 jb) ∧ W.cell? ⟨g7, o7 + k * 14 + 4, none⟩ = some (.int .i64 tr) ∧ W.cell? ⟨g7, o7 + k * 14 + 5, none⟩ = some (.int .i64 wk) ∧ W.cell? ⟨g7, o7 + k * 14 + 6, none⟩ = some (.int .i64 tm) ∧ W.cell? ⟨g7, o7 + k * 14 + 7, none⟩ = some (.int .i64 a0) ∧ W.cell? ⟨g7, o7 + k * 14 + 8, none⟩ = some (.int .i64 a1) ∧ W.cell? ⟨g7, o7 + k * 14 + 9, none⟩ = some (.int .i64 a2) ∧ W.cell? ⟨g7, o7 + k * 14 + 10, none⟩ = some (.int .i64 s1) ∧ W.cell? ⟨g7, o7 + k * 14 + 11, none⟩ = some (.int .i64 s2) ∧ W.cell? ⟨g7, o7 + k * 14 + 12, none⟩ = some (.int .i64 s3) ∧ W.cell? ⟨g7, o7 + k * 14 + 13, none⟩ = some (.int .i64 s4))) [] (by kernel_rfl) (by kernel_rfl) HCE.out ?_
          repeat (first | (refine LexL.none (by rfl) ?_; (try simp only [Act.put, List.setIfInBounds_toArray, List.set_cons_zero, List.set_cons_succ])) | (refine LexL.still (v := ?_) (by rfl) ?_ ?_; rotate_left; (focus (intro W hW; (try dsimp only at hW); go_simp; (try (with_reducible rfl)); done)); (try simp only [Act.put, List.setIfInBounds_toArray, List.set_cons_zero, List.set_cons_succ])))
          refine LexL.done ?_
          have hst := stable_sl _ b (k + 1) wr.drew (HV.out.old (HH.out.drew.eq (HP.assoc _ _ _).symm)) (by omega) (by rw [HL.out]; omega) HH.out.drew
          rw [show ((k + 1 : Nat) : Int) = (k : Int) + 1 from by omega, HL.out, show behind (L.take (k + 1)) = T' from HRUN.out] at hst
          have HST := Lib.hid hst
          clear hst
          go_wp2_with fail
          refine HST.out.mono ?_
          rintro e w5 ⟨bt, rfl, q5, h5⟩
          have H5 := Lib.hid (show Holds w5 (tab bt T' * (sevs (.slice (some ⟨g7, o7, none⟩) f c7) F * (sevs (.slice (some ⟨g6, o6, none⟩) L.length c6) (evs Tbl.zero L) * old w))) from h5)
          have Q5 := Lib.hid (HQ.out.drew.trans q5)
          have HC5 := Lib.hid (sev_cells ep2 kd nw jb tr wk tm a0 a1 a2 s1 s2 s3 s4 h5.three HEV.out)
          clear h5 q5 HCE
          obtain ⟨z0, z1, z2, z3, z4, z5, z6, z7, z8, z9, z10, z11, z12, z13⟩ := HC5.out
          by_cases hz : a0 = 0
          · subst hz
            have hj2 := HJ.out
            rw [if_pos rfl] at hj2
            by_cases h2 : kd = 2
            · subst h2
              rw [if_pos rfl] at hj2
              go_wp2_with fail
              refine wp_region_lex (fun W => W.cell? ⟨g6, o6 + k * 14, none⟩ = some (.int .i64 ep2) ∧ W.cell? ⟨g6, o6 + k * 14 + 1, none⟩ = some (.int .i64 2) ∧ W.cell? ⟨g6, o6 + k * 14 + 2, none⟩ = some (.int .i64 nw) ∧ W.cell? ⟨g6, o6 + k * 14 + 3, none⟩ = some (.int .i64 jb) ∧ W.cell? ⟨g6, o6 + k * 14 + 4, none⟩ = some (.int .i64 tr) ∧ W.cell? ⟨g6, o6 + k * 14 + 5, none⟩ = some (.int .i64 wk) ∧ W.cell? ⟨g6, o6 + k * 14 + 6, none⟩ = some (.int .i64 tm) ∧ W.cell? ⟨g6, o6 + k * 14 + 7, none⟩ = some (.int .i64 0) ∧ W.cell? ⟨g6, o6 + k * 14 + 8, none⟩ = some (.int .i64 a1) ∧ W.cell? ⟨g6, o6 + k * 14 + 9, none⟩ = some (.int .i64 a2) ∧ W.cell? ⟨g6, o6 + k * 14 + 10, none⟩ = some (.int .i64 s1) ∧ W.cell? ⟨g6, o6 + k * 14 + 11, none⟩ = some (.int .i64 s2) ∧ W.cell? ⟨g6, o6 + k * 14 + 12, none⟩ = some (.int .i64 s3) ∧ W.cell? ⟨g6, o6 + k * 14 + 13, none⟩ = some (.int .i64 s4)) [15] (by kernel_rfl) (by kernel_rfl) HC5.out ?_
              repeat (first | (refine LexL.none (by rfl) ?_; (try simp only [Act.put, List.setIfInBounds_toArray, List.set_cons_zero, List.set_cons_succ])) | (refine LexL.still (v := ?_) (by rfl) ?_ ?_; rotate_left; (focus (intro W hW; (try dsimp only at hW); go_simp; (try (with_reducible rfl)); done)); (try simp only [Act.put, List.setIfInBounds_toArray, List.set_cons_zero, List.set_cons_succ])))
              refine LexL.call (f := 18) (args := #[.pointer (some ⟨bt, 0, none⟩), .int .i64 a1]) (w1 := w5.drew) (by rfl) (by decide) (by go_simp) ?_
              refine (job_sl bt T' a1 _ H5.out.drew).mono ?_
              rw [hj2]
              simp only [Job.val, jcells]
              rintro e w6 ⟨rfl, hb6⟩
              have H6 := Lib.hid (H5.out.drew.below hb6); have Q6 := Lib.hid (Q5.out.drew.trans (Quiet.below hb6))
              refine ⟨_, rfl, sev_cells ep2 2 nw jb tr wk tm 0 a1 a2 s1 s2 s3 s4 H6.out.three HEV.out, ?_⟩
              clear hb6
              try simp only [Act.put, List.setIfInBounds_toArray, List.set_cons_zero, List.set_cons_succ]
              repeat (first | (refine LexL.none (by rfl) ?_; (try simp only [Act.put, List.setIfInBounds_toArray, List.set_cons_zero, List.set_cons_succ])) | (refine LexL.still (v := ?_) (by rfl) ?_ ?_; rotate_left; (focus (intro W hW; (try dsimp only at hW); go_simp; (try (with_reducible rfl)); done)); (try simp only [Act.put, List.setIfInBounds_toArray, List.set_cons_zero, List.set_cons_succ])))
              refine LexL.done ?_
              go_wp2_with fail
              go_roundw
              case rel => exact ⟨k + 1, by omega, by go_num, H6.out.right, Q6.out⟩
              case measure => simp [intOf]; omega
            · have hkb : (kd == 2) = false := by simpa using h2
              rw [if_neg h2] at hj2
              go_wp2_with fail
              refine wp_region_lex (fun W => W.cell? ⟨g6, o6 + k * 14, none⟩ = some (.int .i64 ep2) ∧ W.cell? ⟨g6, o6 + k * 14 + 1, none⟩ = some (.int .i64 kd) ∧ W.cell? ⟨g6, o6 + k * 14 + 2, none⟩ = some (.int .i64 nw) ∧ W.cell? ⟨g6, o6 + k * 14 + 3, none⟩ = some (.int .i64 jb) ∧ W.cell? ⟨g6, o6 + k * 14 + 4, none⟩ = some (.int .i64 tr) ∧ W.cell? ⟨g6, o6 + k * 14 + 5, none⟩ = some (.int .i64 wk) ∧ W.cell? ⟨g6, o6 + k * 14 + 6, none⟩ = some (.int .i64 tm) ∧ W.cell? ⟨g6, o6 + k * 14 + 7, none⟩ = some (.int .i64 0) ∧ W.cell? ⟨g6, o6 + k * 14 + 8, none⟩ = some (.int .i64 a1) ∧ W.cell? ⟨g6, o6 + k * 14 + 9, none⟩ = some (.int .i64 a2) ∧ W.cell? ⟨g6, o6 + k * 14 + 10, none⟩ = some (.int .i64 s1) ∧ W.cell? ⟨g6, o6 + k * 14 + 11, none⟩ = some (.int .i64 s2) ∧ W.cell? ⟨g6, o6 + k * 14 + 12, none⟩ = some (.int .i64 s3) ∧ W.cell? ⟨g6, o6 + k * 14 + 13, none⟩ = some (.int .i64 s4)) [15] (by kernel_rfl) (by kernel_rfl) HC5.out ?_
              repeat (first | (refine LexL.none (by rfl) ?_; (try simp only [Act.put, List.setIfInBounds_toArray, List.set_cons_zero, List.set_cons_succ])) | (refine LexL.still (v := ?_) (by rfl) ?_ ?_; rotate_left; (focus (intro W hW; (try dsimp only at hW); go_simp; (try (with_reducible rfl)); done)); (try simp only [Act.put, List.setIfInBounds_toArray, List.set_cons_zero, List.set_cons_succ])))
              refine LexL.call (f := 18) (args := #[.pointer (some ⟨bt, 0, none⟩), .int .i64 jb]) (w1 := w5.drew) (by rfl) (by decide) (by go_simp) ?_
              refine (job_sl bt T' jb _ H5.out.drew).mono ?_
              rw [hj2]
              simp only [Job.val, jcells]
              rintro e w6 ⟨rfl, hb6⟩
              have H6 := Lib.hid (H5.out.drew.below hb6); have Q6 := Lib.hid (Q5.out.drew.trans (Quiet.below hb6))
              refine ⟨_, rfl, sev_cells ep2 kd nw jb tr wk tm 0 a1 a2 s1 s2 s3 s4 H6.out.three HEV.out, ?_⟩
              clear hb6
              try simp only [Act.put, List.setIfInBounds_toArray, List.set_cons_zero, List.set_cons_succ]
              repeat (first | (refine LexL.none (by rfl) ?_; (try simp only [Act.put, List.setIfInBounds_toArray, List.set_cons_zero, List.set_cons_succ])) | (refine LexL.still (v := ?_) (by rfl) ?_ ?_; rotate_left; (focus (intro W hW; (try dsimp only at hW); go_simp; (try (with_reducible rfl)); done)); (try simp only [Act.put, List.setIfInBounds_toArray, List.set_cons_zero, List.set_cons_succ])))
              refine LexL.done ?_
              go_wp2_with fail
              go_roundw
              case rel => exact ⟨k + 1, by omega, by go_num, H6.out.right, Q6.out⟩
              case measure => simp [intOf]; omega
          · have hzb : (a0 == 0) = false := by simpa using hz
            have hzc : (a0 != 0) = true := by simpa using hz
            have hj2 := HJ.out
            rw [if_neg hz] at hj2
            simp only [Job.zero, Job.mk.injEq] at hj2
            obtain ⟨rfl, rfl, rfl, rfl⟩ := hj2
            by_cases h2 : kd = 2
            · subst h2
              go_wp2_with fail
              refine wp_region_lex (fun W => W.cell? ⟨g6, o6 + k * 14, none⟩ = some (.int .i64 ep2) ∧ W.cell? ⟨g6, o6 + k * 14 + 1, none⟩ = some (.int .i64 2) ∧ W.cell? ⟨g6, o6 + k * 14 + 2, none⟩ = some (.int .i64 nw) ∧ W.cell? ⟨g6, o6 + k * 14 + 3, none⟩ = some (.int .i64 jb) ∧ W.cell? ⟨g6, o6 + k * 14 + 4, none⟩ = some (.int .i64 tr) ∧ W.cell? ⟨g6, o6 + k * 14 + 5, none⟩ = some (.int .i64 wk) ∧ W.cell? ⟨g6, o6 + k * 14 + 6, none⟩ = some (.int .i64 tm) ∧ W.cell? ⟨g6, o6 + k * 14 + 7, none⟩ = some (.int .i64 a0) ∧ W.cell? ⟨g6, o6 + k * 14 + 8, none⟩ = some (.int .i64 a1) ∧ W.cell? ⟨g6, o6 + k * 14 + 9, none⟩ = some (.int .i64 a2) ∧ W.cell? ⟨g6, o6 + k * 14 + 10, none⟩ = some (.int .i64 0) ∧ W.cell? ⟨g6, o6 + k * 14 + 11, none⟩ = some (.int .i64 0) ∧ W.cell? ⟨g6, o6 + k * 14 + 12, none⟩ = some (.int .i64 0) ∧ W.cell? ⟨g6, o6 + k * 14 + 13, none⟩ = some (.int .i64 0)) [] (by kernel_rfl) (by kernel_rfl) HC5.out ?_
              repeat (first | (refine LexL.none (by rfl) ?_; (try simp only [Act.put, List.setIfInBounds_toArray, List.set_cons_zero, List.set_cons_succ])) | (refine LexL.still (v := ?_) (by rfl) ?_ ?_; rotate_left; (focus (intro W hW; (try dsimp only at hW); go_simp; (try (with_reducible rfl)); done)); (try simp only [Act.put, List.setIfInBounds_toArray, List.set_cons_zero, List.set_cons_succ])))
              refine LexL.done ?_
              go_wp2_with fail
              go_roundw
              case rel => exact ⟨k + 1, by omega, by go_num, H5.out.drew.right, Q5.out.drew⟩
              case measure => simp [intOf]; omega
            · have hkb : (kd == 2) = false := by simpa using h2
              go_wp2_with fail
              refine wp_region_lex (fun W => W.cell? ⟨g6, o6 + k * 14, none⟩ = some (.int .i64 ep2) ∧ W.cell? ⟨g6, o6 + k * 14 + 1, none⟩ = some (.int .i64 kd) ∧ W.cell? ⟨g6, o6 + k * 14 + 2, none⟩ = some (.int .i64 nw) ∧ W.cell? ⟨g6, o6 + k * 14 + 3, none⟩ = some (.int .i64 jb) ∧ W.cell? ⟨g6, o6 + k * 14 + 4, none⟩ = some (.int .i64 tr) ∧ W.cell? ⟨g6, o6 + k * 14 + 5, none⟩ = some (.int .i64 wk) ∧ W.cell? ⟨g6, o6 + k * 14 + 6, none⟩ = some (.int .i64 tm) ∧ W.cell? ⟨g6, o6 + k * 14 + 7, none⟩ = some (.int .i64 a0) ∧ W.cell? ⟨g6, o6 + k * 14 + 8, none⟩ = some (.int .i64 a1) ∧ W.cell? ⟨g6, o6 + k * 14 + 9, none⟩ = some (.int .i64 a2) ∧ W.cell? ⟨g6, o6 + k * 14 + 10, none⟩ = some (.int .i64 0) ∧ W.cell? ⟨g6, o6 + k * 14 + 11, none⟩ = some (.int .i64 0) ∧ W.cell? ⟨g6, o6 + k * 14 + 12, none⟩ = some (.int .i64 0) ∧ W.cell? ⟨g6, o6 + k * 14 + 13, none⟩ = some (.int .i64 0)) [] (by kernel_rfl) (by kernel_rfl) HC5.out ?_
              repeat (first | (refine LexL.none (by rfl) ?_; (try simp only [Act.put, List.setIfInBounds_toArray, List.set_cons_zero, List.set_cons_succ])) | (refine LexL.still (v := ?_) (by rfl) ?_ ?_; rotate_left; (focus (intro W hW; (try dsimp only at hW); go_simp; (try (with_reducible rfl)); done)); (try simp only [Act.put, List.setIfInBounds_toArray, List.set_cons_zero, List.set_cons_succ])))
              refine LexL.done ?_
              go_wp2_with fail
              go_roundw
              case rel => exact ⟨k + 1, by omega, by go_num, H5.out.drew.right, Q5.out.drew⟩
              case measure => simp [intOf]; omega
        · obtain rfl : k = f := by omega
          go_wp2
          go_ret
          exact ⟨rfl, HH.out.right.right.toBelow' HQ.out⟩
end Go.Proofs.Ytfihmpkkpgmdhab
