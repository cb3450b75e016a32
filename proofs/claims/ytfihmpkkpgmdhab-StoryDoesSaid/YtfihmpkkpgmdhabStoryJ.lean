/-
  StoryDoes, walked: the story does as the document says.
-/
import Derived.Test.YtfihmpkkpgmdhabStoryI
import Derived.Test.YtfihmpkkpgmdhabStoryE
import Derived.Test.YtfihmpkkpgmdhabSameI
import Derived.Test.YtfihmpkkpgmdhabSame2
import Derived.Test.YtfihmpkkpgmdhabBehind
namespace Go.Proofs.Ytfihmpkkpgmdhab
set_option linter.unusedSimpArgs false
set_option linter.unusedVariables false
set_option linter.unnecessarySimpa false
open Go.RowKit
theorem recs_prefix {w : World} {a : Option Addr} {n c : Nat} {l : List Rec} (h : RowAt w (.slice a n c) l.length (rvs l)) {q : Nat} (hq : q ≤ l.length) : RowAt w (.slice a q c) (l.take q).length (rvs (l.take q)) := by
  obtain ⟨a', c', e, h1, h2, h3, h4⟩ := h
  simp only [Value.slice.injEq] at e
  obtain ⟨rfl, _, rfl⟩ := e
  have hl : (l.take q).length = q := by simp; omega
  refine ⟨a, c, by rw [hl], by omega, h2, h3, fun hne => ?_⟩
  obtain ⟨g, off, rfl, h5⟩ := h4 (by omega)
  refine ⟨g, off, rfl, fun j u hu => h5 j u ?_⟩
  have e : rvs l = rvs (l.take q) ++ rvs (l.drop q) := by rw [← rvs_append, List.take_append_drop]
  rw [e, List.getElem?_append_left (List.getElem?_eq_some_iff.1 hu).1]
  exact hu
theorem rev_cells {W : World} {g off n c i : Nat} {E : List Ev} {R : HP} (ep2 kd nw jb tr wk tm a0 a1 a2 s1 s2 s3 s4 : Int) (h : Holds W (revs (.slice (some ⟨g, off, none⟩) n c) E * R)) (hi : E[i]? = some ⟨⟨ep2, ⟨kd, nw, jb, tr, wk, tm⟩⟩, ⟨a0, a1, a2⟩, ⟨s1, s2, s3, s4⟩⟩) : W.cell? ⟨g, off + i * 14, none⟩ = some (.int .i64 ep2) ∧ W.cell? ⟨g, off + i * 14 + 1, none⟩ = some (.int .i64 kd) ∧ W.cell? ⟨g, off + i * 14 + 2, none⟩ = some (.int .i64 nw) ∧ W.cell? ⟨g, off + i * 14 + 3, none⟩ = some (.int .i64 jb) ∧ W.cell? ⟨g, off + i * 14 + 4, none⟩ = some (.int .i64 tr) ∧ W.cell? ⟨g, off + i * 14 + 5, none⟩ = some (.int .i64 wk) ∧ W.cell? ⟨g, off + i * 14 + 6, none⟩ = some (.int .i64 tm) ∧ W.cell? ⟨g, off + i * 14 + 7, none⟩ = some (.int .i64 a0) ∧ W.cell? ⟨g, off + i * 14 + 8, none⟩ = some (.int .i64 a1) ∧ W.cell? ⟨g, off + i * 14 + 9, none⟩ = some (.int .i64 a2) ∧ W.cell? ⟨g, off + i * 14 + 10, none⟩ = some (.int .i64 s1) ∧ W.cell? ⟨g, off + i * 14 + 11, none⟩ = some (.int .i64 s2) ∧ W.cell? ⟨g, off + i * 14 + 12, none⟩ = some (.int .i64 s3) ∧ W.cell? ⟨g, off + i * 14 + 13, none⟩ = some (.int .i64 s4) := by
  have hn : E.length ≠ 0 := by intro e; have := (List.getElem?_eq_some_iff.1 hi).1; omega
  obtain ⟨g', off', c', e, _, _, hc⟩ := h.row.get hn
  simp only [Value.slice.injEq, Option.some.injEq, Addr.mk.injEq, and_true] at e
  obtain ⟨⟨rfl, rfl⟩, _, rfl⟩ := e
  exact ⟨evvs_cell0 hc hi, evvs_cell hc hi 1 _ (by omega) rfl, evvs_cell hc hi 2 _ (by omega) rfl, evvs_cell hc hi 3 _ (by omega) rfl, evvs_cell hc hi 4 _ (by omega) rfl, evvs_cell hc hi 5 _ (by omega) rfl, evvs_cell hc hi 6 _ (by omega) rfl, evvs_cell hc hi 7 _ (by omega) rfl, evvs_cell hc hi 8 _ (by omega) rfl, evvs_cell hc hi 9 _ (by omega) rfl, evvs_cell hc hi 10 _ (by omega) rfl, evvs_cell hc hi 11 _ (by omega) rfl, evvs_cell hc hi 12 _ (by omega) rfl, evvs_cell hc hi 13 _ (by omega) rfl⟩
theorem rev_shape {W : World} {v : Value} {E : List Ev} {R : HP} (h : Holds W (revs v E * R)) {i : Nat} (hi : i < E.length) : ∃ g off c, v = .slice (some ⟨g, off, none⟩) E.length c := by
  obtain ⟨g, off, c, e, _⟩ := h.row.get (by omega)
  exact ⟨g, off, c, e⟩
theorem hold_cells {W : World} {g off n c : Nat} {l : List (Int × Int)} {R : HP} (h : Holds W (hold (.slice (some ⟨g, off, none⟩) n c) l * R)) {i : Nat} {a b : Int} (hi : l[i]? = some (a, b)) : W.cell? ⟨g, off + i * 2, none⟩ = some (.int .i64 a) ∧ W.cell? ⟨g, off + i * 2 + 1, none⟩ = some (.int .i64 b) := by
  have hn : l.length ≠ 0 := by intro e; have := (List.getElem?_eq_some_iff.1 hi).1; omega
  obtain ⟨g', off', c', e, _, _, hc⟩ := h.row.get hn
  simp only [Value.slice.injEq, Option.some.injEq, Addr.mk.injEq, and_true] at e
  obtain ⟨⟨rfl, rfl⟩, _, rfl⟩ := e
  obtain ⟨h1, h2⟩ := hvs_get l i (a, b) hi
  exact ⟨hc _ _ h1, by rw [Nat.add_assoc]; exact hc _ _ h2⟩
theorem hvs_flat (l : List (Int × Int)) : hvs l = ivs (l.flatMap fun p => [p.1, p.2]) := by
  induction l with
  | nil => rfl
  | cons p l ih =>
    have e : hvs (p :: l) = [.int .i64 p.1, .int .i64 p.2] ++ hvs l := by simp [hvs]
    rw [e, ih]
    simp [ivs]
theorem flat_length (l : List (Int × Int)) : (l.flatMap fun p => [p.1, p.2]).length = 2 * l.length := by
  induction l with
  | nil => rfl
  | cons p l ih => simp only [List.flatMap_cons, List.length_append, List.length_cons, List.length_nil] at *; omega
set_option maxRecDepth 100000 in
set_option maxHeartbeats 16000000 in
theorem storyDoes_any (v0 : Value) (n job : Int) (v3 : Value) (B : List UInt8) (E : List Ev) (w : World) (hb : BytesAt w v0 B) (hn : I64' n) (hj : I64' job) (hE : RowAt w v3 E.length (evvs E)) :
    Calls Try.prog 8 #[v0, .int .i64 n, .int .i64 job, v3] w fun e w' => e = .returned (.bool true) ∧ Below w.heap.size w w' := by
  obtain ⟨va, vc, rfl, -, -⟩ := hb.shape
  obtain ⟨ea, ec, rfl, -, -⟩ := hE.shape
  have HBY := Lib.hid hb; have HE := Lib.hid hE; clear hb hE hn hj
  obtain ⟨i0, hi, hz0, hz1, hz2⟩ := info_parts Try.infoI64
  have HI := Lib.hid hi; have HZ0 := Lib.hid hz0; have HZ1 := Lib.hid hz1; have HZ2 := Lib.hid hz2
  clear hi hz0 hz1 hz2
  go_enter Try.func8, Try.ntmps8
  go_wp2_with fail
  refine (storyBegun_any _).mono ?_
  rintro e w1 ⟨rfl, hb1⟩
  have H1 := Lib.hid ((Holds.old (w := w)).below hb1)
  have Q1 := Lib.hid (Quiet.below hb1); clear hb1
  by_cases hb3000 : 3000 < B.length
  · go_wp2
    go_ret
    exact ⟨rfl, H1.out.toBelow' Q1.out⟩
  · by_cases he200 : 200 < E.length
    · go_wp2
      go_ret
      exact ⟨rfl, H1.out.toBelow' Q1.out⟩
    · obtain ⟨M, hM⟩ : ∃ M, allB B = M := ⟨_, rfl⟩
      have hM9 := allB_len B
      rw [hM] at hM9
      have hMl : M.length ≤ 400 := by omega
      obtain ⟨ES, hES⟩ : ∃ ES, evs Tbl.zero M = ES := ⟨_, rfl⟩
      have hEl : ES.length = M.length := by rw [← hES, evs_len]
      have HEL := Lib.hid hEl; have HM := Lib.hid hM; have HES := Lib.hid hES
      clear hM hES hM9 hEl
      have hElen : ES.length ≤ 400 := by rw [HEL.out]; exact hMl
      go_wp2_with fail
      refine (of_sl _ B _ (HBY.out.to H1.out.block) (by omega) H1.out).mono ?_
      rw [HM.out, HES.out]
      rintro e w2 ⟨v2, rfl, q2, h2⟩
      obtain ⟨a2_, c2_, rfl, _, _⟩ := h2.row.shape
      have H2 := Lib.hid (show Holds w2 (sevs (.slice a2_ ES.length c2_) ES * old w) from h2); have Q2 := Lib.hid (Q1.out.trans q2); clear h2 q2
      go_wp2_with fail
      refine (eventsOf_sl _ B _ (HBY.out.old H2.out) (by omega) H2.out).mono ?_
      rw [HM.out, HES.out]
      rintro e w3 ⟨v4, rfl, q3, h3⟩
      obtain ⟨a3_, c3_, rfl, _, _⟩ := h3.row.shape
      have H3 := Lib.hid (show Holds w3 (revs (.slice a3_ ES.length c3_) ES * (sevs (.slice a2_ ES.length c2_) ES * old w)) from h3); have Q3 := Lib.hid (Q2.out.trans q3); clear h3 q3 H2 Q2
      go_wp2_with fail
      go_loopw [11] (fun i wr => ∃ k : Nat, k ≤ ES.length ∧ i = .int .i64 k ∧ Holds wr (revs (.slice a3_ ES.length c3_) ES * (sevs (.slice a2_ ES.length c2_) ES * old w)) ∧ Quiet w wr) (fun i _ => ES.length - (intOf i).toNat)
      case atStart => exact ⟨0, by omega, rfl, H3.out, Q3.out⟩
      case round =>
        obtain ⟨k, hk, rfl, hh, hq⟩ := hrel
        obtain ⟨wo, rfl⟩ : ∃ wo : World, wo = wr := ⟨_, rfl⟩
        have HH := Lib.hid hh; have HQ := Lib.hid hq; clear hh hq H3 Q3
        by_cases hlt : k < ES.length
        · obtain ⟨r, hr⟩ : ∃ r, ES[k]? = some r := ⟨_, List.getElem?_eq_getElem hlt⟩
          obtain ⟨g3, o3, c3', e, _⟩ := HH.out.row.get (by omega)
          simp only [Value.slice.injEq] at e
          obtain ⟨rfl, _, rfl⟩ := e
          obtain ⟨g2, o2, c2', e, _⟩ := HH.out.two.row.get (by omega)
          simp only [Value.slice.injEq] at e
          obtain ⟨rfl, _, rfl⟩ := e
          obtain ⟨⟨ep2, ⟨kd, nw, jb, tr, wk, tm⟩⟩, ⟨a0, a1, a2⟩, ⟨s1, s2, s3, s4⟩⟩ := r
          have S3 := Lib.hid (rev_cells ep2 kd nw jb tr wk tm a0 a1 a2 s1 s2 s3 s4 HH.out.drew hr)
          have S2 := Lib.hid (sev_cells ep2 kd nw jb tr wk tm a0 a1 a2 s1 s2 s3 s4 HH.out.drew.two hr)
          have hlt' : (k : Int) < (ES.length : Int) := by omega
          clear hr
          go_wp2_with fail
          refine wp_region_lex (fun W => (W.cell? ⟨g3, o3 + k * 14, none⟩ = some (.int .i64 ep2) ∧ W.cell? ⟨g3, o3 + k * 14 + 1, none⟩ = some (.int .i64 kd) ∧ W.cell? ⟨g3, o3 + k * 14 + 2, none⟩ = some (.int .i64 nw) ∧ W.cell? ⟨g3, o3 + k * 14 + 3, none⟩ = some (.int .i64 jb) ∧ W.cell? ⟨g3, o3 + k * 14 + 4, none⟩ = some (.int .i64 tr) ∧ W.cell? ⟨g3, o3 + k * 14 + 5, none⟩ = some (.int .i64 wk) ∧ W.cell? ⟨g3, o3 + k * 14 + 6, none⟩ = some (.int .i64 tm) ∧ W.cell? ⟨g3, o3 + k * 14 + 7, none⟩ = some (.int .i64 a0) ∧ W.cell? ⟨g3, o3 + k * 14 + 8, none⟩ = some (.int .i64 a1) ∧ W.cell? ⟨g3, o3 + k * 14 + 9, none⟩ = some (.int .i64 a2) ∧ W.cell? ⟨g3, o3 + k * 14 + 10, none⟩ = some (.int .i64 s1) ∧ W.cell? ⟨g3, o3 + k * 14 + 11, none⟩ = some (.int .i64 s2) ∧ W.cell? ⟨g3, o3 + k * 14 + 12, none⟩ = some (.int .i64 s3) ∧ W.cell? ⟨g3, o3 + k * 14 + 13, none⟩ = some (.int .i64 s4)) ∧ W.cell? ⟨g2, o2 + k * 14, none⟩ = some (.int .i64 ep2) ∧ W.cell? ⟨g2, o2 + k * 14 + 1, none⟩ = some (.int .i64 kd) ∧ W.cell? ⟨g2, o2 + k * 14 + 2, none⟩ = some (.int .i64 nw) ∧ W.cell? ⟨g2, o2 + k * 14 + 3, none⟩ = some (.int .i64 jb) ∧ W.cell? ⟨g2, o2 + k * 14 + 4, none⟩ = some (.int .i64 tr) ∧ W.cell? ⟨g2, o2 + k * 14 + 5, none⟩ = some (.int .i64 wk) ∧ W.cell? ⟨g2, o2 + k * 14 + 6, none⟩ = some (.int .i64 tm) ∧ W.cell? ⟨g2, o2 + k * 14 + 7, none⟩ = some (.int .i64 a0) ∧ W.cell? ⟨g2, o2 + k * 14 + 8, none⟩ = some (.int .i64 a1) ∧ W.cell? ⟨g2, o2 + k * 14 + 9, none⟩ = some (.int .i64 a2) ∧ W.cell? ⟨g2, o2 + k * 14 + 10, none⟩ = some (.int .i64 s1) ∧ W.cell? ⟨g2, o2 + k * 14 + 11, none⟩ = some (.int .i64 s2) ∧ W.cell? ⟨g2, o2 + k * 14 + 12, none⟩ = some (.int .i64 s3) ∧ W.cell? ⟨g2, o2 + k * 14 + 13, none⟩ = some (.int .i64 s4)) [] (by kernel_rfl) (by kernel_rfl) ⟨S3.out, S2.out⟩ ?_
          repeat (first | (refine LexL.none (by rfl) ?_; (try simp only [Act.put, List.setIfInBounds_toArray, List.set_cons_zero, List.set_cons_succ])) | (refine LexL.still (v := ?_) (by rfl) ?_ ?_; rotate_left; (focus (intro W hW; (try dsimp only at hW); go_simp; (try (with_reducible rfl)); done)); (try simp only [Act.put, List.setIfInBounds_toArray, List.set_cons_zero, List.set_cons_succ])))
          refine LexL.done ?_
          clear S2 S3
          go_wp2_with fail
          go_roundw
          case rel => exact ⟨k + 1, by omega, by go_num, HH.out.drew, HQ.out.drew⟩
          case measure => simp [intOf]; omega
        · obtain rfl : k = ES.length := by omega
          clear hlt hk
          go_wp2_with fail
          refine (recsof_sl _ B _ (HBY.out.old (HH.out.eq (HP.assoc _ _ _).symm)) (by omega) HH.out).mono ?_
          rw [HM.out]
          rintro e w4 ⟨v5, rfl, q4, h4⟩
          obtain ⟨a5, c5, rfl, hc5, _⟩ := h4.row.shape
          obtain ⟨RX, hRX⟩ : ∃ RX, revs (.slice a3_ ES.length c3_) ES * sevs (.slice a2_ ES.length c2_) ES = RX := ⟨_, rfl⟩
          have H4 := Lib.hid ((show Holds w4 (recs (.slice a5 M.length c5) M * (revs (.slice a3_ ES.length c3_) ES * (sevs (.slice a2_ ES.length c2_) ES * old w))) from h4).eq (by rw [← hRX]; ac_rfl : _ = recs (.slice a5 M.length c5) M * (RX * old w)))
          have Q4 := Lib.hid (HQ.out.trans q4)
          clear h4 q4 HH HQ hRX
          by_cases hn0 : n < 0
          · have hnb : ¬ 0 ≤ n := by omega
            have hnb2 : decide (0 ≤ n) = false := by simpa using hnb
            go_wp2_with fail
            refine (stable_no _ B n _ (HBY.out.old (H4.out.eq (HP.assoc _ _ _).symm)) (by omega) (by rw [HM.out]; omega) H4.out).mono ?_
            rintro e w5 ⟨rfl, q5, h5⟩
            have Q5 := Lib.hid (Q4.out.trans q5)
            obtain ⟨RA, hRA⟩ : ∃ RA, recs (.slice a5 M.length c5) M * RX = RA := ⟨_, rfl⟩
            have H5 := Lib.hid (h5.eq (by rw [← hRA]; ac_rfl : _ = RA * old w))
            clear h5 q5 H4 Q4 hRA
            obtain ⟨hs, hhs⟩ : ∃ hs, holders E job = hs := ⟨_, rfl⟩
            have HHS := Lib.hid hhs
            have hhl : hs.length ≤ 200 := by
              rw [← hhs]; unfold holders; rw [List.length_map]; have := List.length_filter_le (fun e : Ev => e.has job) E; omega
            clear hhs
            go_wp2_with fail
            refine (holders_sl _ E job _ (HE.out.old H5.out) (by omega) H5.out).mono ?_
            rw [HHS.out]
            rintro e w10 ⟨v10, rfl, q10, h10⟩
            obtain ⟨a10, c10, rfl, _, _⟩ := h10.row.shape
            have H10 := Lib.hid (show Holds w10 (hold (.slice a10 hs.length c10) hs * (RA * old w)) from h10); have Q10 := Lib.hid (Q5.out.trans q10); clear h10 q10 H5 Q5
            go_wp2_with fail
            refine (events_sl _ E _ (HE.out.old (H10.out.eq (HP.assoc _ _ _).symm)) (by omega) H10.out).mono ?_
            rintro e w11 ⟨v11, rfl, q11, h11⟩
            have H11 := Lib.hid (show Holds w11 (revs v11 E * (hold (.slice a10 hs.length c10) hs * (RA * old w))) from h11); have Q11 := Lib.hid (Q10.out.trans q11); clear h11 q11 H10 Q10
            go_wp2_with fail
            refine (holdersOf_sl _ E job _ H11.out.row (by omega) H11.out).mono ?_
            rw [HHS.out]
            rintro e w12 ⟨v12, rfl, q12, h12⟩
            obtain ⟨RB, hRB⟩ : ∃ RB, revs v11 E * RA = RB := ⟨_, rfl⟩
            have H12 := Lib.hid ((show Holds w12 (hint v12 hs * (revs v11 E * (hold (.slice a10 hs.length c10) hs * (RA * old w)))) from h12).eq (by rw [← hRB]; ac_rfl : _ = hold (.slice a10 hs.length c10) hs * (hint v12 hs * (RB * old w)))); have Q12 := Lib.hid (Q11.out.trans q12); clear h12 q12 H11 Q11 hRB
            go_wp2_with fail
            go_loopw [16, 17] (fun s i wr => ∃ k : Nat, k ≤ hs.length ∧ i = .int .i64 k ∧ Holds wr (hint s (hs.take k) * (hold (.slice a10 hs.length c10) hs * (hint v12 hs * (RB * old w)))) ∧ Quiet w wr) (fun _ i _ => hs.length - (intOf i).toNat)
            case atStart => exact ⟨0, by omega, rfl, H12.out.nilI, Q12.out⟩
            case round =>
              obtain ⟨k, hk, rfl, hh, hq⟩ := hrel
              obtain ⟨wi, rfl⟩ : ∃ wi : World, wi = wr := ⟨_, rfl⟩
              have HK := Lib.hid hh; have QK := Lib.hid hq; clear hh hq H12 Q12
              by_cases hlt : k < hs.length
              · obtain ⟨⟨pa, pb⟩, hp⟩ : ∃ p, hs[k]? = some p := ⟨_, List.getElem?_eq_getElem hlt⟩
                obtain ⟨g, off, cx, e, _⟩ := HK.out.two.row.get (by omega)
                simp only [Value.slice.injEq] at e
                obtain ⟨rfl, _, rfl⟩ := e
                have hst : hs.take (k + 1) = hs.take k ++ [(pa, pb)] := by rw [List.take_succ_eq_append_getElem hlt, (List.getElem?_eq_some_iff.1 hp).2]
                obtain ⟨acc, hacc⟩ : ∃ acc, hs.take k = acc := ⟨_, rfl⟩
                have hal : acc.length ≤ 200 := by rw [← hacc, List.length_take]; omega
                rw [hacc] at hst HK
                have mkS : ∀ (W : World) (A : HP), Holds W (hold (.slice (some ⟨g, off, none⟩) hs.length c10) hs * A) → W.cell? ⟨g, off + k * 2, none⟩ = some (.int .i64 pa) ∧ W.cell? ⟨g, off + k * 2 + 1, none⟩ = some (.int .i64 pb) := fun W A hW => hold_cells hW hp
                have MKS := Lib.hid mkS
                have HST := Lib.hid hst
                have hlt' : (k : Int) < (hs.length : Int) := by omega
                clear hp hst hacc mkS
                go_wp2_with fail
                refine wp_region_lex (fun W => W.cell? ⟨g, off + k * 2, none⟩ = some (.int .i64 pa) ∧ W.cell? ⟨g, off + k * 2 + 1, none⟩ = some (.int .i64 pb)) [11, 12] (by kernel_rfl) (by kernel_rfl) (MKS.out _ _ HK.out.drew.two) ?_
                repeat (first | (refine LexL.none (by rfl) ?_; (try simp only [Act.put, List.setIfInBounds_toArray, List.set_cons_zero, List.set_cons_succ])) | (refine LexL.still (v := ?_) (by rfl) ?_ ?_; rotate_left; (focus (intro W hW; (try dsimp only at hW); go_simp; (try (with_reducible rfl)); done)); (try simp only [Act.put, List.setIfInBounds_toArray, List.set_cons_zero, List.set_cons_succ])))
                have hb := HK.out.drew.boxRow (e := 3) 1 (n := 2) (cs := [.int .i64 pa, .int .i64 pb]) rfl (ivs_ones [pa, pb]) (by omega) rfl
                have HBX := Lib.hid hb; clear hb
                refine LexL.value (w1 := wi.drew.alloc (.cells #[.int .i64 pa, .int .i64 pb] 3)) (v := .slice (some ⟨wi.drew.heap.size, 0, none⟩) 2 2) (by rfl) (by decide) (by go_simp) (MKS.out _ _ HBX.out.three) ?_
                try simp only [Act.put, List.setIfInBounds_toArray, List.set_cons_zero, List.set_cons_succ]
                repeat (first | (refine LexL.none (by rfl) ?_; (try simp only [Act.put, List.setIfInBounds_toArray, List.set_cons_zero, List.set_cons_succ])) | (refine LexL.still (v := ?_) (by rfl) ?_ ?_; rotate_left; (focus (intro W hW; (try dsimp only at hW); go_simp; (try (with_reducible rfl)); done)); (try simp only [Act.put, List.setIfInBounds_toArray, List.set_cons_zero, List.set_cons_succ])))
                refine LexL.append _ _ 61 rfl 3 i0 _ 1 8 Try.underlying61 HI.out HZ0.out HZ1.out HZ2.out rfl (by decide) rfl rfl (by rfl) (by decide) (HBX.out.two) HBX.out.row rfl (ivs_ones [pa, pb]) (by omega) (by omega) ?_
                intro v' w' hv' hq'
                have HV' := Lib.hid hv'; have HQ' := Lib.hid hq'; clear hv' hq'
                refine ⟨MKS.out _ _ HV'.out.three, ?_⟩
                try simp only [Act.put, List.setIfInBounds_toArray, List.set_cons_zero, List.set_cons_succ]
                repeat (first | (refine LexL.none (by rfl) ?_; (try simp only [Act.put, List.setIfInBounds_toArray, List.set_cons_zero, List.set_cons_succ])) | (refine LexL.still (v := ?_) (by rfl) ?_ ?_; rotate_left; (focus (intro W hW; (try dsimp only at hW); go_simp; (try (with_reducible rfl)); done)); (try simp only [Act.put, List.setIfInBounds_toArray, List.set_cons_zero, List.set_cons_succ])))
                refine LexL.done ?_
                go_wp2_with fail
                go_roundw
                case rel => exact ⟨k + 1, by omega, by go_num, by rw [HST.out]; exact (hint_fit acc pa pb HV'.out).two.right, ((QK.out.drew.alloc _).trans HQ'.out)⟩
                case measure => simp [intOf]; omega
              · obtain rfl : k = hs.length := by omega
                clear hlt hk
                have hk2 := HK.out
                rw [List.take_length] at hk2
                have HK2 := Lib.hid hk2; clear hk2
                go_wp2_with fail
                refine (same_ints _ _ (2 * hs.length) (hs.flatMap fun p => [p.1, p.2]) _ (flat_length hs) (by have := HK2.out.row; rwa [hvs_flat] at this) (by have := HK2.out.three.row; rwa [hvs_flat] at this) (by omega)).mono ?_
                rintro e wz ⟨rfl, nz, rfl⟩
                go_wp2
                go_ret
                exact ⟨rfl, ((HK2.out.drewN nz).eq (by ac_rfl : _ = (hint u16 hs * (hold (.slice a10 hs.length c10) hs * (hint v12 hs * RB))) * old w)).toBelow (QK.out.drewN nz)⟩
          · obtain ⟨N, rfl⟩ := Int.eq_ofNat_of_zero_le (show 0 ≤ n by omega)
            have hnb : 0 ≤ (N : Int) := by omega
            have hnb2 : decide (0 ≤ (N : Int)) = true := by simpa using hnb
            clear hn0
            by_cases hnM : N ≤ M.length
            · have hnm2 : (N : Int) ≤ (M.length : Int) := by omega
              go_wp2_with fail
              refine (stable_sl _ B N _ (HBY.out.old (H4.out.eq (HP.assoc _ _ _).symm)) (by omega) (by rw [HM.out]; omega) H4.out).mono ?_
              rw [HM.out]
              rintro e w5 ⟨bt, rfl, q5, h5⟩
              have H5 := Lib.hid (show Holds w5 (tab bt (behind (M.take N)) * (recs (.slice a5 M.length c5) M * (RX * old w))) from h5); have Q5 := Lib.hid (Q4.out.trans q5); clear h5 q5 H4 Q4
              have hNc : N ≤ c5 := by omega
              go_wp2_with fail
              refine (behind_sl _ (M.take N) _ (recs_prefix H5.out.two.row (by omega)) (by rw [List.length_take]; omega) H5.out).mono ?_
              rintro e w6 ⟨bh, rfl, q6, h6⟩
              have H6 := Lib.hid ((show Holds w6 (tb bh 41 (behind (M.take N)) * (tab bt (behind (M.take N)) * (recs (.slice a5 M.length c5) M * (RX * old w)))) from h6).eq (by ac_rfl : _ = tab bt (behind (M.take N)) * (tb bh 41 (behind (M.take N)) * (recs (.slice a5 M.length c5) M * (RX * old w))))); have Q6 := Lib.hid (Q5.out.trans q6); clear h6 q6 H5 Q5
              go_wp2_with fail
              refine (same_sl bt bh _ _ H6.out).mono ?_
              rintro e w7 ⟨rfl, hb7⟩
              obtain ⟨RA, hRA⟩ : ∃ RA, tab bt (behind (M.take N)) * (tb bh 41 (behind (M.take N)) * (recs (.slice a5 M.length c5) M * RX)) = RA := ⟨_, rfl⟩
              have H7 := Lib.hid ((H6.out.below hb7).eq (by rw [← hRA]; ac_rfl : _ = RA * old w)); have Q7 := Lib.hid (Q6.out.trans (Quiet.below hb7)); clear hb7 H6 Q6 hRA
              obtain ⟨hs, hhs⟩ : ∃ hs, holders E job = hs := ⟨_, rfl⟩
              have HHS := Lib.hid hhs
              have hhl : hs.length ≤ 200 := by
                rw [← hhs]; unfold holders; rw [List.length_map]; have := List.length_filter_le (fun e : Ev => e.has job) E; omega
              clear hhs
              go_wp2_with fail
              refine (holders_sl _ E job _ (HE.out.old H7.out) (by omega) H7.out).mono ?_
              rw [HHS.out]
              rintro e w10 ⟨v10, rfl, q10, h10⟩
              obtain ⟨a10, c10, rfl, _, _⟩ := h10.row.shape
              have H10 := Lib.hid (show Holds w10 (hold (.slice a10 hs.length c10) hs * (RA * old w)) from h10); have Q10 := Lib.hid (Q7.out.trans q10); clear h10 q10 H7 Q7
              go_wp2_with fail
              refine (events_sl _ E _ (HE.out.old (H10.out.eq (HP.assoc _ _ _).symm)) (by omega) H10.out).mono ?_
              rintro e w11 ⟨v11, rfl, q11, h11⟩
              have H11 := Lib.hid (show Holds w11 (revs v11 E * (hold (.slice a10 hs.length c10) hs * (RA * old w))) from h11); have Q11 := Lib.hid (Q10.out.trans q11); clear h11 q11 H10 Q10
              go_wp2_with fail
              refine (holdersOf_sl _ E job _ H11.out.row (by omega) H11.out).mono ?_
              rw [HHS.out]
              rintro e w12 ⟨v12, rfl, q12, h12⟩
              obtain ⟨RB, hRB⟩ : ∃ RB, revs v11 E * RA = RB := ⟨_, rfl⟩
              have H12 := Lib.hid ((show Holds w12 (hint v12 hs * (revs v11 E * (hold (.slice a10 hs.length c10) hs * (RA * old w)))) from h12).eq (by rw [← hRB]; ac_rfl : _ = hold (.slice a10 hs.length c10) hs * (hint v12 hs * (RB * old w)))); have Q12 := Lib.hid (Q11.out.trans q12); clear h12 q12 H11 Q11 hRB
              go_wp2_with fail
              go_loopw [16, 17] (fun s i wr => ∃ k : Nat, k ≤ hs.length ∧ i = .int .i64 k ∧ Holds wr (hint s (hs.take k) * (hold (.slice a10 hs.length c10) hs * (hint v12 hs * (RB * old w)))) ∧ Quiet w wr) (fun _ i _ => hs.length - (intOf i).toNat)
              case atStart => exact ⟨0, by omega, rfl, H12.out.nilI, Q12.out⟩
              case round =>
                obtain ⟨k, hk, rfl, hh, hq⟩ := hrel
                obtain ⟨wi, rfl⟩ : ∃ wi : World, wi = wr := ⟨_, rfl⟩
                have HK := Lib.hid hh; have QK := Lib.hid hq; clear hh hq H12 Q12
                by_cases hlt : k < hs.length
                · obtain ⟨⟨pa, pb⟩, hp⟩ : ∃ p, hs[k]? = some p := ⟨_, List.getElem?_eq_getElem hlt⟩
                  obtain ⟨g, off, cx, e, _⟩ := HK.out.two.row.get (by omega)
                  simp only [Value.slice.injEq] at e
                  obtain ⟨rfl, _, rfl⟩ := e
                  have hst : hs.take (k + 1) = hs.take k ++ [(pa, pb)] := by rw [List.take_succ_eq_append_getElem hlt, (List.getElem?_eq_some_iff.1 hp).2]
                  obtain ⟨acc, hacc⟩ : ∃ acc, hs.take k = acc := ⟨_, rfl⟩
                  have hal : acc.length ≤ 200 := by rw [← hacc, List.length_take]; omega
                  rw [hacc] at hst HK
                  have mkS : ∀ (W : World) (A : HP), Holds W (hold (.slice (some ⟨g, off, none⟩) hs.length c10) hs * A) → W.cell? ⟨g, off + k * 2, none⟩ = some (.int .i64 pa) ∧ W.cell? ⟨g, off + k * 2 + 1, none⟩ = some (.int .i64 pb) := fun W A hW => hold_cells hW hp
                  have MKS := Lib.hid mkS
                  have HST := Lib.hid hst
                  have hlt' : (k : Int) < (hs.length : Int) := by omega
                  clear hp hst hacc mkS
                  go_wp2_with fail
                  refine wp_region_lex (fun W => W.cell? ⟨g, off + k * 2, none⟩ = some (.int .i64 pa) ∧ W.cell? ⟨g, off + k * 2 + 1, none⟩ = some (.int .i64 pb)) [11, 12] (by kernel_rfl) (by kernel_rfl) (MKS.out _ _ HK.out.drew.two) ?_
                  repeat (first | (refine LexL.none (by rfl) ?_; (try simp only [Act.put, List.setIfInBounds_toArray, List.set_cons_zero, List.set_cons_succ])) | (refine LexL.still (v := ?_) (by rfl) ?_ ?_; rotate_left; (focus (intro W hW; (try dsimp only at hW); go_simp; (try (with_reducible rfl)); done)); (try simp only [Act.put, List.setIfInBounds_toArray, List.set_cons_zero, List.set_cons_succ])))
                  have hb := HK.out.drew.boxRow (e := 3) 1 (n := 2) (cs := [.int .i64 pa, .int .i64 pb]) rfl (ivs_ones [pa, pb]) (by omega) rfl
                  have HBX := Lib.hid hb; clear hb
                  refine LexL.value (w1 := wi.drew.alloc (.cells #[.int .i64 pa, .int .i64 pb] 3)) (v := .slice (some ⟨wi.drew.heap.size, 0, none⟩) 2 2) (by rfl) (by decide) (by go_simp) (MKS.out _ _ HBX.out.three) ?_
                  try simp only [Act.put, List.setIfInBounds_toArray, List.set_cons_zero, List.set_cons_succ]
                  repeat (first | (refine LexL.none (by rfl) ?_; (try simp only [Act.put, List.setIfInBounds_toArray, List.set_cons_zero, List.set_cons_succ])) | (refine LexL.still (v := ?_) (by rfl) ?_ ?_; rotate_left; (focus (intro W hW; (try dsimp only at hW); go_simp; (try (with_reducible rfl)); done)); (try simp only [Act.put, List.setIfInBounds_toArray, List.set_cons_zero, List.set_cons_succ])))
                  refine LexL.append _ _ 61 rfl 3 i0 _ 1 8 Try.underlying61 HI.out HZ0.out HZ1.out HZ2.out rfl (by decide) rfl rfl (by rfl) (by decide) (HBX.out.two) HBX.out.row rfl (ivs_ones [pa, pb]) (by omega) (by omega) ?_
                  intro v' w' hv' hq'
                  have HV' := Lib.hid hv'; have HQ' := Lib.hid hq'; clear hv' hq'
                  refine ⟨MKS.out _ _ HV'.out.three, ?_⟩
                  try simp only [Act.put, List.setIfInBounds_toArray, List.set_cons_zero, List.set_cons_succ]
                  repeat (first | (refine LexL.none (by rfl) ?_; (try simp only [Act.put, List.setIfInBounds_toArray, List.set_cons_zero, List.set_cons_succ])) | (refine LexL.still (v := ?_) (by rfl) ?_ ?_; rotate_left; (focus (intro W hW; (try dsimp only at hW); go_simp; (try (with_reducible rfl)); done)); (try simp only [Act.put, List.setIfInBounds_toArray, List.set_cons_zero, List.set_cons_succ])))
                  refine LexL.done ?_
                  go_wp2_with fail
                  go_roundw
                  case rel => exact ⟨k + 1, by omega, by go_num, by rw [HST.out]; exact (hint_fit acc pa pb HV'.out).two.right, ((QK.out.drew.alloc _).trans HQ'.out)⟩
                  case measure => simp [intOf]; omega
                · obtain rfl : k = hs.length := by omega
                  clear hlt hk
                  have hk2 := HK.out
                  rw [List.take_length] at hk2
                  have HK2 := Lib.hid hk2; clear hk2
                  go_wp2_with fail
                  refine (same_ints _ _ (2 * hs.length) (hs.flatMap fun p => [p.1, p.2]) _ (flat_length hs) (by have := HK2.out.row; rwa [hvs_flat] at this) (by have := HK2.out.three.row; rwa [hvs_flat] at this) (by omega)).mono ?_
                  rintro e wz ⟨rfl, nz, rfl⟩
                  go_wp2
                  go_ret
                  exact ⟨rfl, ((HK2.out.drewN nz).eq (by ac_rfl : _ = (hint u16 hs * (hold (.slice a10 hs.length c10) hs * (hint v12 hs * RB))) * old w)).toBelow (QK.out.drewN nz)⟩
            · have hnm2 : ¬ (N : Int) ≤ (M.length : Int) := by omega
              go_wp2_with fail
              refine (stable_no _ B N _ (HBY.out.old (H4.out.eq (HP.assoc _ _ _).symm)) (by omega) (by rw [HM.out]; omega) H4.out).mono ?_
              rintro e w5 ⟨rfl, q5, h5⟩
              have Q5 := Lib.hid (Q4.out.trans q5)
              obtain ⟨RA, hRA⟩ : ∃ RA, recs (.slice a5 M.length c5) M * RX = RA := ⟨_, rfl⟩
              have H5 := Lib.hid (h5.eq (by rw [← hRA]; ac_rfl : _ = RA * old w))
              clear h5 q5 H4 Q4 hRA
              obtain ⟨hs, hhs⟩ : ∃ hs, holders E job = hs := ⟨_, rfl⟩
              have HHS := Lib.hid hhs
              have hhl : hs.length ≤ 200 := by
                rw [← hhs]; unfold holders; rw [List.length_map]; have := List.length_filter_le (fun e : Ev => e.has job) E; omega
              clear hhs
              go_wp2_with fail
              refine (holders_sl _ E job _ (HE.out.old H5.out) (by omega) H5.out).mono ?_
              rw [HHS.out]
              rintro e w10 ⟨v10, rfl, q10, h10⟩
              obtain ⟨a10, c10, rfl, _, _⟩ := h10.row.shape
              have H10 := Lib.hid (show Holds w10 (hold (.slice a10 hs.length c10) hs * (RA * old w)) from h10); have Q10 := Lib.hid (Q5.out.trans q10); clear h10 q10 H5 Q5
              go_wp2_with fail
              refine (events_sl _ E _ (HE.out.old (H10.out.eq (HP.assoc _ _ _).symm)) (by omega) H10.out).mono ?_
              rintro e w11 ⟨v11, rfl, q11, h11⟩
              have H11 := Lib.hid (show Holds w11 (revs v11 E * (hold (.slice a10 hs.length c10) hs * (RA * old w))) from h11); have Q11 := Lib.hid (Q10.out.trans q11); clear h11 q11 H10 Q10
              go_wp2_with fail
              refine (holdersOf_sl _ E job _ H11.out.row (by omega) H11.out).mono ?_
              rw [HHS.out]
              rintro e w12 ⟨v12, rfl, q12, h12⟩
              obtain ⟨RB, hRB⟩ : ∃ RB, revs v11 E * RA = RB := ⟨_, rfl⟩
              have H12 := Lib.hid ((show Holds w12 (hint v12 hs * (revs v11 E * (hold (.slice a10 hs.length c10) hs * (RA * old w)))) from h12).eq (by rw [← hRB]; ac_rfl : _ = hold (.slice a10 hs.length c10) hs * (hint v12 hs * (RB * old w)))); have Q12 := Lib.hid (Q11.out.trans q12); clear h12 q12 H11 Q11 hRB
              go_wp2_with fail
              go_loopw [16, 17] (fun s i wr => ∃ k : Nat, k ≤ hs.length ∧ i = .int .i64 k ∧ Holds wr (hint s (hs.take k) * (hold (.slice a10 hs.length c10) hs * (hint v12 hs * (RB * old w)))) ∧ Quiet w wr) (fun _ i _ => hs.length - (intOf i).toNat)
              case atStart => exact ⟨0, by omega, rfl, H12.out.nilI, Q12.out⟩
              case round =>
                obtain ⟨k, hk, rfl, hh, hq⟩ := hrel
                obtain ⟨wi, rfl⟩ : ∃ wi : World, wi = wr := ⟨_, rfl⟩
                have HK := Lib.hid hh; have QK := Lib.hid hq; clear hh hq H12 Q12
                by_cases hlt : k < hs.length
                · obtain ⟨⟨pa, pb⟩, hp⟩ : ∃ p, hs[k]? = some p := ⟨_, List.getElem?_eq_getElem hlt⟩
                  obtain ⟨g, off, cx, e, _⟩ := HK.out.two.row.get (by omega)
                  simp only [Value.slice.injEq] at e
                  obtain ⟨rfl, _, rfl⟩ := e
                  have hst : hs.take (k + 1) = hs.take k ++ [(pa, pb)] := by rw [List.take_succ_eq_append_getElem hlt, (List.getElem?_eq_some_iff.1 hp).2]
                  obtain ⟨acc, hacc⟩ : ∃ acc, hs.take k = acc := ⟨_, rfl⟩
                  have hal : acc.length ≤ 200 := by rw [← hacc, List.length_take]; omega
                  rw [hacc] at hst HK
                  have mkS : ∀ (W : World) (A : HP), Holds W (hold (.slice (some ⟨g, off, none⟩) hs.length c10) hs * A) → W.cell? ⟨g, off + k * 2, none⟩ = some (.int .i64 pa) ∧ W.cell? ⟨g, off + k * 2 + 1, none⟩ = some (.int .i64 pb) := fun W A hW => hold_cells hW hp
                  have MKS := Lib.hid mkS
                  have HST := Lib.hid hst
                  have hlt' : (k : Int) < (hs.length : Int) := by omega
                  clear hp hst hacc mkS
                  go_wp2_with fail
                  refine wp_region_lex (fun W => W.cell? ⟨g, off + k * 2, none⟩ = some (.int .i64 pa) ∧ W.cell? ⟨g, off + k * 2 + 1, none⟩ = some (.int .i64 pb)) [11, 12] (by kernel_rfl) (by kernel_rfl) (MKS.out _ _ HK.out.drew.two) ?_
                  repeat (first | (refine LexL.none (by rfl) ?_; (try simp only [Act.put, List.setIfInBounds_toArray, List.set_cons_zero, List.set_cons_succ])) | (refine LexL.still (v := ?_) (by rfl) ?_ ?_; rotate_left; (focus (intro W hW; (try dsimp only at hW); go_simp; (try (with_reducible rfl)); done)); (try simp only [Act.put, List.setIfInBounds_toArray, List.set_cons_zero, List.set_cons_succ])))
                  have hb := HK.out.drew.boxRow (e := 3) 1 (n := 2) (cs := [.int .i64 pa, .int .i64 pb]) rfl (ivs_ones [pa, pb]) (by omega) rfl
                  have HBX := Lib.hid hb; clear hb
                  refine LexL.value (w1 := wi.drew.alloc (.cells #[.int .i64 pa, .int .i64 pb] 3)) (v := .slice (some ⟨wi.drew.heap.size, 0, none⟩) 2 2) (by rfl) (by decide) (by go_simp) (MKS.out _ _ HBX.out.three) ?_
                  try simp only [Act.put, List.setIfInBounds_toArray, List.set_cons_zero, List.set_cons_succ]
                  repeat (first | (refine LexL.none (by rfl) ?_; (try simp only [Act.put, List.setIfInBounds_toArray, List.set_cons_zero, List.set_cons_succ])) | (refine LexL.still (v := ?_) (by rfl) ?_ ?_; rotate_left; (focus (intro W hW; (try dsimp only at hW); go_simp; (try (with_reducible rfl)); done)); (try simp only [Act.put, List.setIfInBounds_toArray, List.set_cons_zero, List.set_cons_succ])))
                  refine LexL.append _ _ 61 rfl 3 i0 _ 1 8 Try.underlying61 HI.out HZ0.out HZ1.out HZ2.out rfl (by decide) rfl rfl (by rfl) (by decide) (HBX.out.two) HBX.out.row rfl (ivs_ones [pa, pb]) (by omega) (by omega) ?_
                  intro v' w' hv' hq'
                  have HV' := Lib.hid hv'; have HQ' := Lib.hid hq'; clear hv' hq'
                  refine ⟨MKS.out _ _ HV'.out.three, ?_⟩
                  try simp only [Act.put, List.setIfInBounds_toArray, List.set_cons_zero, List.set_cons_succ]
                  repeat (first | (refine LexL.none (by rfl) ?_; (try simp only [Act.put, List.setIfInBounds_toArray, List.set_cons_zero, List.set_cons_succ])) | (refine LexL.still (v := ?_) (by rfl) ?_ ?_; rotate_left; (focus (intro W hW; (try dsimp only at hW); go_simp; (try (with_reducible rfl)); done)); (try simp only [Act.put, List.setIfInBounds_toArray, List.set_cons_zero, List.set_cons_succ])))
                  refine LexL.done ?_
                  go_wp2_with fail
                  go_roundw
                  case rel => exact ⟨k + 1, by omega, by go_num, by rw [HST.out]; exact (hint_fit acc pa pb HV'.out).two.right, ((QK.out.drew.alloc _).trans HQ'.out)⟩
                  case measure => simp [intOf]; omega
                · obtain rfl : k = hs.length := by omega
                  clear hlt hk
                  have hk2 := HK.out
                  rw [List.take_length] at hk2
                  have HK2 := Lib.hid hk2; clear hk2
                  go_wp2_with fail
                  refine (same_ints _ _ (2 * hs.length) (hs.flatMap fun p => [p.1, p.2]) _ (flat_length hs) (by have := HK2.out.row; rwa [hvs_flat] at this) (by have := HK2.out.three.row; rwa [hvs_flat] at this) (by omega)).mono ?_
                  rintro e wz ⟨rfl, nz, rfl⟩
                  go_wp2
                  go_ret
                  exact ⟨rfl, ((HK2.out.drewN nz).eq (by ac_rfl : _ = (hint u16 hs * (hold (.slice a10 hs.length c10) hs * (hint v12 hs * RB))) * old w)).toBelow (QK.out.drewN nz)⟩
end Go.Proofs.Ytfihmpkkpgmdhab
