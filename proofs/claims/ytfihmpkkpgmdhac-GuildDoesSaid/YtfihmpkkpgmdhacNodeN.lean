/-
  The package node, walked: Open.
-/
import Derived.Test.YtfihmpkkpgmdhacNodeP
import Derived.Test.YtfihmpkkpgmdhacPlainM
import Derived.Deep.Cut
namespace Go.Proofs.Ytfihmpkkpgmdhac
set_option linter.unusedSimpArgs false
set_option linter.unusedVariables false
open Go.RowKit
set_option maxRecDepth 100000 in
set_option maxHeartbeats 4000000 in
theorem nOpen_full (bd : Nat) (d : Dsk) (w : World) {R : HP} (h : Holds w (dsk bd d * R)) (hd : d.Ok) (hc : 100 ≤ d.ep) :
    Calls Try.prog 46 #[.pointer (some ⟨bd, 0, none⟩)] w (Post w R (.tuple #[.pointer none, .int .i64 8]) (dsk bd d)) := by
  have e : d.raise = (d, 0, 8) := by simp [Dsk.raise, hc]
  have HE := Lib.hid e; have H := Lib.hid h; have HD := Lib.hid hd
  clear e h hd hc
  go_enter Try.func46, Try.ntmps46
  go_wp2_with fail
  refine (depoch_sl bd d _ H.out).mono ?_
  rintro e w1 ⟨rfl, rfl⟩
  go_wp2_with fail
  refine (raise_sl bd d _ H.out HD.out).mono ?_
  rw [HE.out]
  rintro e w1 ⟨rfl, q1, h1⟩
  have H1 := Lib.hid h1; have Q1 := Lib.hid q1; clear h1 q1
  go_wp2
  go_ret2
  exact ⟨rfl, Q1.out, H1.out⟩
theorem nOpen_nil (w : World) : Calls Try.prog 46 #[.pointer none] w fun e w' => e = .returned (.tuple #[.pointer none, .int .i64 5]) ∧ w = w' := by
  go_enter Try.func46, Try.ntmps46
  go_wp2
  go_ret2
  exact ⟨rfl, rfl⟩
set_option maxRecDepth 100000 in
set_option maxHeartbeats 4000000 in
theorem nOpen_sl (bd : Nat) (d : Dsk) (w : World) {R : HP} (h : Holds w (dsk bd d * R)) (hd : d.Ok) (hc : ¬ 100 ≤ d.ep) :
    Calls Try.prog 46 #[.pointer (some ⟨bd, 0, none⟩)] w (PostX w (dsk bd (opened d).1 * R) (fun bn : Nat => .tuple #[.pointer (some ⟨bn, 0, none⟩), .int .i64 0]) fun bn => nod bn bd ⟨behind (found d), d.ep + 1, false⟩) := by
  obtain ⟨ep, B⟩ := d
  have e : (⟨ep, B⟩ : Dsk).raise = (⟨ep + 1, B⟩, ep + 1, 0) := by simp [Dsk.raise]; dsimp only at hc; omega
  have hep := hd.ep
  have hB := hd.b
  dsimp only at hep hB hc
  have hd1 : (⟨ep + 1, B⟩ : Dsk).Ok := ⟨by dsimp only; omega, hB⟩
  obtain ⟨L, hL⟩ : ∃ L, allB B = L := ⟨_, rfl⟩
  have hLl : 9 * L.length ≤ B.length := by rw [← hL]; exact allB_len B
  have hLR : Rising 0 L := by rw [← hL]; exact allB_rising B
  obtain ⟨F, hF⟩ : ∃ F, untilE ep L = F := ⟨_, rfl⟩
  obtain ⟨d9, hd9⟩ : ∃ d9, (opened ⟨ep, B⟩).1 = d9 := ⟨_, rfl⟩
  have hF2 : found ⟨ep, B⟩ = F := by unfold found; rw [hL, hF]
  rw [hF2, hd9]
  have hd92 : d9 = ⟨ep + 1, B.take (9 * F.length)⟩ := by rw [← hd9, opened, if_neg (by dsimp only; exact hc), hF2]
  have HE := Lib.hid e; have H := Lib.hid h; have HD := Lib.hid hd; have HD1 := Lib.hid hd1; have HL := Lib.hid hL; have HLL := Lib.hid hLl; have HLR := Lib.hid hLR; have HF := Lib.hid hF; have HD9 := Lib.hid hd92; have HB := Lib.hid hB
  clear e h hd hd1 hL hLl hLR hF hd92 hF2 hd9 hB
  dsimp only
  go_enter Try.func46, Try.ntmps46
  go_wp2_with fail
  refine (depoch_sl bd ⟨ep, B⟩ _ H.out).mono ?_
  rintro e w1 ⟨rfl, rfl⟩
  dsimp only
  go_wp2_with fail
  refine (raise_sl bd ⟨ep, B⟩ _ H.out HD.out).mono ?_
  rw [HE.out]
  rintro e w1 ⟨rfl, q1, h1⟩
  have H1 := Lib.hid h1; have Q1 := Lib.hid q1; clear h1 q1
  go_wp2_with fail
  refine (bytes_sl bd ⟨ep + 1, B⟩ _ H1.out HD1.out).mono ?_
  rintro e w2 ⟨v, rfl, q2, h2⟩
  have H2 := Lib.hid (show Holds w2 (ownb v B * (dsk bd ⟨ep + 1, B⟩ * R)) from h2); have Q2 := Lib.hid (Q1.out.trans q2); clear h2 q2 H1 Q1
  go_wp2_with fail
  refine (all_sl v B _ H2.out.ownb.bytes (by have := HB.out; omega) H2.out).mono ?_
  rintro e w3 ⟨v3, rfl, q3, h3⟩
  rw [HL.out] at h3
  have hrow := h3.row
  obtain ⟨a, cc, rfl, c1, c2⟩ := hrow.shape
  have H3 := Lib.hid (show Holds w3 (recs (.slice a L.length cc) L * (dsk bd ⟨ep + 1, B⟩ * R)) from (h3.eq (by ac_rfl : _ = ownb v B * (recs (.slice a L.length cc) L * (dsk bd ⟨ep + 1, B⟩ * R)))).right); have Q3 := Lib.hid (Q2.out.trans q3)
  have HROW := Lib.hid hrow
  clear h3 q3 H2 Q2 hrow
  have hl1 : L.length ≤ 200 := by have := HLL.out; have := HB.out; omega
  have C1 := Lib.hid c1; clear c1
  go_wp2_with fail
  go_loopw [7] (fun s wr => ∃ k : Nat, k ≤ L.length ∧ s = .slice a k cc ∧ wr = w3 ∧ Hid (untilE ep L = untilE ep (L.take k))) (fun s _ => match s with | .slice _ k _ => k | _ => 0)
  case atStart => exact ⟨L.length, Nat.le_refl _, rfl, rfl, Lib.hid (by rw [List.take_length])⟩
  case round =>
    obtain ⟨k, hk, rfl, rfl, hu⟩ := hrel
    have hkc : k ≤ cc := by have := C1.out; omega
    have hcase : (∃ q, k = q + 1 ∧ ∃ r, L[q]? = some r ∧ ep < r.ep) ∨ (k = 0 ∨ 0 < k ∧ ∃ r, L[k - 1]? = some r ∧ r.ep ≤ ep) := by
      cases k with
      | zero => exact .inr (.inl rfl)
      | succ q =>
        obtain ⟨r, hr⟩ : ∃ r, L[q]? = some r := ⟨_, List.getElem?_eq_getElem (by omega)⟩
        by_cases h : ep < r.ep
        · exact .inl ⟨q, rfl, r, hr, h⟩
        · exact .inr (.inr ⟨by omega, r, hr, by omega⟩)
    have goes : ∀ q r, k = q + 1 → L[q]? = some r → ∃ g off, a = some ⟨g, off, none⟩ ∧ wr.cell? ⟨g, off + q * 7, none⟩ = some (.int .i64 r.ep) := fun q r hq hr => by
      obtain ⟨g, off, cx, e, _, _, hc0⟩ := HROW.out.get (by omega)
      simp only [Value.slice.injEq] at e
      refine ⟨g, off, e.1, ?_⟩
      have := rvs_cell hc0 hr 0 _ (by omega) rfl
      rwa [Nat.add_zero] at this
    rcases hcase with ⟨q, rfl, r, hr, her⟩ | hend
    · obtain ⟨g, off, rfl, hcell⟩ := goes q r rfl hr
      have hu2 := Lib.hid (untilE_step HLR.out hu.out (by omega) (by simpa using hr) her)
      clear goes hr hu
      go_wp2_with fail
      go_roundw
      case rel => exact ⟨q, by omega, by go_num, by first | rfl | trivial, by simpa using hu2⟩
      case measure => simp
    · have hfk := Lib.hid ((untilE_end HLR.out hu.out hend).symm.trans HF.out)
      have HK := Lib.hid hk
      have hk2 : k ≤ 200 := by omega
      have hlen := Lib.hid (show F.length = k by rw [← hfk.out, List.length_take]; have := HK.out; omega)
      have hcut : (⟨ep + 1, B⟩ : Dsk).cut (ep + 1) ((k : Int) * 9) = (d9, 0) := by
        have h1 := HLL.out; have h2 := HK.out
        rw [Dsk.cut, if_neg (by dsimp only; omega), if_neg (by dsimp only; omega), HD9.out, hlen.out]
        congr 3
        omega
      have HCUT := Lib.hid hcut
      have hd9ok : d9.Ok := by have := Dsk.cut_ok HD1.out (ep + 1) ((k : Int) * 9); rw [hcut] at this; exact this
      have HOK9 := Lib.hid hd9ok
      have HKL := Lib.hid (show k ≤ L.length from hk)
      clear hcut hd9ok hu
      rcases hend with rfl | ⟨h0, r, hr, hle⟩
      · clear goes hk
        have hcut := HCUT.out
        simp only [Int.ofNat_zero, Int.zero_mul] at hcut
        have HCUT := Lib.hid hcut
        clear hcut
        go_wp2_with fail
        refine (cut_sl bd ⟨ep + 1, B⟩ (ep + 1) (0) _ H3.out.two HD1.out).mono ?_
        rw [HCUT.out]
        rintro e w4 ⟨rfl, q4, h4⟩
        have H4 := Lib.hid h4; have Q4 := Lib.hid (Q3.out.trans q4); clear h4 q4
        go_wp2_with fail
        refine (new_sl _ H4.out).mono ?_
        rintro e w5 ⟨bt, rfl, q5, h5⟩
        obtain ⟨bn, hbn⟩ : ∃ bn, w5.heap.size = bn := ⟨_, rfl⟩
        have h6 := h5.boxB (ty := 61) (cs := ncells bt bd ⟨Tbl.zero, ep + 1, false⟩) hbn
        have q6 := (Q4.out.trans q5).alloc (.cells (ncells bt bd ⟨Tbl.zero, ep + 1, false⟩).toArray 61)
        have H6 := Lib.hid (show Holds (w5.alloc (.cells (ncells bt bd ⟨Tbl.zero, ep + 1, false⟩).toArray 61)) (nblk bn bt bd ⟨Tbl.zero, ep + 1, false⟩ * (tab bt Tbl.zero * (dsk bd d9 * (recs (.slice a L.length cc) L * R)))) from h6)
        have Q6 := Lib.hid q6
        clear h5 q5 h6 q6 H4 Q4
        go_wp2_with fail
        clear hbn
        go_loopw [58] (fun i wr => ∃ j : Nat, j ≤ 0 ∧ i = .int .i64 j ∧ Holds wr (nblk bn bt bd ⟨Tbl.zero, ep + 1, false⟩ * (tab bt (runL Tbl.zero (L.take j)) * (dsk bd d9 * (recs (.slice a L.length cc) L * R)))) ∧ Quiet w wr) (fun i _ => 0 - (intOf i).toNat)
        case atStart => exact ⟨0, by omega, rfl, H6.out, Q6.out⟩
        case round =>
          obtain ⟨j, hj, rfl, hh, hq⟩ := hrel
          have HJ := Lib.hid hj
          by_cases hlt : j < 0
          · omega
          · obtain rfl : j = 0 := by omega
            go_wp2
            go_ret2
            exact ⟨bn, rfl, hq, nod_close ((hh.eq (by ac_rfl : _ = recs (.slice a L.length cc) L * (nblk bn bt bd ⟨Tbl.zero, ep + 1, false⟩ * (tab bt (runL Tbl.zero (L.take (0))) * (dsk bd d9 * R))))).right.eq (by rw [show L.take (0) = F from hfk.out]; rfl))⟩
      · obtain ⟨q, rfl⟩ : ∃ q, k = q + 1 := ⟨k - 1, by omega⟩
        simp only [Nat.add_sub_cancel] at hr
        obtain ⟨g, off, rfl, hcell⟩ := goes q r rfl hr
        clear goes hk h0 hr
        have hcut := HCUT.out
        rw [show ((q + 1 : Nat) : Int) = (q : Int) + 1 from by omega] at hcut
        have HCUT := Lib.hid hcut
        clear hcut
        go_wp2_with fail
        clear hcell hle
        refine (cut_sl bd ⟨ep + 1, B⟩ (ep + 1) (((q : Int) + 1) * 9) _ H3.out.two HD1.out).mono ?_
        rw [HCUT.out]
        rintro e w4 ⟨rfl, q4, h4⟩
        have H4 := Lib.hid h4; have Q4 := Lib.hid (Q3.out.trans q4); clear h4 q4
        go_wp2_with fail
        refine (new_sl _ H4.out).mono ?_
        rintro e w5 ⟨bt, rfl, q5, h5⟩
        obtain ⟨bn, hbn⟩ : ∃ bn, w5.heap.size = bn := ⟨_, rfl⟩
        have h6 := h5.boxB (ty := 61) (cs := ncells bt bd ⟨Tbl.zero, ep + 1, false⟩) hbn
        have q6 := (Q4.out.trans q5).alloc (.cells (ncells bt bd ⟨Tbl.zero, ep + 1, false⟩).toArray 61)
        have H6 := Lib.hid (show Holds (w5.alloc (.cells (ncells bt bd ⟨Tbl.zero, ep + 1, false⟩).toArray 61)) (nblk bn bt bd ⟨Tbl.zero, ep + 1, false⟩ * (tab bt Tbl.zero * (dsk bd d9 * (recs (.slice (some ⟨g, off, none⟩) L.length cc) L * R)))) from h6)
        have Q6 := Lib.hid q6
        clear h5 q5 h6 q6 H4 Q4
        go_wp2_with fail
        clear hbn
        go_loopw [58] (fun i wr => ∃ j : Nat, j ≤ q + 1 ∧ i = .int .i64 j ∧ Holds wr (nblk bn bt bd ⟨Tbl.zero, ep + 1, false⟩ * (tab bt (runL Tbl.zero (L.take j)) * (dsk bd d9 * (recs (.slice (some ⟨g, off, none⟩) L.length cc) L * R)))) ∧ Quiet w wr) (fun i _ => q + 1 - (intOf i).toNat)
        case atStart => exact ⟨0, by omega, rfl, H6.out, Q6.out⟩
        case round =>
          obtain ⟨j, hj, rfl, hh, hq⟩ := hrel
          have HJ := Lib.hid hj
          by_cases hlt : j < q + 1
          · obtain ⟨r, hr⟩ : ∃ r, L[j]? = some r := ⟨_, List.getElem?_eq_getElem (by have := HKL.out; omega)⟩
            obtain ⟨gr, offr, cx, e, _, _, hc0⟩ := (hh.four.row).get (by have := HKL.out; omega)
            simp only [Value.slice.injEq] at e
            obtain ⟨ea, _, _⟩ := e
            simp only [Option.some.injEq, Addr.mk.injEq, and_true] at ea
            obtain ⟨rfl, rfl⟩ := ea
            have hrun := Lib.hid (runL_step hr Tbl.zero)
            have hin := Lib.hid (runL_in Tbl.zero_in (L.take j))
            obtain ⟨ep2, ⟨kd, nw, jb, tr, wk, tm⟩⟩ := r
            have y0 := rvs_cell hc0 hr 0 _ (by omega) rfl
            have y1 := rvs_cell hc0 hr 1 _ (by omega) rfl
            have y2 := rvs_cell hc0 hr 2 _ (by omega) rfl
            have y3 := rvs_cell hc0 hr 3 _ (by omega) rfl
            have y4 := rvs_cell hc0 hr 4 _ (by omega) rfl
            have y5 := rvs_cell hc0 hr 5 _ (by omega) rfl
            have y6 := rvs_cell hc0 hr 6 _ (by omega) rfl
            rw [Nat.add_zero] at y0
            dsimp only at y0 y1 y2 y3 y4 y5 y6
            obtain ⟨wo, rfl⟩ : ∃ wo : World, wo = wr := ⟨_, rfl⟩
            have hx := hh.boxB (ty := 76) (cs := [.int .i64 ep2, .int .i64 kd, .int .i64 nw, .int .i64 jb, .int .i64 tr, .int .i64 wk, .int .i64 tm]) rfl
            have HX := Lib.hid hx; have QX := Lib.hid (hq.alloc (.cells ([.int .i64 ep2, .int .i64 kd, .int .i64 nw, .int .i64 jb, .int .i64 tr, .int .i64 wk, .int .i64 tm] : List Value).toArray 76))
            clear hh hq hr hc0 hx
            dsimp only at hrun
            obtain ⟨T, hT⟩ : ∃ T, runL Tbl.zero (L.take j) = T := ⟨_, rfl⟩
            rw [hT] at HX hin hrun
            clear hT
            go_wp2_with fail
            clear y0 y1 y2 y3 y4 y5 y6
            refine wp_region_lex (fun W => (∀ o, W.cell? ⟨bn, o, none⟩ = [.pointer (some ⟨bt, 0, none⟩), .pointer (some ⟨bd, 0, none⟩), .int .i64 (ep + 1), .bool false][o]?) ∧ ∀ o, W.cell? ⟨wo.heap.size, o, none⟩ = [.int .i64 ep2, .int .i64 kd, .int .i64 nw, .int .i64 jb, .int .i64 tr, .int .i64 wk, .int .i64 tm][o]?) [6] (by kernel_rfl) (by kernel_rfl) ⟨(show BlockAt _ bn 61 (ncells bt bd ⟨Tbl.zero, ep + 1, false⟩) from HX.out.right.drew.bl).cells, HX.out.drew.bl.cells⟩ ?_
            repeat (first | (refine LexL.none (by rfl) ?_; (try simp only [Act.put, List.setIfInBounds_toArray, List.set_cons_zero, List.set_cons_succ])) | (refine LexL.still (v := ?_) (by rfl) ?_ ?_; rotate_left; (focus (intro W hW; (try dsimp only at hW); go_simp; (try (with_reducible rfl)); done)); (try simp only [Act.put, List.setIfInBounds_toArray, List.set_cons_zero, List.set_cons_succ])))
            refine LexL.call (f := 44) (args := #[.pointer (some ⟨bt, 0, none⟩), .agg #[.int .i64 kd, .int .i64 nw, .int .i64 jb, .int .i64 tr, .int .i64 wk, .int .i64 tm]]) (w1 := (wo.alloc (.cells #[.int .i64 ep2, .int .i64 kd, .int .i64 nw, .int .i64 jb, .int .i64 tr, .int .i64 wk, .int .i64 tm] 76)).drew) (by rfl) (by decide) (by go_simp) ?_
            refine (do_sl bt T kd nw jb tr wk tm _ (HX.out.drew.three) hin.out.ok).mono ?_
            rintro e w7 ⟨rfl, q7, h7⟩
            have h8 := h7.eq (by ac_rfl : _ = bl wo.heap.size 76 [.int .i64 ep2, .int .i64 kd, .int .i64 nw, .int .i64 jb, .int .i64 tr, .int .i64 wk, .int .i64 tm] * (nblk bn bt bd ⟨Tbl.zero, ep + 1, false⟩ * (tab bt (T.did ⟨kd, nw, jb, tr, wk, tm⟩).1 * (dsk bd d9 * (recs (.slice (some ⟨g, off, none⟩) L.length cc) L * R)))))
            have H8 := Lib.hid h8.right; have Q8 := Lib.hid (QX.out.drew.trans q7)
            refine ⟨_, rfl, ⟨(show BlockAt _ bn 61 (ncells bt bd ⟨Tbl.zero, ep + 1, false⟩) from h8.right.bl).cells, h8.bl.cells⟩, ?_⟩
            clear h7 h8 q7
            try simp only [Act.put, List.setIfInBounds_toArray, List.set_cons_zero, List.set_cons_succ]
            repeat (first | (refine LexL.none (by rfl) ?_; (try simp only [Act.put, List.setIfInBounds_toArray, List.set_cons_zero, List.set_cons_succ])) | (refine LexL.still (v := ?_) (by rfl) ?_ ?_; rotate_left; (focus (intro W hW; (try dsimp only at hW); go_simp; (try (with_reducible rfl)); done)); (try simp only [Act.put, List.setIfInBounds_toArray, List.set_cons_zero, List.set_cons_succ])))
            refine LexL.done ?_
            go_wp2_with fail
            go_roundw
            case rel => exact ⟨j + 1, by omega, by go_num, by rw [hrun.out]; exact H8.out, Q8.out⟩
            case measure => simp [intOf]; omega
          · obtain rfl : j = q + 1 := by omega
            go_wp2
            go_ret2
            exact ⟨bn, rfl, hq, nod_close ((hh.eq (by ac_rfl : _ = recs (.slice (some ⟨g, off, none⟩) L.length cc) L * (nblk bn bt bd ⟨Tbl.zero, ep + 1, false⟩ * (tab bt (runL Tbl.zero (L.take (q + 1))) * (dsk bd d9 * R))))).right.eq (by rw [show L.take (q + 1) = F from hfk.out]; rfl))⟩
end Go.Proofs.Ytfihmpkkpgmdhac
