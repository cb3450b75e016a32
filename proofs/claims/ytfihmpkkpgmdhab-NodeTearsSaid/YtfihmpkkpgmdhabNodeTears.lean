/-
  NodeTears, walked: all or nothing.
-/
import Derived.Test.YtfihmpkkpgmdhabCrewD
import Derived.Test.YtfihmpkkpgmdhabBehind
namespace Go.Proofs.Ytfihmpkkpgmdhab
set_option linter.unusedSimpArgs false
set_option linter.unusedVariables false
open Go.RowKit
set_option maxRecDepth 100000 in
set_option maxHeartbeats 8000000 in
theorem nodeTears_any (v0 v1 : Value) (c_ nw j r k_ m_ : Int) (kp : Int) (B : List UInt8) (L : List Stp) (w : World) (hb : BytesAt w v0 B) (hL : (∀ r ∈ L, ∀ n ∈ r.ints, I64' n) ∧ RowAt w v1 L.length (svs L)) (ha : I64' kp) :
    Calls Try.prog 10 #[v0, v1, .agg #[.int .i64 c_, .int .i64 nw, .int .i64 j, .int .i64 r, .int .i64 k_, .int .i64 m_], .int .i64 kp] w fun e w' => e = .returned (.bool true) ∧ Below w.heap.size w w' := by
  obtain ⟨ab, cb, rfl, _, _⟩ := hb.shape
  obtain ⟨al, cl, rfl, _, _⟩ := hL.2.shape
  have HBY := Lib.hid hb; have HV := Lib.hid hL.2; clear hb hL ha
  obtain ⟨w0, hw0, H0, Q0⟩ : ∃ w0, w.alloc (.cells #[.int .i64 c_, .int .i64 nw, .int .i64 j, .int .i64 r, .int .i64 k_, .int .i64 m_] 35) = w0 ∧ Hid (Holds w0 (bl w.heap.size 35 [.int .i64 c_, .int .i64 nw, .int .i64 j, .int .i64 r, .int .i64 k_, .int .i64 m_] * old w)) ∧ Hid (Quiet w w0) :=
    ⟨_, rfl, Lib.hid ((Holds.old (w := w)).boxB (ty := 35) (cs := [.int .i64 c_, .int .i64 nw, .int .i64 j, .int .i64 r, .int .i64 k_, .int .i64 m_]) rfl), Lib.hid ((Quiet.refl w).alloc _)⟩
  obtain ⟨g0, hg0⟩ : ∃ g0, w.heap.size = g0 := ⟨_, rfl⟩
  rw [hg0] at H0
  go_enter Try.func10, Try.ntmps10
  go_wp2_with fail
  clear hw0 hg0
  refine (nodeBegun_any _).mono ?_
  rintro e w1 ⟨rfl, hb1⟩
  have H1 := Lib.hid (H0.out.below hb1)
  have Q1 := Lib.hid (Q0.out.trans (Quiet.below hb1)); clear hb1 H0 Q0
  by_cases hb1400 : 1400 < B.length
  · go_wp2
    go_ret
    exact ⟨rfl, H1.out.toBelow Q1.out⟩
  · by_cases hl200 : 200 < L.length
    · go_wp2
      go_ret
      exact ⟨rfl, H1.out.toBelow Q1.out⟩
    · go_wp2_with fail
      have HB1 := Lib.hid (HBY.out.old H1.out)
      refine (newCrew_sl _ B _ HB1.out (by omega)).mono ?_
      rintro e w2 ⟨b, bd, bp, rfl, q2, h2⟩
      have h2f := ((h2.eq (by unfold CH; ac_rfl : _ = (cblk b bd bp (.slice none 0 0) (.slice none 0 0) * (dsk bd ⟨1, B⟩ * (plt bp 115 [] ⟨1, B⟩ * (nrow (.slice none 0 0) [] * (vrow (.slice none 0 0) [] * (nls bd [] [] * vls bp [] [])))))) * old w1)).frame H1.out)
      have H2 := Lib.hid (show Holds w2 (CH b bd bp (.slice none 0 0) (.slice none 0 0) [] [] ⟨⟨1, B⟩, []⟩ ⟨⟨1, B⟩, []⟩ (bl g0 35 [.int .i64 c_, .int .i64 nw, .int .i64 j, .int .i64 r, .int .i64 k_, .int .i64 m_] * old w)) from h2f.eq (by unfold CH; ac_rfl))
      have Q2 := Lib.hid (Q1.out.trans q2); clear h2 q2 h2f HB1
      go_wp2_with fail
      go_loopw [10] (fun i wr => ∃ (k : Nat) (vn vv : Value) (pn pv : List Nat) (c v : Crw), k ≤ L.length ∧ i = .int .i64 k ∧ Holds wr (CH b bd bp vn vv pn pv c v (bl g0 35 [.int .i64 c_, .int .i64 nw, .int .i64 j, .int .i64 r, .int .i64 k_, .int .i64 m_] * old w)) ∧ Quiet w wr ∧ Cok pn pv c v) (fun i _ => L.length - (intOf i).toNat)
      case atStart => exact ⟨0, _, _, _, _, _, _, by omega, rfl, H2.out, Q2.out, cok_zero (by omega)⟩
      case round =>
        obtain ⟨k, vn, vv, pn, pv, c, v, hk, rfl, hh, hq, hok⟩ := hrel
        obtain ⟨wo, rfl⟩ : ∃ wo : World, wo = wr := ⟨_, rfl⟩
        have HH := Lib.hid hh; have HQ := Lib.hid hq; have HOK := Lib.hid hok; clear hh hq hok
        by_cases hlt : k < L.length
        · obtain ⟨o, ho⟩ : ∃ o, L[k]? = some o := ⟨_, List.getElem?_eq_getElem hlt⟩
          obtain ⟨ga, off, c', e, _, _, hc0⟩ := HV.out.get (by omega)
          simp only [Value.slice.injEq] at e
          obtain ⟨rfl, _, rfl⟩ := e
          obtain ⟨x0, x1, x2, x3, x4, x5, x6, x7, x8⟩ := stp_cells HV.out ho (HH.out.eq (by unfold CH; ac_rfl : _ = ((cblk b bd bp vn vv * (dsk bd c.d * (plt bp 115 [] v.d * (nrow vn pn * (vrow vv pv * (nls bd pn c.ns * vls bp pv v.ns)))))) * bl g0 35 [.int .i64 c_, .int .i64 nw, .int .i64 j, .int .i64 r, .int .i64 k_, .int .i64 m_]) * old w))
          obtain ⟨kd, x, kp, ⟨kd2, nw, jb, tr, wk, tm⟩⟩ := o
          dsimp only at x0 x1 x2 x3 x4 x5 x6 x7 x8
          clear ho hc0
          go_wp2_with fail
          refine (cstep_sl b bd bp vn vv pn pv c v kd x kp kd2 nw jb tr wk tm _ HH.out HOK.out).mono ?_
          rintro e w3 ⟨vn', vv', pn', pv', c', v', y, rfl, q3, h3, hok', _⟩
          have Q3 := Lib.hid (HQ.out.trans q3)
          clear x0 x1 x2 x3 x4 x5 x6 x7 x8
          go_wp2_with fail
          go_roundw
          case rel => exact ⟨k + 1, vn', vv', pn', pv', c', v', by omega, by go_num, h3, Q3.out, hok'⟩
          case measure => simp [intOf]; omega
        · obtain rfl : k = L.length := by omega
          obtain ⟨RB, hRB⟩ : ∃ RB, plt bp 115 [] v.d * (nrow vn pn * (vrow vv pv * (nls bd pn c.ns * vls bp pv v.ns))) = RB := ⟨_, rfl⟩
          have H9 := Lib.hid (HH.out.eq (by unfold CH; rw [← hRB]; ac_rfl : _ = dsk bd c.d * (cblk b bd bp vn vv * (bl g0 35 [.int .i64 c_, .int .i64 nw, .int .i64 j, .int .i64 r, .int .i64 k_, .int .i64 m_] * (RB * old w)))))
          have cc0 := (show BlockAt wo b 78 [.pointer (some ⟨bd, 0, none⟩), .pointer (some ⟨bp, 0, none⟩), vn, vv] from H9.out.right.bl).cells
          clear hRB
          by_cases hfull : 100 ≤ c.d.ep
          · have HFU := Lib.hid hfull; clear hfull
            go_wp2_with fail
            refine (nOpen_full bd c.d _ H9.out HOK.out.g1.dok (by have := HFU.out; omega)).mono ?_
            rintro e w3 ⟨rfl, q3, h3⟩
            go_wp2
            go_ret
            exact ⟨rfl, (h3.eq (by ac_rfl : _ = (dsk bd c.d * (cblk b bd bp vn vv * (bl g0 35 [.int .i64 c_, .int .i64 nw, .int .i64 j, .int .i64 r, .int .i64 k_, .int .i64 m_] * RB))) * old w)).toBelow (HQ.out.trans q3)⟩
          · have HFU := Lib.hid hfull
            obtain ⟨n1, hn1⟩ : ∃ n1 : Nod, n1 = ⟨behind (found c.d), c.d.ep + 1, false⟩ := ⟨_, rfl⟩
            obtain ⟨d1, hd1⟩ : ∃ d1, (opened c.d).1 = d1 := ⟨_, rfl⟩
            obtain ⟨⟨x1, x2, cd⟩, hx⟩ : ∃ X, n1.tear d1 ⟨c_, nw, j, r, k_, m_⟩ (keepN kp) = X := ⟨_, rfl⟩
            obtain ⟨dok, xok, hall, hxep, hopen, hno, hyes⟩ := tears_law HOK.out.g1.dok hfull ⟨c_, nw, j, r, k_, m_⟩ kp hd1 hn1 hx
            have hn1ep : 1 ≤ n1.ep := by rw [hn1]; have := HOK.out.g1.dok.ep; dsimp only; omega
            have hn1t : n1.t.Ok := by rw [hn1]; exact (behind_in _).ok
            obtain ⟨F, hF⟩ : ∃ F, found c.d = F := ⟨_, rfl⟩
            obtain ⟨G, hG⟩ : ∃ G, found x1 = G := ⟨_, rfl⟩
            rw [hF] at hall hno hyes
            rw [hG] at hno hyes hopen
            have hb15 : d1.b.length ≤ 1500 := dok.b
            have hll : 9 * F.length ≤ d1.b.length := by have := allB_len d1.b; rwa [hall] at this
            obtain ⟨⟨T', ⟨a0, a1, a2⟩⟩, hD⟩ : ∃ X, (behind F).did ⟨c_, nw, j, r, k_, m_⟩ = X := ⟨_, rfl⟩
            rw [hD] at hno hyes
            dsimp only at hno hyes
            have N1 := Lib.hid hn1; have D1 := Lib.hid hd1; have HX := Lib.hid hx; have DOK := Lib.hid dok; have XOK := Lib.hid xok; have HALL := Lib.hid hall; have HOP := Lib.hid hopen; have HNO := Lib.hid hno; have HYES := Lib.hid hyes; have HD := Lib.hid hD; have XEP := Lib.hid hxep; have NEP := Lib.hid hn1ep; have NT := Lib.hid hn1t; have HG := Lib.hid hG
            clear hfull hn1 hd1 hx dok xok hall hxep hopen hno hyes hF hG hD hn1ep hn1t
            go_wp2_with fail
            refine (nOpen_sl bd c.d _ H9.out HOK.out.g1.dok (by have := HFU.out; omega)).mono ?_
            rw [← N1.out, D1.out]
            rintro e w3 ⟨bn, rfl, q3, h3⟩
            have H3 := Lib.hid (show Holds w3 (nod bn bd n1 * (dsk bd d1 * (cblk b bd bp vn vv * (bl g0 35 [.int .i64 c_, .int .i64 nw, .int .i64 j, .int .i64 r, .int .i64 k_, .int .i64 m_] * (RB * old w))))) from h3)
            have Q3 := Lib.hid (HQ.out.trans q3)
            have cc3 := (show BlockAt w3 b 78 [.pointer (some ⟨bd, 0, none⟩), .pointer (some ⟨bp, 0, none⟩), vn, vv] from H3.out.three.bl).cells
            clear h3 q3 cc0 H9
            go_wp2_with fail
            refine (bytes_sl bd d1 _ H3.out.two DOK.out).mono ?_
            rintro e w4 ⟨vb, rfl, q4, h4⟩
            have H4 := Lib.hid (show Holds w4 (ownb vb d1.b * (dsk bd d1 * (nod bn bd n1 * (cblk b bd bp vn vv * (bl g0 35 [.int .i64 c_, .int .i64 nw, .int .i64 j, .int .i64 r, .int .i64 k_, .int .i64 m_] * (RB * old w)))))) from h4); have Q4 := Lib.hid (Q3.out.trans q4); clear h4 q4 H3 cc3
            go_wp2_with fail
            refine (all_sl _ d1.b _ H4.out.ownb.bytes (by omega) H4.out).mono ?_
            rw [HALL.out]
            rintro e w5 ⟨vr, rfl, q5, h5⟩
            obtain ⟨ar, cr, rfl, _, _⟩ := h5.row.shape
            have H5 := Lib.hid (show Holds w5 (recs (.slice ar F.length cr) F * (ownb vb d1.b * (dsk bd d1 * (nod bn bd n1 * (cblk b bd bp vn vv * (bl g0 35 [.int .i64 c_, .int .i64 nw, .int .i64 j, .int .i64 r, .int .i64 k_, .int .i64 m_] * (RB * old w))))))) from h5); have Q5 := Lib.hid (Q4.out.trans q5); clear h5 q5 H4
            have hlF : F.length ≤ 200 := by omega
            clear hll hb15
            go_wp2_with fail
            refine (behind_sl _ F _ H5.out.row (by omega) H5.out).mono ?_
            rintro e w6 ⟨bb, rfl, q6, h6⟩
            have H6 := Lib.hid (show Holds w6 (tb bb 41 (behind F) * (recs (.slice ar F.length cr) F * (ownb vb d1.b * (dsk bd d1 * (nod bn bd n1 * (cblk b bd bp vn vv * (bl g0 35 [.int .i64 c_, .int .i64 nw, .int .i64 j, .int .i64 r, .int .i64 k_, .int .i64 m_] * (RB * old w)))))))) from h6); have Q6 := Lib.hid (Q5.out.trans q6); clear h6 q6 H5
            have co6 := (H6.out.eq (by ac_rfl : _ = bl g0 35 [.int .i64 c_, .int .i64 nw, .int .i64 j, .int .i64 r, .int .i64 k_, .int .i64 m_] * (tb bb 41 (behind F) * (recs (.slice ar F.length cr) F * (ownb vb d1.b * (dsk bd d1 * (nod bn bd n1 * (cblk b bd bp vn vv * (RB * old w))))))))).bl.cells
            go_wp2_with fail
            refine (bdo_sl bb (behind F) c_ nw j r k_ m_ _ H6.out (behind_in F).ok).mono ?_
            rw [HD.out]
            rintro e w7 ⟨rfl, q7, h7⟩
            dsimp only
            have H7 := Lib.hid (((show Holds w7 (tb bb 41 T' * (recs (.slice ar F.length cr) F * (ownb vb d1.b * (dsk bd d1 * (nod bn bd n1 * (cblk b bd bp vn vv * (bl g0 35 [.int .i64 c_, .int .i64 nw, .int .i64 j, .int .i64 r, .int .i64 k_, .int .i64 m_] * (RB * old w)))))))) from h7).boxB (ty := 32) (cs := [.int .i64 a0, .int .i64 a1, .int .i64 a2]) rfl).eq (by ac_rfl : _ = nod bn bd n1 * (dsk bd d1 * (tb bb 41 T' * (bl w7.heap.size 32 [.int .i64 a0, .int .i64 a1, .int .i64 a2] * (recs (.slice ar F.length cr) F * (ownb vb d1.b * (cblk b bd bp vn vv * (bl g0 35 [.int .i64 c_, .int .i64 nw, .int .i64 j, .int .i64 r, .int .i64 k_, .int .i64 m_] * (RB * old w))))))))))
            have Q7 := Lib.hid ((Q6.out.trans q7).alloc (.cells #[.int .i64 a0, .int .i64 a1, .int .i64 a2] 32))
            obtain ⟨gy, hgy⟩ : ∃ gy, w7.heap.size = gy := ⟨_, rfl⟩
            obtain ⟨w8, hw8⟩ : ∃ w8, w7.alloc (.cells #[.int .i64 a0, .int .i64 a1, .int .i64 a2] 32) = w8 := ⟨_, rfl⟩
            rw [hgy, show w7.alloc (.cells ([.int .i64 a0, .int .i64 a1, .int .i64 a2] : List Value).toArray 32) = w8 from hw8] at H7
            rw [hw8] at Q7
            clear h7 q7 co6 H6 Q6
            have co8 := (H7.out.eq (by ac_rfl : _ = bl g0 35 [.int .i64 c_, .int .i64 nw, .int .i64 j, .int .i64 r, .int .i64 k_, .int .i64 m_] * (nod bn bd n1 * (dsk bd d1 * (tb bb 41 T' * (bl gy 32 [.int .i64 a0, .int .i64 a1, .int .i64 a2] * (recs (.slice ar F.length cr) F * (ownb vb d1.b * (cblk b bd bp vn vv * (RB * old w)))))))))).bl.cells
            go_wp2_with fail
            clear hw8 hgy
            refine (nTear_sl bn bd d1 n1 c_ nw j r k_ m_ kp _ H7.out DOK.out NEP.out NT.out).mono ?_
            rw [HX.out]
            rintro e w9 ⟨rfl, q9, h9⟩
            dsimp only
            have H10 := Lib.hid ((show Holds w9 (nod bn bd x2 * (dsk bd x1 * (tb bb 41 T' * (bl gy 32 [.int .i64 a0, .int .i64 a1, .int .i64 a2] * (recs (.slice ar F.length cr) F * (ownb vb d1.b * (cblk b bd bp vn vv * (bl g0 35 [.int .i64 c_, .int .i64 nw, .int .i64 j, .int .i64 r, .int .i64 k_, .int .i64 m_] * (RB * old w))))))))) from h9).eq (by ac_rfl : _ = dsk bd x1 * (cblk b bd bp vn vv * (nod bn bd x2 * (tb bb 41 T' * (bl gy 32 [.int .i64 a0, .int .i64 a1, .int .i64 a2] * (recs (.slice ar F.length cr) F * (ownb vb d1.b * (bl g0 35 [.int .i64 c_, .int .i64 nw, .int .i64 j, .int .i64 r, .int .i64 k_, .int .i64 m_] * (RB * old w))))))))))
            have Q10 := Lib.hid (Q7.out.trans q9)
            have cc9 := (show BlockAt w9 b 78 [.pointer (some ⟨bd, 0, none⟩), .pointer (some ⟨bp, 0, none⟩), vn, vv] from H10.out.two.bl).cells
            clear h9 q9 co8 H7 Q7
            by_cases hf2 : 100 ≤ x1.ep
            · have HF2 := Lib.hid hf2; clear hf2
              go_wp2_with fail
              refine (nOpen_full bd x1 _ H10.out XOK.out (by have := HF2.out; omega)).mono ?_
              rintro e w10 ⟨rfl, q10, h10⟩
              go_wp2
              go_ret
              exact ⟨rfl, (h10.eq (by ac_rfl : _ = (dsk bd x1 * (cblk b bd bp vn vv * (nod bn bd x2 * (tb bb 41 T' * (bl gy 32 [.int .i64 a0, .int .i64 a1, .int .i64 a2] * (recs (.slice ar F.length cr) F * (ownb vb d1.b * (bl g0 35 [.int .i64 c_, .int .i64 nw, .int .i64 j, .int .i64 r, .int .i64 k_, .int .i64 m_] * RB)))))))) * old w)).toBelow (Q10.out.trans q10)⟩
            · have HF2 := Lib.hid hf2
              obtain ⟨hdok3, hall3⟩ := HOP.out (by omega)
              obtain ⟨d3, hd3⟩ : ∃ d3, (opened x1).1 = d3 := ⟨_, rfl⟩
              rw [hd3] at hdok3 hall3
              have hb153 : d3.b.length ≤ 1500 := hdok3.b
              have hll3 : 9 * G.length ≤ d3.b.length := by have := allB_len d3.b; rwa [hall3] at this
              have D3 := Lib.hid hd3; have DOK3 := Lib.hid hdok3; have HALL3 := Lib.hid hall3
              clear hf2 hd3 hdok3 hall3
              go_wp2_with fail
              refine (nOpen_sl bd x1 _ H10.out XOK.out (by have := HF2.out; omega)).mono ?_
              rw [HG.out, D3.out]
              rintro e w11 ⟨bm, rfl, q11, h11⟩
              obtain ⟨m1, hm1⟩ : ∃ m1 : Nod, (⟨behind G, x1.ep + 1, false⟩ : Nod) = m1 := ⟨_, rfl⟩
              have M1 := Lib.hid hm1
              have H11 := Lib.hid (show Holds w11 (nod bm bd m1 * (dsk bd d3 * (cblk b bd bp vn vv * (nod bn bd x2 * (tb bb 41 T' * (bl gy 32 [.int .i64 a0, .int .i64 a1, .int .i64 a2] * (recs (.slice ar F.length cr) F * (ownb vb d1.b * (bl g0 35 [.int .i64 c_, .int .i64 nw, .int .i64 j, .int .i64 r, .int .i64 k_, .int .i64 m_] * (RB * old w)))))))))) from by rw [← hm1]; exact h11)
              have Q11 := Lib.hid (Q10.out.trans q11)
              have cc11 := (show BlockAt w11 b 78 [.pointer (some ⟨bd, 0, none⟩), .pointer (some ⟨bp, 0, none⟩), vn, vv] from H11.out.three.bl).cells
              clear h11 q11 cc9 hm1 H10 Q10
              go_wp2_with fail
              refine (bytes_sl bd d3 _ H11.out.two DOK3.out).mono ?_
              rintro e w12 ⟨vb3, rfl, q12, h12⟩
              have H12 := Lib.hid (show Holds w12 (ownb vb3 d3.b * (dsk bd d3 * (nod bm bd m1 * (cblk b bd bp vn vv * (nod bn bd x2 * (tb bb 41 T' * (bl gy 32 [.int .i64 a0, .int .i64 a1, .int .i64 a2] * (recs (.slice ar F.length cr) F * (ownb vb d1.b * (bl g0 35 [.int .i64 c_, .int .i64 nw, .int .i64 j, .int .i64 r, .int .i64 k_, .int .i64 m_] * (RB * old w))))))))))) from h12); have Q12 := Lib.hid (Q11.out.trans q12); clear h12 q12 H11 cc11
              go_wp2_with fail
              refine (all_sl _ d3.b _ H12.out.ownb.bytes (by omega) H12.out).mono ?_
              rw [HALL3.out]
              rintro e w13 ⟨vr3, rfl, q13, h13⟩
              obtain ⟨ar3, cr3, rfl, _, _⟩ := h13.row.shape
              have H13 := Lib.hid ((show Holds w13 (recs (.slice ar3 G.length cr3) G * (ownb vb3 d3.b * (dsk bd d3 * (nod bm bd m1 * (cblk b bd bp vn vv * (nod bn bd x2 * (tb bb 41 T' * (bl gy 32 [.int .i64 a0, .int .i64 a1, .int .i64 a2] * (recs (.slice ar F.length cr) F * (ownb vb d1.b * (bl g0 35 [.int .i64 c_, .int .i64 nw, .int .i64 j, .int .i64 r, .int .i64 k_, .int .i64 m_] * (RB * old w)))))))))))) from h13).eq (by ac_rfl : _ = recs (.slice ar3 G.length cr3) G * (recs (.slice ar F.length cr) F * (nod bn bd x2 * (bl gy 32 [.int .i64 a0, .int .i64 a1, .int .i64 a2] * (bl g0 35 [.int .i64 c_, .int .i64 nw, .int .i64 j, .int .i64 r, .int .i64 k_, .int .i64 m_] * (nod bm bd m1 * (tb bb 41 T' * ((ownb vb3 d3.b * (dsk bd d3 * (cblk b bd bp vn vv * (ownb vb d1.b * RB)))) * old w)))))))))
              have Q13 := Lib.hid (Q12.out.trans q13)
              have hlG : G.length ≤ 200 := by omega
              have cy13 := H13.out.four.bl.cells
              have HR3 := Lib.hid H13.out.row
              have HRF := Lib.hid H13.out.two.row
              clear h13 q13 H12 Q12 hll3 hb153
              by_cases hcd : cd = 0
              · subst hcd
                obtain ⟨hxd, ha0, hlt9, hge9⟩ := HYES.out rfl
                subst ha0
                by_cases h9 : kp < 9
                · have hGF : G = F := hlt9 h9
                  have hb9 : decide (kp < 9) = true := decide_eq_true h9
                  have HXD := Lib.hid hxd
                  subst hGF
                  clear hlt9 hge9 h9 hxd
                  go_wp2_with fail
                  refine (nDown_sl bn bd x2 _ H13.out.three).mono ?_
                  rintro e w14 ⟨rfl, rfl⟩
                  rw [HXD.out]
                  go_wp2_with fail
                  refine (same_recs _ _ _ _ HRF.out HR3.out (by omega)).mono ?_
                  rintro e w15 ⟨rfl, n15, rfl⟩
                  go_wp2
                  go_ret
                  exact ⟨rfl, ((H13.out.drewN n15).eq (by ac_rfl : _ = (recs (.slice ar3 G.length cr3) G * (recs (.slice ar G.length cr) G * (nod bn bd x2 * (bl gy 32 [.int .i64 0, .int .i64 a1, .int .i64 a2] * (bl g0 35 [.int .i64 c_, .int .i64 nw, .int .i64 j, .int .i64 r, .int .i64 k_, .int .i64 m_] * (nod bm bd m1 * (tb bb 41 T' * (ownb vb3 d3.b * (dsk bd d3 * (cblk b bd bp vn vv * (ownb vb d1.b * RB))))))))))) * old w)).toBelow (Q13.out.drewN n15)⟩
                · have hGF : G = F ++ [⟨c.d.ep + 1, ⟨c_, nw, j, r, k_, m_⟩⟩] := hge9 (by omega)
                  have hGl : (G.length : Int) = (F.length : Int) + 1 := by rw [hGF]; simp
                  have hGn : G.length = F.length + 1 := by rw [hGF]; simp
                  have hGt : G.take F.length = F := by rw [hGF]; simp
                  have hGg : G[F.length]? = some ⟨c.d.ep + 1, ⟨c_, nw, j, r, k_, m_⟩⟩ := by rw [hGF]; simp
                  have hT : m1.t = T' := by rw [← M1.out, hGF, behind_snoc]; dsimp only; rw [HD.out]
                  have hb9 : decide (kp < 9) = false := decide_eq_false h9
                  have hlb : ((G.length : Int) != (F.length : Int) + 1) = false := by simpa using hGl
                  have hwl : IntKind.i64.wrap ((F.length : Int) + 1) = (F.length : Int) + 1 := by rw [IntKind.wrap_i64]; omega
                  have hcG : G.length ≤ cr3 := by obtain ⟨_, _, e, h, _⟩ := HR3.out.shape; simp only [Value.slice.injEq] at e; omega
                  have hcF : F.length ≤ cr3 := by omega
                  have hcFi : (F.length : Int) ≤ (cr3 : Int) := by omega
                  have hFG : (F.length : Int) < (G.length : Int) := by omega
                  have hFGn : F.length < G.length := by omega
                  have HXD := Lib.hid hxd; have HGT := Lib.hid hGt; have HGG := Lib.hid hGg; have HT := Lib.hid hT
                  obtain ⟨gr, or_, cr', er, _, _, hcr⟩ := HR3.out.get (by omega)
                  simp only [Value.slice.injEq] at er
                  obtain ⟨rfl, _, rfl⟩ := er
                  clear hlt9 hge9 h9 hxd hGF hGt hGg hT hGl hGn hcr
                  go_wp2_with fail
                  refine (nDown_sl bn bd x2 _ H13.out.three).mono ?_
                  rintro e w14 ⟨rfl, rfl⟩
                  rw [HXD.out]
                  go_wp2_with fail
                  have mkS : ∀ (W : World), Holds W (recs (.slice (some ⟨gr, or_, none⟩) G.length cr3) G * (recs (.slice ar F.length cr) F * (nod bn bd x2 * (bl gy 32 [.int .i64 0, .int .i64 a1, .int .i64 a2] * (bl g0 35 [.int .i64 c_, .int .i64 nw, .int .i64 j, .int .i64 r, .int .i64 k_, .int .i64 m_] * (nod bm bd m1 * (tb bb 41 T' * ((ownb vb3 d3.b * (dsk bd d3 * (cblk b bd bp vn vv * (ownb vb d1.b * RB)))) * old w)))))))) → W.cell? ⟨gr, or_ + F.length * 7, none⟩ = some (.int .i64 (c.d.ep + 1)) ∧ W.cell? ⟨gr, or_ + F.length * 7 + 1, none⟩ = some (.int .i64 c_) ∧ W.cell? ⟨gr, or_ + F.length * 7 + 2, none⟩ = some (.int .i64 nw) ∧ W.cell? ⟨gr, or_ + F.length * 7 + 3, none⟩ = some (.int .i64 j) ∧ W.cell? ⟨gr, or_ + F.length * 7 + 4, none⟩ = some (.int .i64 r) ∧ W.cell? ⟨gr, or_ + F.length * 7 + 5, none⟩ = some (.int .i64 k_) ∧ W.cell? ⟨gr, or_ + F.length * 7 + 6, none⟩ = some (.int .i64 m_) ∧ ∀ o, W.cell? ⟨g0, o, none⟩ = ([.int .i64 c_, .int .i64 nw, .int .i64 j, .int .i64 r, .int .i64 k_, .int .i64 m_] : List Value)[o]? := by
                    intro W hW
                    obtain ⟨g', o', c', e, _, _, hc⟩ := hW.row.get (by omega)
                    simp only [Value.slice.injEq, Option.some.injEq, Addr.mk.injEq, and_true] at e
                    obtain ⟨⟨rfl, rfl⟩, _, rfl⟩ := e
                    have y0 := rvs_cell hc HGG.out 0 _ (by omega) rfl
                    rw [Nat.add_zero] at y0
                    exact ⟨y0, rvs_cell hc HGG.out 1 _ (by omega) rfl, rvs_cell hc HGG.out 2 _ (by omega) rfl, rvs_cell hc HGG.out 3 _ (by omega) rfl, rvs_cell hc HGG.out 4 _ (by omega) rfl, rvs_cell hc HGG.out 5 _ (by omega) rfl, rvs_cell hc HGG.out 6 _ (by omega) rfl, hW.right.four.bl.cells⟩
                  have MKS := Lib.hid mkS
                  have S13 := Lib.hid (mkS _ H13.out.drew)
                  clear mkS
                  refine wp_region_lex (fun W => W.cell? ⟨gr, or_ + F.length * 7, none⟩ = some (.int .i64 (c.d.ep + 1)) ∧ W.cell? ⟨gr, or_ + F.length * 7 + 1, none⟩ = some (.int .i64 c_) ∧ W.cell? ⟨gr, or_ + F.length * 7 + 2, none⟩ = some (.int .i64 nw) ∧ W.cell? ⟨gr, or_ + F.length * 7 + 3, none⟩ = some (.int .i64 j) ∧ W.cell? ⟨gr, or_ + F.length * 7 + 4, none⟩ = some (.int .i64 r) ∧ W.cell? ⟨gr, or_ + F.length * 7 + 5, none⟩ = some (.int .i64 k_) ∧ W.cell? ⟨gr, or_ + F.length * 7 + 6, none⟩ = some (.int .i64 m_) ∧ ∀ o, W.cell? ⟨g0, o, none⟩ = ([.int .i64 c_, .int .i64 nw, .int .i64 j, .int .i64 r, .int .i64 k_, .int .i64 m_] : List Value)[o]?) [12, 15, 22] (by kernel_rfl) (by kernel_rfl) S13.out ?_
                  repeat (first | (refine LexL.none (by rfl) ?_; (try simp only [Act.put, List.setIfInBounds_toArray, List.set_cons_zero, List.set_cons_succ])) | (refine LexL.still (v := ?_) (by rfl) ?_ ?_; rotate_left; (focus (intro W hW; (try dsimp only at hW); go_simp; (try (with_reducible rfl)); done)); (try simp only [Act.put, List.setIfInBounds_toArray, List.set_cons_zero, List.set_cons_succ])))
                  refine LexL.call (f := 44) (args := #[.slice (some ⟨gr, or_, none⟩) F.length cr3, .slice ar F.length cr]) (w1 := w13.drew) (by rfl) (by decide) (by go_simp) ?_
                  have hrt := recs_take H13.out.drew.row (by omega : F.length ≤ G.length)
                  rw [HGT.out] at hrt
                  refine (same_recs _ _ F _ hrt (H13.out.drew.two.row) (by omega)).mono ?_
                  rintro e w15 ⟨rfl, n15, rfl⟩
                  refine ⟨_, rfl, MKS.out _ (H13.out.drew.drewN n15), ?_⟩
                  try simp only [Act.put, List.setIfInBounds_toArray, List.set_cons_zero, List.set_cons_succ]
                  repeat (first | (refine LexL.none (by rfl) ?_; (try simp only [Act.put, List.setIfInBounds_toArray, List.set_cons_zero, List.set_cons_succ])) | (refine LexL.still (v := ?_) (by rfl) ?_ ?_; rotate_left; (focus (intro W hW; (try dsimp only at hW); go_simp; (try (with_reducible rfl)); done)); (try simp only [Act.put, List.setIfInBounds_toArray, List.set_cons_zero, List.set_cons_succ])))
                  refine LexL.call (f := 42) (args := #[.pointer (some ⟨bn, 0, none⟩)]) (w1 := w13.drew.drewN n15) (by rfl) (by decide) (by go_simp) ?_
                  refine (nEpoch_sl bn bd x2 _ (H13.out.drew.drewN n15).three).mono ?_
                  rintro e w16 ⟨rfl, rfl⟩
                  rw [XEP.out]
                  refine ⟨_, rfl, MKS.out _ (H13.out.drew.drewN n15), ?_⟩
                  try simp only [Act.put, List.setIfInBounds_toArray, List.set_cons_zero, List.set_cons_succ]
                  repeat (first | (refine LexL.none (by rfl) ?_; (try simp only [Act.put, List.setIfInBounds_toArray, List.set_cons_zero, List.set_cons_succ])) | (refine LexL.still (v := ?_) (by rfl) ?_ ?_; rotate_left; (focus (intro W hW; (try dsimp only at hW); go_simp; (try (with_reducible rfl)); done)); (try simp only [Act.put, List.setIfInBounds_toArray, List.set_cons_zero, List.set_cons_succ])))
                  refine LexL.done ?_
                  obtain ⟨w17, hw17⟩ : ∃ w17, w13.drew.drewN n15 = w17 := ⟨_, rfl⟩
                  have h17 := H13.out.drew.drewN n15
                  have q17 := Q13.out.drew.drewN n15
                  rw [hw17] at h17 q17 ⊢
                  obtain ⟨RZ, hRZ⟩ : ∃ RZ, recs (.slice (some ⟨gr, or_, none⟩) G.length cr3) G * (recs (.slice ar F.length cr) F * (nod bn bd x2 * (bl gy 32 [.int .i64 0, .int .i64 a1, .int .i64 a2] * (bl g0 35 [.int .i64 c_, .int .i64 nw, .int .i64 j, .int .i64 r, .int .i64 k_, .int .i64 m_] * (ownb vb3 d3.b * (dsk bd d3 * (cblk b bd bp vn vv * (ownb vb d1.b * RB)))))))) = RZ := ⟨_, rfl⟩
                  obtain ⟨bt, h18⟩ := nod_open (h17.eq (by rw [← hRZ]; ac_rfl : _ = nod bm bd m1 * (tb bb 41 T' * (RZ * old w))))
                  rw [HT.out] at h18
                  have H18 := Lib.hid h18; have Q17 := Lib.hid q17
                  clear hw17 h17 q17 hRZ h18 cy13 hrt H13 Q13 HR3 HRF S13
                  go_wp2_with fail
                  go_loopw [20] (fun i wr => ∃ q : Nat, q ≤ 6 ∧ i = .int .i64 q ∧ Holds wr (nblk bm bt bd m1 * (tab bt T' * (tb bb 41 T' * (RZ * old w)))) ∧ Quiet w wr) (fun i _ => 6 - (intOf i).toNat)
                  case atStart => exact ⟨0, by omega, rfl, H18.out, Q17.out⟩
                  case round =>
                    obtain ⟨q, hq, rfl, hh, hqu⟩ := hrel
                    have HHm := Lib.hid hh; have HQm := Lib.hid hqu; clear hh hqu
                    by_cases hlt2 : q < 6
                    · obtain ⟨⟨s1, s2, s3, s4⟩, hJ⟩ : ∃ J, T'.job q = J := ⟨_, rfl⟩
                      have HJ := Lib.hid hJ
                      have cn := (show BlockAt wr bm 87 (ncells bt bd m1) from HHm.out.bl).cell 0 _ rfl
                      have hlt2' : (q : Int) < 6 := by omega
                      clear hJ
                      go_wp2_with fail
                      refine (job_sl bt T' q _ HHm.out.two).mono ?_
                      rw [HJ.out]
                      simp only [Job.val, jcells]
                      rintro e w20 ⟨rfl, hb20⟩
                      have H20 := Lib.hid (HHm.out.below hb20); have Q20 := Lib.hid (HQm.out.trans (Quiet.below hb20))
                      clear hb20 cn
                      go_wp2_with fail
                      refine (bjob_sl bb T' q _ H20.out.three).mono ?_
                      rw [HJ.out]
                      simp only [Job.val, jcells]
                      rintro e w21 ⟨rfl, hb21⟩
                      have H21 := Lib.hid (H20.out.below hb21); have Q21 := Lib.hid (Q20.out.trans (Quiet.below hb21))
                      clear hb21
                      go_wp2_with fail
                      go_roundw
                      case rel => exact ⟨q + 1, by omega, by go_num, H21.out, Q21.out⟩
                      case measure => simp [intOf]; omega
                    · obtain rfl : q = 6 := by omega
                      go_wp2
                      go_ret
                      exact ⟨rfl, (HHm.out.eq (by ac_rfl : _ = (nblk bm bt bd m1 * (tab bt T' * (tb bb 41 T' * RZ))) * old w)).toBelow HQm.out⟩
              · obtain ⟨hor, hGF, hxd⟩ := HNO.out hcd
                have hcb : (cd != 0) = true := by simpa using hcd
                have HXD := Lib.hid hxd
                subst hGF
                clear hcd hxd
                by_cases hca : cd = a0
                · have hcab : (cd == a0) = true := by simpa using hca
                  clear hor hca
                  go_wp2_with fail
                  refine (same_recs _ _ _ _ HRF.out HR3.out (by omega)).mono ?_
                  rintro e w15 ⟨rfl, n15, rfl⟩
                  go_wp2_with fail
                  refine (nDown_sl bn bd x2 _ (H13.out.drewN n15).three).mono ?_
                  rintro e w16 ⟨rfl, rfl⟩
                  rw [HXD.out]
                  go_wp2
                  go_ret
                  exact ⟨rfl, ((H13.out.drewN n15).eq (by ac_rfl : _ = (recs (.slice ar3 G.length cr3) G * (recs (.slice ar G.length cr) G * (nod bn bd x2 * (bl gy 32 [.int .i64 a0, .int .i64 a1, .int .i64 a2] * (bl g0 35 [.int .i64 c_, .int .i64 nw, .int .i64 j, .int .i64 r, .int .i64 k_, .int .i64 m_] * (nod bm bd m1 * (tb bb 41 T' * (ownb vb3 d3.b * (dsk bd d3 * (cblk b bd bp vn vv * (ownb vb d1.b * RB))))))))))) * old w)).toBelow (Q13.out.drewN n15)⟩
                · have hcab : (cd == a0) = false := by simpa using hca
                  have hc8 : (cd == 8) = true := by simp; omega
                  clear hor hca
                  go_wp2_with fail
                  refine (same_recs _ _ _ _ HRF.out HR3.out (by omega)).mono ?_
                  rintro e w15 ⟨rfl, n15, rfl⟩
                  go_wp2_with fail
                  refine (nDown_sl bn bd x2 _ (H13.out.drewN n15).three).mono ?_
                  rintro e w16 ⟨rfl, rfl⟩
                  rw [HXD.out]
                  go_wp2
                  go_ret
                  exact ⟨rfl, ((H13.out.drewN n15).eq (by ac_rfl : _ = (recs (.slice ar3 G.length cr3) G * (recs (.slice ar G.length cr) G * (nod bn bd x2 * (bl gy 32 [.int .i64 a0, .int .i64 a1, .int .i64 a2] * (bl g0 35 [.int .i64 c_, .int .i64 nw, .int .i64 j, .int .i64 r, .int .i64 k_, .int .i64 m_] * (nod bm bd m1 * (tb bb 41 T' * (ownb vb3 d3.b * (dsk bd d3 * (cblk b bd bp vn vv * (ownb vb d1.b * RB))))))))))) * old w)).toBelow (Q13.out.drewN n15)⟩
end Go.Proofs.Ytfihmpkkpgmdhab
