/-
  NodeAnswers, walked: it is on the disk ahead of being answered.
-/
import Derived.Test.YtfihmpkkpgmdhabCrewD
import Derived.Test.YtfihmpkkpgmdhabBehind
import Derived.Test.YtfihmpkkpgmdhabUidx
namespace Go.Proofs.Ytfihmpkkpgmdhab
set_option linter.unusedSimpArgs false
set_option linter.unusedVariables false
open Go.RowKit
set_option maxRecDepth 100000 in
set_option maxHeartbeats 8000000 in
theorem nodeAnswers_any (v0 v1 : Value) (B : List UInt8) (L : List Stp) (w : World) (hb : BytesAt w v0 B) (hL : (∀ r ∈ L, ∀ n ∈ r.ints, I64' n) ∧ RowAt w v1 L.length (svs L)) :
    Calls Try.prog 11 #[v0, v1] w fun e w' => e = .returned (.bool true) ∧ Below w.heap.size w w' := by
  have hfldA : ∀ (a b c : Value) (W : World), (Instr.field 32 (.agg #[a, b, c]) 0).run Try.prog W = .ok a W := fun a b c W => by kernel_rfl
  obtain ⟨ab, cb, rfl, _, _⟩ := hb.shape
  obtain ⟨al, cl, rfl, _, _⟩ := hL.2.shape
  have HBY := Lib.hid hb; have HV := Lib.hid hL.2; clear hb hL
  go_enter Try.func11, Try.ntmps11
  go_wp2_with fail
  refine (nodeBegun_any _).mono ?_
  rintro e w1 ⟨rfl, hb1⟩
  have H1 := Lib.hid ((Holds.old (w := w)).below hb1)
  have Q1 := Lib.hid (Quiet.below hb1); clear hb1
  by_cases hb1400 : 1400 < B.length
  · go_wp2
    go_ret
    exact ⟨rfl, H1.out.toBelow' Q1.out⟩
  · by_cases hl200 : 200 < L.length
    · go_wp2
      go_ret
      exact ⟨rfl, H1.out.toBelow' Q1.out⟩
    · go_wp2_with fail
      have HB1 := Lib.hid (HBY.out.to H1.out.block)
      refine (newCrew_sl _ B _ HB1.out (by omega)).mono ?_
      rintro e w2 ⟨b, bd, bp, rfl, q2, h2⟩
      have h2f := ((h2.eq (by unfold CH; ac_rfl : _ = (cblk b bd bp (.slice none 0 0) (.slice none 0 0) * (dsk bd ⟨1, B⟩ * (plt bp 115 [] ⟨1, B⟩ * (nrow (.slice none 0 0) [] * (vrow (.slice none 0 0) [] * (nls bd [] [] * vls bp [] [])))))) * old w1)).frame H1.out)
      have H2 := Lib.hid (show Holds w2 (CH b bd bp (.slice none 0 0) (.slice none 0 0) [] [] ⟨⟨1, B⟩, []⟩ ⟨⟨1, B⟩, []⟩ (old w)) from h2f.eq (by unfold CH; ac_rfl))
      have Q2 := Lib.hid (Q1.out.trans q2); clear h2 q2 h2f HB1
      go_wp2_with fail
      go_loopw [6] (fun i wr => ∃ (k : Nat) (vn vv : Value) (pn pv : List Nat) (c v : Crw), k ≤ L.length ∧ i = .int .i64 k ∧ Holds wr (CH b bd bp vn vv pn pv c v (old w)) ∧ Quiet w wr ∧ Cok pn pv c v) (fun i _ => L.length - (intOf i).toNat)
      case atStart => exact ⟨0, _, _, _, _, _, _, by omega, rfl, H2.out, Q2.out, cok_zero (by omega)⟩
      case round =>
        obtain ⟨k, vn, vv, pn, pv, c, v, hk, rfl, hh, hq, hok⟩ := hrel
        obtain ⟨wo, rfl⟩ : ∃ wo : World, wo = wr := ⟨_, rfl⟩
        have HH := Lib.hid hh; have HQ := Lib.hid hq; have HOK := Lib.hid hok; clear hh hq hok
        by_cases hlt : k < L.length
        · obtain ⟨o, ho⟩ : ∃ o, L[k]? = some o := ⟨_, List.getElem?_eq_getElem hlt⟩
          have HO := Lib.hid ho
          obtain ⟨ga, off, c', e, _, _, hc0⟩ := HV.out.get (by omega)
          simp only [Value.slice.injEq] at e
          obtain ⟨rfl, _, rfl⟩ := e
          obtain ⟨x0, x1, x2, x3, x4, x5, x6, x7, x8⟩ := stp_cells HV.out ho (HH.out.eq (by unfold CH; ac_rfl : _ = (cblk b bd bp vn vv * (dsk bd c.d * (plt bp 115 [] v.d * (nrow vn pn * (vrow vv pv * (nls bd pn c.ns * vls bp pv v.ns)))))) * old w))
          obtain ⟨kd, x, kp, ⟨kd2, nw, jb, tr, wk, tm⟩⟩ := o
          dsimp only at x0 x1 x2 x3 x4 x5 x6 x7 x8
          clear ho hc0
          by_cases hkd : kd = 1
          · subst hkd
            obtain ⟨an, cn, rfl, _, _⟩ := (HH.out.eq (by unfold CH; ac_rfl : _ = nrow vn pn * (cblk b bd bp vn vv * (dsk bd c.d * (plt bp 115 [] v.d * (vrow vv pv * (nls bd pn c.ns * (vls bp pv v.ns * old w)))))))).row.shape
            have hln := HOK.out.ln
            have hl8 : pn.length ≤ 8 := by rw [hln]; exact HOK.out.g1.2
            have HLN := Lib.hid hln; clear hln
            by_cases hz : pn.length = 0
            · have hzb : ((pn.length : Int) == 0) = true := by simpa using hz
              have cc0 := (show BlockAt wo b 78 [.pointer (some ⟨bd, 0, none⟩), .pointer (some ⟨bp, 0, none⟩), (.slice an pn.length cn), vv] from HH.out.bl).cells
              go_wp2_with fail
              refine (cstep_sl b bd bp (.slice an pn.length cn) vv pn pv c v 1 x kp kd2 nw jb tr wk tm _ HH.out HOK.out).mono ?_
              rintro e w3 ⟨vn', vv', pn', pv', c', v', y, rfl, q3, h3, hok', _⟩
              have Q3 := Lib.hid (HQ.out.trans q3)
              clear cc0 x0 x1 x2 x3 x4 x5 x6 x7 x8
              go_wp2_with fail
              go_roundw
              case rel => exact ⟨k + 1, vn', vv', pn', pv', c', v', by omega, by go_num, h3, Q3.out, hok'⟩
              case measure => simp [intOf]; omega
            · have hzb : ((pn.length : Int) == 0) = false := by simpa using hz
              obtain ⟨K, hKl, hK⟩ := uidx x pn.length (by omega) (by omega)
              have hwl : IntKind.u64.wrap (pn.length : Int) = (pn.length : Int) := by
                have hw : ∀ n : Int, IntKind.u64.wrap n = n % 18446744073709551616 := fun n => by simp [IntKind.wrap, IntKind.bits, IntKind.signed]
                rw [hw]; omega
              have hzi : ¬ (pn.length : Int) = 0 := by omega
              have hK2 : IntKind.i64.wrap ((IntKind.u64.wrap x).tmod (pn.length : Int)) = (K : Int) := by
                have h1 := hK
                unfold wrap64 at h1
                rw [IntKind.wrap_i64]
                first | exact hK | omega
              obtain ⟨n, hn⟩ : ∃ n, c.ns[K]? = some n := ⟨_, List.getElem?_eq_getElem (by rw [← HLN.out]; exact hKl)⟩
              obtain ⟨p, hp⟩ : ∃ p, pn[K]? = some p := ⟨_, List.getElem?_eq_getElem hKl⟩
              obtain ⟨RN, hRN, hRN2⟩ := lst_pick (fun p n => nod p bd n) pn c.ns K p n hp hn
              obtain ⟨an1, an2, an3⟩ := HOK.out.g1.node hn
              obtain ⟨RB, hRB⟩ : ∃ RB, plt bp 115 [] v.d * (vrow vv pv * vls bp pv v.ns) = RB := ⟨_, rfl⟩
              have H0 := Lib.hid (HH.out.eq (by unfold CH nls; rw [hRN, ← hRB]; ac_rfl : _ = (cblk b bd bp (.slice an pn.length cn) vv * (nrow (.slice an pn.length cn) pn * (dsk bd c.d * (nod p bd n * (RN * (RB * old w))))))))
              obtain ⟨gn, on, cn', en, _, _, hcn⟩ := H0.out.two.row.get (by omega)
              simp only [Value.slice.injEq] at en
              obtain ⟨rfl, _, rfl⟩ := en
              have HO' := Lib.hid HO.out
              have mkS : ∀ (W : World) (A : HP), Holds W (cblk b bd bp (.slice (some ⟨gn, on, none⟩) pn.length cn) vv * (nrow (.slice (some ⟨gn, on, none⟩) pn.length cn) pn * (A * old w))) → (∀ o, W.cell? ⟨b, o, none⟩ = ([.pointer (some ⟨bd, 0, none⟩), .pointer (some ⟨bp, 0, none⟩), (.slice (some ⟨gn, on, none⟩) pn.length cn), vv] : List Value)[o]?) ∧ W.cell? ⟨gn, on + K, none⟩ = some (.pointer (some ⟨p, 0, none⟩)) ∧ W.cell? ⟨ga, off + k * 9, none⟩ = some (.int .i64 1) ∧ W.cell? ⟨ga, off + k * 9 + 1, none⟩ = some (.int .i64 x) ∧ W.cell? ⟨ga, off + k * 9 + 2, none⟩ = some (.int .i64 kp) ∧ W.cell? ⟨ga, off + k * 9 + 3, none⟩ = some (.int .i64 kd2) ∧ W.cell? ⟨ga, off + k * 9 + 4, none⟩ = some (.int .i64 nw) ∧ W.cell? ⟨ga, off + k * 9 + 5, none⟩ = some (.int .i64 jb) ∧ W.cell? ⟨ga, off + k * 9 + 6, none⟩ = some (.int .i64 tr) ∧ W.cell? ⟨ga, off + k * 9 + 7, none⟩ = some (.int .i64 wk) ∧ W.cell? ⟨ga, off + k * 9 + 8, none⟩ = some (.int .i64 tm) := by
                intro W A hW
                obtain ⟨g', o', c', e, _, _, hc⟩ := hW.two.row.get (by omega)
                simp only [Value.slice.injEq, Option.some.injEq, Addr.mk.injEq, and_true] at e
                obtain ⟨⟨rfl, rfl⟩, _, rfl⟩ := e
                exact ⟨(show BlockAt W b 78 [.pointer (some ⟨bd, 0, none⟩), .pointer (some ⟨bp, 0, none⟩), (.slice (some ⟨gn, on, none⟩) pn.length cn), vv] from hW.bl).cells, hc _ _ (pvs_get pn hp), stp_cells HV.out HO.out (hW.eq (by ac_rfl : _ = (cblk b bd bp (.slice (some ⟨gn, on, none⟩) pn.length cn) vv * (nrow (.slice (some ⟨gn, on, none⟩) pn.length cn) pn * A)) * old w))⟩
              have MKS := Lib.hid mkS
              obtain ⟨⟨d', n', ⟨a0, a1, a2⟩⟩, hX⟩ : ∃ X, n.order c.d ⟨kd2, nw, jb, tr, wk, tm⟩ 9 = X := ⟨_, rfl⟩
              obtain ⟨L1, hL1⟩ : ∃ L1, allB c.d.b = L1 := ⟨_, rfl⟩
              obtain ⟨L2, hL2⟩ : ∃ L2, allB d'.b = L2 := ⟨_, rfl⟩
              obtain ⟨hA1, hA2, hA3, hA4⟩ := answers_law HOK.out.g1 hn ⟨kd2, nw, jb, tr, wk, tm⟩ hX
              have hgo := HOK.out.g1.order hn ⟨kd2, nw, jb, tr, wk, tm⟩
              rw [hX] at hgo
              have hdo' : d'.Ok := hgo.dok
              have hb1 : c.d.b.length ≤ 1500 := HOK.out.g1.dok.b
              have hb2 : d'.b.length ≤ 1500 := hdo'.b
              have hl1 := allB_len c.d.b
              have hl2 := allB_len d'.b
              rw [hL1] at hl1 hA4
              rw [hL2] at hl2 hA4
              have hlen1 : L1.length ≤ 200 := by omega
              have hlen2 : L2.length ≤ 200 := by omega
              have hep' : d'.ep = v.d.ep := by rw [hA2]; exact HOK.out.ep
              have HN := Lib.hid hn; have HX := Lib.hid hX; have HL1 := Lib.hid hL1; have HL2 := Lib.hid hL2; have HA1 := Lib.hid hA1; have HA3 := Lib.hid hA3; have HA4 := Lib.hid hA4; have DO' := Lib.hid hdo'; have HB1 := Lib.hid hb1; have HB2 := Lib.hid hb2; have HEP := Lib.hid hep'; have HRN2 := Lib.hid hRN2; have HRB := Lib.hid hRB; have AN1 := Lib.hid an1; have AN3 := Lib.hid an3
              have hKi : (K : Int) < (pn.length : Int) := by omega
              have S0 := Lib.hid (mkS wo.drew _ (H0.out.drew.eq (by ac_rfl : _ = (cblk b bd bp (.slice (some ⟨gn, on, none⟩) pn.length cn) vv * (nrow (.slice (some ⟨gn, on, none⟩) pn.length cn) pn * ((dsk bd c.d * (nod p bd n * (RN * RB))) * old w))))))
              clear hn hp hX hL1 hL2 hA1 hA2 hA3 hA4 hdo' hb1 hb2 hl1 hl2 hep' hRN hRN2 hRB an1 an2 an3 hcn mkS hgo
              have cc0 := (show BlockAt wo b 78 [.pointer (some ⟨bd, 0, none⟩), .pointer (some ⟨bp, 0, none⟩), (.slice (some ⟨gn, on, none⟩) pn.length cn), vv] from H0.out.bl).cells
              go_wp2_with fail
              try simp only [hK, hK2]
              refine wp_region_lex (fun W => (∀ o, W.cell? ⟨b, o, none⟩ = ([.pointer (some ⟨bd, 0, none⟩), .pointer (some ⟨bp, 0, none⟩), (.slice (some ⟨gn, on, none⟩) pn.length cn), vv] : List Value)[o]?) ∧ W.cell? ⟨gn, on + K, none⟩ = some (.pointer (some ⟨p, 0, none⟩)) ∧ W.cell? ⟨ga, off + k * 9, none⟩ = some (.int .i64 1) ∧ W.cell? ⟨ga, off + k * 9 + 1, none⟩ = some (.int .i64 x) ∧ W.cell? ⟨ga, off + k * 9 + 2, none⟩ = some (.int .i64 kp) ∧ W.cell? ⟨ga, off + k * 9 + 3, none⟩ = some (.int .i64 kd2) ∧ W.cell? ⟨ga, off + k * 9 + 4, none⟩ = some (.int .i64 nw) ∧ W.cell? ⟨ga, off + k * 9 + 5, none⟩ = some (.int .i64 jb) ∧ W.cell? ⟨ga, off + k * 9 + 6, none⟩ = some (.int .i64 tr) ∧ W.cell? ⟨ga, off + k * 9 + 7, none⟩ = some (.int .i64 wk) ∧ W.cell? ⟨ga, off + k * 9 + 8, none⟩ = some (.int .i64 tm)) [] (by kernel_rfl) (by kernel_rfl) S0.out ?_
              repeat (first | (refine LexL.none (by rfl) ?_; (try simp only [Act.put, List.setIfInBounds_toArray, List.set_cons_zero, List.set_cons_succ])) | (refine LexL.still (v := ?_) (by rfl) ?_ ?_; rotate_left; (focus (intro W hW; (try dsimp only at hW); go_simp; (try (with_reducible rfl)); done)); (try simp only [Act.put, List.setIfInBounds_toArray, List.set_cons_zero, List.set_cons_succ])))
              refine LexL.done ?_
              try simp only [hK, hK2]
              clear x0 x1 x2 x3 x4 x5 x6 x7 x8 cc0
              have hd := H0.out.drew
              have qd := HQ.out.drew
              have sd := S0.out
              obtain ⟨w1, hw1⟩ : ∃ w1, wo.drew = w1 := ⟨_, rfl⟩
              rw [hw1] at hd qd sd ⊢
              have H1 := Lib.hid hd; have Q1 := Lib.hid qd
              obtain ⟨cc, cp, x0, x1, x2, x3, x4, x5, x6, x7, x8⟩ := sd
              clear hw1 hd qd S0 H0
              go_wp2_with fail
              refine (bytes_sl bd c.d _ H1.out.three HOK.out.g1.dok).mono ?_
              rintro e w2 ⟨v2, rfl, q2, h2⟩
              have H2 := Lib.hid (show Holds w2 (ownb v2 c.d.b * (dsk bd c.d * (cblk b bd bp (.slice (some ⟨gn, on, none⟩) pn.length cn) vv * (nrow (.slice (some ⟨gn, on, none⟩) pn.length cn) pn * (nod p bd n * (RN * (RB * old w))))))) from h2); have Q2 := Lib.hid (Q1.out.trans q2)
              clear cc cp x0 x1 x2 x3 x4 x5 x6 x7 x8 h2 q2
              go_wp2_with fail
              refine (all_sl _ c.d.b _ H2.out.ownb.bytes (by have := HB1.out; omega) H2.out).mono ?_
              rw [HL1.out]
              rintro e w3 ⟨v3, rfl, q3, h3⟩
              obtain ⟨a1_, c1_, rfl, _, _⟩ := h3.row.shape
              have H3 := Lib.hid (show Holds w3 (recs (.slice a1_ L1.length c1_) L1 * (ownb v2 c.d.b * (dsk bd c.d * (cblk b bd bp (.slice (some ⟨gn, on, none⟩) pn.length cn) vv * (nrow (.slice (some ⟨gn, on, none⟩) pn.length cn) pn * (nod p bd n * (RN * (RB * old w)))))))) from h3); have Q3 := Lib.hid (Q2.out.trans q3)
              clear h3 q3
              go_wp2_with fail
              refine (behind_sl _ L1 _ H3.out.row (by omega) H3.out).mono ?_
              rintro e w4 ⟨bb, rfl, q4, h4⟩
              have H4 := Lib.hid (show Holds w4 (tb bb 41 (behind L1) * (recs (.slice a1_ L1.length c1_) L1 * (ownb v2 c.d.b * (dsk bd c.d * (cblk b bd bp (.slice (some ⟨gn, on, none⟩) pn.length cn) vv * (nrow (.slice (some ⟨gn, on, none⟩) pn.length cn) pn * (nod p bd n * (RN * (RB * old w))))))))) from h4); have Q4 := Lib.hid (Q3.out.trans q4)
              clear h4 q4
              obtain ⟨cc, cp, x0, x1, x2, x3, x4, x5, x6, x7, x8⟩ := (MKS.out _ _ (H4.out.eq (by ac_rfl : _ = (cblk b bd bp (.slice (some ⟨gn, on, none⟩) pn.length cn) vv * (nrow (.slice (some ⟨gn, on, none⟩) pn.length cn) pn * ((tb bb 41 (behind L1) * (recs (.slice a1_ L1.length c1_) L1 * (ownb v2 c.d.b * (dsk bd c.d * (nod p bd n * (RN * RB)))))) * old w))))))
              go_wp2_with fail
              refine (bytes_sl bd c.d _ (H4.out.eq (by ac_rfl : _ = (dsk bd c.d * (tb bb 41 (behind L1) * (recs (.slice a1_ L1.length c1_) L1 * (ownb v2 c.d.b * (cblk b bd bp (.slice (some ⟨gn, on, none⟩) pn.length cn) vv * (nrow (.slice (some ⟨gn, on, none⟩) pn.length cn) pn * (nod p bd n * (RN * (RB * old w))))))))))) HOK.out.g1.dok).mono ?_
              rintro e w5 ⟨v5, rfl, q5, h5⟩
              obtain ⟨ab5, cb5, rfl, _, _⟩ := h5.ownb.bytes.shape
              have H5 := Lib.hid ((show Holds w5 (ownb (.slice ab5 c.d.b.length cb5) c.d.b * (dsk bd c.d * (tb bb 41 (behind L1) * (recs (.slice a1_ L1.length c1_) L1 * (ownb v2 c.d.b * (cblk b bd bp (.slice (some ⟨gn, on, none⟩) pn.length cn) vv * (nrow (.slice (some ⟨gn, on, none⟩) pn.length cn) pn * (nod p bd n * (RN * (RB * old w)))))))))) from h5).eq (by ac_rfl : _ = (nod p bd n * (dsk bd c.d * (ownb (.slice ab5 c.d.b.length cb5) c.d.b * (tb bb 41 (behind L1) * (recs (.slice a1_ L1.length c1_) L1 * (ownb v2 c.d.b * (cblk b bd bp (.slice (some ⟨gn, on, none⟩) pn.length cn) vv * (nrow (.slice (some ⟨gn, on, none⟩) pn.length cn) pn * (RN * (RB * old w)))))))))))); have Q5 := Lib.hid (Q4.out.trans q5)
              clear cc cp x0 x1 x2 x3 x4 x5 x6 x7 x8 h5 q5
              obtain ⟨cc, cp, x0, x1, x2, x3, x4, x5, x6, x7, x8⟩ := (MKS.out _ _ (H5.out.eq (by ac_rfl : _ = (cblk b bd bp (.slice (some ⟨gn, on, none⟩) pn.length cn) vv * (nrow (.slice (some ⟨gn, on, none⟩) pn.length cn) pn * ((nod p bd n * (dsk bd c.d * (ownb (.slice ab5 c.d.b.length cb5) c.d.b * (tb bb 41 (behind L1) * (recs (.slice a1_ L1.length c1_) L1 * (ownb v2 c.d.b * (RN * RB))))))) * old w))))))
              go_wp2_with fail
              refine (nOrder_sl p bd c.d n kd2 nw jb tr wk tm _ H5.out HOK.out.g1.dok AN1.out AN3.out).mono ?_
              rw [HX.out]
              rintro e w6 ⟨rfl, q6, h6⟩
              dsimp only
              simp only [Ans.val]
              have H7 := Lib.hid ((((show Holds w6 (nod p bd n' * (dsk bd d' * (ownb (.slice ab5 c.d.b.length cb5) c.d.b * (tb bb 41 (behind L1) * (recs (.slice a1_ L1.length c1_) L1 * (ownb v2 c.d.b * (cblk b bd bp (.slice (some ⟨gn, on, none⟩) pn.length cn) vv * (nrow (.slice (some ⟨gn, on, none⟩) pn.length cn) pn * (RN * (RB * old w)))))))))) from h6)).boxB (ty := 32) (cs := [.int .i64 a0, .int .i64 a1, .int .i64 a2]) rfl).eq (by ac_rfl : _ = (nod p bd n' * (dsk bd d' * (bl w6.heap.size 32 [.int .i64 a0, .int .i64 a1, .int .i64 a2] * (ownb (.slice ab5 c.d.b.length cb5) c.d.b * (tb bb 41 (behind L1) * (recs (.slice a1_ L1.length c1_) L1 * (ownb v2 c.d.b * (cblk b bd bp (.slice (some ⟨gn, on, none⟩) pn.length cn) vv * (nrow (.slice (some ⟨gn, on, none⟩) pn.length cn) pn * (RN * (RB * old w)))))))))))))
              have Q7 := Lib.hid ((Q5.out.trans q6).alloc (.cells #[.int .i64 a0, .int .i64 a1, .int .i64 a2] 32))
              obtain ⟨gy, hgy⟩ : ∃ gy, w6.heap.size = gy := ⟨_, rfl⟩
              obtain ⟨w8, hw8⟩ : ∃ w8, w6.alloc (.cells #[.int .i64 a0, .int .i64 a1, .int .i64 a2] 32) = w8 := ⟨_, rfl⟩
              rw [hgy, show w6.alloc (.cells ([.int .i64 a0, .int .i64 a1, .int .i64 a2] : List Value).toArray 32) = w8 from hw8] at H7
              rw [hw8] at Q7
              clear cc cp x0 x1 x2 x3 x4 x5 x6 x7 x8 h6 q6
              obtain ⟨cc, cp, x0, x1, x2, x3, x4, x5, x6, x7, x8⟩ := (MKS.out _ _ (H7.out.eq (by ac_rfl : _ = (cblk b bd bp (.slice (some ⟨gn, on, none⟩) pn.length cn) vv * (nrow (.slice (some ⟨gn, on, none⟩) pn.length cn) pn * ((nod p bd n' * (dsk bd d' * (bl gy 32 [.int .i64 a0, .int .i64 a1, .int .i64 a2] * (ownb (.slice ab5 c.d.b.length cb5) c.d.b * (tb bb 41 (behind L1) * (recs (.slice a1_ L1.length c1_) L1 * (ownb v2 c.d.b * (RN * RB)))))))) * old w))))))
              go_wp2_with fail
              clear hw8 hgy
              refine (bytes_sl bd d' _ H7.out.two DO'.out).mono ?_
              rintro e w9 ⟨v9, rfl, q9, h9⟩
              have H9 := Lib.hid (show Holds w9 (ownb v9 d'.b * (dsk bd d' * (nod p bd n' * (bl gy 32 [.int .i64 a0, .int .i64 a1, .int .i64 a2] * (ownb (.slice ab5 c.d.b.length cb5) c.d.b * (tb bb 41 (behind L1) * (recs (.slice a1_ L1.length c1_) L1 * (ownb v2 c.d.b * (cblk b bd bp (.slice (some ⟨gn, on, none⟩) pn.length cn) vv * (nrow (.slice (some ⟨gn, on, none⟩) pn.length cn) pn * (RN * (RB * old w)))))))))))) from h9); have Q9 := Lib.hid (Q7.out.trans q9)
              clear cc cp x0 x1 x2 x3 x4 x5 x6 x7 x8 h9 q9
              go_wp2_with fail
              refine (all_sl _ d'.b _ H9.out.ownb.bytes (by have := HB2.out; omega) H9.out).mono ?_
              rw [HL2.out]
              rintro e w10 ⟨v10, rfl, q10, h10⟩
              obtain ⟨a2_, c2_, rfl, _, _⟩ := h10.row.shape
              have H10 := Lib.hid (show Holds w10 (recs (.slice a2_ L2.length c2_) L2 * (ownb v9 d'.b * (dsk bd d' * (nod p bd n' * (bl gy 32 [.int .i64 a0, .int .i64 a1, .int .i64 a2] * (ownb (.slice ab5 c.d.b.length cb5) c.d.b * (tb bb 41 (behind L1) * (recs (.slice a1_ L1.length c1_) L1 * (ownb v2 c.d.b * (cblk b bd bp (.slice (some ⟨gn, on, none⟩) pn.length cn) vv * (nrow (.slice (some ⟨gn, on, none⟩) pn.length cn) pn * (RN * (RB * old w))))))))))))) from h10); have Q10 := Lib.hid (Q9.out.trans q10)
              clear h10 q10
              by_cases hcd : a0 = 0
              · subst hcd
                obtain ⟨hdid, hsn⟩ := HA4.out rfl
                have hT : ((behind L1).did ⟨kd2, nw, jb, tr, wk, tm⟩) = (((behind L1).did ⟨kd2, nw, jb, tr, wk, tm⟩).1, ⟨0, a1, a2⟩) := Prod.ext rfl hdid.symm
                obtain ⟨T', hT'⟩ : ∃ T', ((behind L1).did ⟨kd2, nw, jb, tr, wk, tm⟩).1 = T' := ⟨_, rfl⟩
                rw [hT'] at hT
                have hll : (L2.length : Int) = (L1.length : Int) + 1 := by rw [hsn]; simp
                have hlb : ((L2.length : Int) != (L1.length : Int) + 1) = false := by simpa using hll
                have hwl2 : IntKind.i64.wrap ((L1.length : Int) + 1) = (L1.length : Int) + 1 := by rw [IntKind.wrap_i64]; omega
                have hFG : (L1.length : Int) < (L2.length : Int) := by omega
                have hFGn : L1.length < L2.length := by omega
                have hgg : L2[L1.length]? = some ⟨n.ep, ⟨kd2, nw, jb, tr, wk, tm⟩⟩ := by rw [hsn]; simp
                have HGG := Lib.hid hgg; have HT := Lib.hid hT
                obtain ⟨gr, or_, cr', er, _, _, _⟩ := H10.out.row.get (by omega)
                simp only [Value.slice.injEq] at er
                obtain ⟨rfl, _, rfl⟩ := er
                obtain ⟨RZ, hRZ⟩ : ∃ RZ, (ownb v9 d'.b * (dsk bd d' * (ownb (.slice ab5 c.d.b.length cb5) c.d.b * (recs (.slice a1_ L1.length c1_) L1 * (ownb v2 c.d.b * (RN * RB)))))) = RZ := ⟨_, rfl⟩
                have HRZ := Lib.hid hRZ
                have H11 := Lib.hid (H10.out.eq (by rw [← hRZ]; ac_rfl : _ = (tb bb 41 (behind L1) * (bl gy 32 [.int .i64 0, .int .i64 a1, .int .i64 a2] * (recs (.slice (some ⟨gr, or_, none⟩) L2.length c2_) L2 * (cblk b bd bp (.slice (some ⟨gn, on, none⟩) pn.length cn) vv * (nrow (.slice (some ⟨gn, on, none⟩) pn.length cn) pn * (nod p bd n' * (RZ * old w)))))))))
                clear hdid hsn hT hT' hgg hll hRZ
                have mkZ : ∀ (W : World) (A : HP), Holds W (bl gy 32 [.int .i64 0, .int .i64 a1, .int .i64 a2] * (recs (.slice (some ⟨gr, or_, none⟩) L2.length c2_) L2 * (cblk b bd bp (.slice (some ⟨gn, on, none⟩) pn.length cn) vv * (nrow (.slice (some ⟨gn, on, none⟩) pn.length cn) pn * (A * old w))))) → (∀ o, W.cell? ⟨b, o, none⟩ = ([.pointer (some ⟨bd, 0, none⟩), .pointer (some ⟨bp, 0, none⟩), (.slice (some ⟨gn, on, none⟩) pn.length cn), vv] : List Value)[o]?) ∧ W.cell? ⟨gn, on + K, none⟩ = some (.pointer (some ⟨p, 0, none⟩)) ∧ W.cell? ⟨ga, off + k * 9, none⟩ = some (.int .i64 1) ∧ W.cell? ⟨ga, off + k * 9 + 1, none⟩ = some (.int .i64 x) ∧ W.cell? ⟨ga, off + k * 9 + 2, none⟩ = some (.int .i64 kp) ∧ W.cell? ⟨ga, off + k * 9 + 3, none⟩ = some (.int .i64 kd2) ∧ W.cell? ⟨ga, off + k * 9 + 4, none⟩ = some (.int .i64 nw) ∧ W.cell? ⟨ga, off + k * 9 + 5, none⟩ = some (.int .i64 jb) ∧ W.cell? ⟨ga, off + k * 9 + 6, none⟩ = some (.int .i64 tr) ∧ W.cell? ⟨ga, off + k * 9 + 7, none⟩ = some (.int .i64 wk) ∧ W.cell? ⟨ga, off + k * 9 + 8, none⟩ = some (.int .i64 tm) ∧ (∀ o, W.cell? ⟨gy, o, none⟩ = ([.int .i64 0, .int .i64 a1, .int .i64 a2] : List Value)[o]?) ∧ W.cell? ⟨gr, or_ + L1.length * 7, none⟩ = some (.int .i64 n.ep) ∧ W.cell? ⟨gr, or_ + L1.length * 7 + 1, none⟩ = some (.int .i64 kd2) ∧ W.cell? ⟨gr, or_ + L1.length * 7 + 2, none⟩ = some (.int .i64 nw) ∧ W.cell? ⟨gr, or_ + L1.length * 7 + 3, none⟩ = some (.int .i64 jb) ∧ W.cell? ⟨gr, or_ + L1.length * 7 + 4, none⟩ = some (.int .i64 tr) ∧ W.cell? ⟨gr, or_ + L1.length * 7 + 5, none⟩ = some (.int .i64 wk) ∧ W.cell? ⟨gr, or_ + L1.length * 7 + 6, none⟩ = some (.int .i64 tm) := by
                  intro W A hW
                  obtain ⟨cc, cp, x0, x1, x2, x3, x4, x5, x6, x7, x8⟩ := MKS.out W _ (hW.eq (by ac_rfl : _ = (cblk b bd bp (.slice (some ⟨gn, on, none⟩) pn.length cn) vv * (nrow (.slice (some ⟨gn, on, none⟩) pn.length cn) pn * ((bl gy 32 [.int .i64 0, .int .i64 a1, .int .i64 a2] * (recs (.slice (some ⟨gr, or_, none⟩) L2.length c2_) L2 * A)) * old w)))))
                  obtain ⟨g', o', c', e, _, _, hc⟩ := hW.two.row.get (by omega)
                  simp only [Value.slice.injEq, Option.some.injEq, Addr.mk.injEq, and_true] at e
                  obtain ⟨⟨rfl, rfl⟩, _, rfl⟩ := e
                  have y0 := rvs_cell hc HGG.out 0 _ (by omega) rfl
                  rw [Nat.add_zero] at y0
                  exact ⟨cc, cp, x0, x1, x2, x3, x4, x5, x6, x7, x8, hW.bl.cells, y0, rvs_cell hc HGG.out 1 _ (by omega) rfl, rvs_cell hc HGG.out 2 _ (by omega) rfl, rvs_cell hc HGG.out 3 _ (by omega) rfl, rvs_cell hc HGG.out 4 _ (by omega) rfl, rvs_cell hc HGG.out 5 _ (by omega) rfl, rvs_cell hc HGG.out 6 _ (by omega) rfl⟩
                have MKZ := Lib.hid mkZ
                have S11 := Lib.hid (mkZ _ _ (H11.out.drew.eq (by ac_rfl : _ = (bl gy 32 [.int .i64 0, .int .i64 a1, .int .i64 a2] * (recs (.slice (some ⟨gr, or_, none⟩) L2.length c2_) L2 * (cblk b bd bp (.slice (some ⟨gn, on, none⟩) pn.length cn) vv * (nrow (.slice (some ⟨gn, on, none⟩) pn.length cn) pn * ((tb bb 41 (behind L1) * (nod p bd n' * RZ)) * old w))))))))
                clear mkZ
                have cy := (show BlockAt w10 gy 32 _ from H11.out.two.bl).cell 0 _ rfl
                go_wp2_with fail
                refine wp_region_lex (fun W => (∀ o, W.cell? ⟨b, o, none⟩ = ([.pointer (some ⟨bd, 0, none⟩), .pointer (some ⟨bp, 0, none⟩), (.slice (some ⟨gn, on, none⟩) pn.length cn), vv] : List Value)[o]?) ∧ W.cell? ⟨gn, on + K, none⟩ = some (.pointer (some ⟨p, 0, none⟩)) ∧ W.cell? ⟨ga, off + k * 9, none⟩ = some (.int .i64 1) ∧ W.cell? ⟨ga, off + k * 9 + 1, none⟩ = some (.int .i64 x) ∧ W.cell? ⟨ga, off + k * 9 + 2, none⟩ = some (.int .i64 kp) ∧ W.cell? ⟨ga, off + k * 9 + 3, none⟩ = some (.int .i64 kd2) ∧ W.cell? ⟨ga, off + k * 9 + 4, none⟩ = some (.int .i64 nw) ∧ W.cell? ⟨ga, off + k * 9 + 5, none⟩ = some (.int .i64 jb) ∧ W.cell? ⟨ga, off + k * 9 + 6, none⟩ = some (.int .i64 tr) ∧ W.cell? ⟨ga, off + k * 9 + 7, none⟩ = some (.int .i64 wk) ∧ W.cell? ⟨ga, off + k * 9 + 8, none⟩ = some (.int .i64 tm) ∧ (∀ o, W.cell? ⟨gy, o, none⟩ = ([.int .i64 0, .int .i64 a1, .int .i64 a2] : List Value)[o]?) ∧ W.cell? ⟨gr, or_ + L1.length * 7, none⟩ = some (.int .i64 n.ep) ∧ W.cell? ⟨gr, or_ + L1.length * 7 + 1, none⟩ = some (.int .i64 kd2) ∧ W.cell? ⟨gr, or_ + L1.length * 7 + 2, none⟩ = some (.int .i64 nw) ∧ W.cell? ⟨gr, or_ + L1.length * 7 + 3, none⟩ = some (.int .i64 jb) ∧ W.cell? ⟨gr, or_ + L1.length * 7 + 4, none⟩ = some (.int .i64 tr) ∧ W.cell? ⟨gr, or_ + L1.length * 7 + 5, none⟩ = some (.int .i64 wk) ∧ W.cell? ⟨gr, or_ + L1.length * 7 + 6, none⟩ = some (.int .i64 tm)) [6, 9, 17, 24] (by kernel_rfl) (by kernel_rfl) S11.out ?_
                clear cy
                repeat (first | (refine LexL.none (by rfl) ?_; (try simp only [Act.put, List.setIfInBounds_toArray, List.set_cons_zero, List.set_cons_succ])) | (refine LexL.still (v := ?_) (by rfl) ?_ ?_; rotate_left; (focus (intro W hW; (try dsimp only at hW); go_simp; (try (with_reducible rfl)); done)); (try simp only [Act.put, List.setIfInBounds_toArray, List.set_cons_zero, List.set_cons_succ])))
                refine LexL.call (f := 21) (args := #[.pointer (some ⟨bb, 0, none⟩), .agg #[.int .i64 kd2, .int .i64 nw, .int .i64 jb, .int .i64 tr, .int .i64 wk, .int .i64 tm]]) (w1 := w10.drew) (by rfl) (by decide) (by go_simp) ?_
                refine (bdo_sl bb (behind L1) kd2 nw jb tr wk tm _ H11.out.drew (behind_in L1).ok).mono ?_
                rw [HT.out]
                rintro e w12 ⟨rfl, q12, h12⟩
                try dsimp only
                have H12 := Lib.hid (show Holds w12 (tb bb 41 T' * (bl gy 32 [.int .i64 0, .int .i64 a1, .int .i64 a2] * (recs (.slice (some ⟨gr, or_, none⟩) L2.length c2_) L2 * (cblk b bd bp (.slice (some ⟨gn, on, none⟩) pn.length cn) vv * (nrow (.slice (some ⟨gn, on, none⟩) pn.length cn) pn * (nod p bd n' * (RZ * old w))))))) from h12); have Q12 := Lib.hid (Q10.out.drew.trans q12)
                refine ⟨_, rfl, MKZ.out _ _ (H12.out.eq (by ac_rfl : _ = (bl gy 32 [.int .i64 0, .int .i64 a1, .int .i64 a2] * (recs (.slice (some ⟨gr, or_, none⟩) L2.length c2_) L2 * (cblk b bd bp (.slice (some ⟨gn, on, none⟩) pn.length cn) vv * (nrow (.slice (some ⟨gn, on, none⟩) pn.length cn) pn * ((tb bb 41 T' * (nod p bd n' * RZ)) * old w))))))), ?_⟩
                clear h12 q12
                try simp only [Act.put, List.setIfInBounds_toArray, List.set_cons_zero, List.set_cons_succ]
                repeat (first | (refine LexL.none (by rfl) ?_; (try simp only [Act.put, List.setIfInBounds_toArray, List.set_cons_zero, List.set_cons_succ])) | (refine LexL.still (v := ?_) (by rfl) ?_ ?_; rotate_left; (focus (intro W hW; (try dsimp only at hW); go_simp; (try (with_reducible rfl)); done)); (try simp only [Act.put, List.setIfInBounds_toArray, List.set_cons_zero, List.set_cons_succ])))
                refine LexL.call (f := 42) (args := #[.pointer (some ⟨p, 0, none⟩)]) (w1 := w12) (by rfl) (by decide) (by go_simp) ?_
                refine (nEpoch_sl p bd n' _ (H12.out.eq (by ac_rfl : _ = (nod p bd n' * (tb bb 41 T' * (bl gy 32 [.int .i64 0, .int .i64 a1, .int .i64 a2] * (recs (.slice (some ⟨gr, or_, none⟩) L2.length c2_) L2 * (cblk b bd bp (.slice (some ⟨gn, on, none⟩) pn.length cn) vv * (nrow (.slice (some ⟨gn, on, none⟩) pn.length cn) pn * (RZ * old w)))))))))).mono ?_
                rintro e w13 ⟨rfl, rfl⟩
                rw [HA1.out]
                refine ⟨_, rfl, MKZ.out _ _ (H12.out.eq (by ac_rfl : _ = (bl gy 32 [.int .i64 0, .int .i64 a1, .int .i64 a2] * (recs (.slice (some ⟨gr, or_, none⟩) L2.length c2_) L2 * (cblk b bd bp (.slice (some ⟨gn, on, none⟩) pn.length cn) vv * (nrow (.slice (some ⟨gn, on, none⟩) pn.length cn) pn * ((tb bb 41 T' * (nod p bd n' * RZ)) * old w))))))), ?_⟩
                try simp only [Act.put, List.setIfInBounds_toArray, List.set_cons_zero, List.set_cons_succ]
                repeat (first | (refine LexL.none (by rfl) ?_; (try simp only [Act.put, List.setIfInBounds_toArray, List.set_cons_zero, List.set_cons_succ])) | (refine LexL.still (v := ?_) (by rfl) ?_ ?_; rotate_left; (focus (intro W hW; (try dsimp only at hW); go_simp; (try (with_reducible rfl)); done)); (try simp only [Act.put, List.setIfInBounds_toArray, List.set_cons_zero, List.set_cons_succ])))
                refine LexL.done ?_
                go_wp2_with fail
                go_roundw
                case rel =>
                  have hg := HOK.out.g1.order HN.out ⟨kd2, nw, jb, tr, wk, tm⟩
                  rw [HX.out] at hg
                  exact ⟨k + 1, (.slice (some ⟨gn, on, none⟩) pn.length cn), vv, pn, pv, ⟨d', c.ns.set K n'⟩, v, by omega, by go_num, (H12.out.eq (by unfold CH nls; dsimp only; rw [HRN2.out, ← HRZ.out, ← HRB.out]; ac_rfl : _ = (tb bb 41 T' * (bl gy 32 [.int .i64 0, .int .i64 a1, .int .i64 a2] * (recs (.slice (some ⟨gr, or_, none⟩) L2.length c2_) L2 * (ownb v9 d'.b * (ownb (.slice ab5 c.d.b.length cb5) c.d.b * (recs (.slice a1_ L1.length c1_) L1 * ownb v2 c.d.b)))))) * CH b bd bp (.slice (some ⟨gn, on, none⟩) pn.length cn) vv pn pv ⟨d', c.ns.set K n'⟩ v (old w))).right, Q12.out, ⟨hg, HOK.out.g2, HEP.out, by simpa using HOK.out.ln, HOK.out.lv, by simpa using HOK.out.nv⟩⟩
                case measure => simp [intOf]; omega
              · obtain ⟨hdd, hj, ht⟩ := HA3.out hcd
                try dsimp only at hj ht
                subst hj ht
                have hcb : (a0 != 0) = true := by simpa using hcd
                have H11 := Lib.hid (H10.out.eq (by ac_rfl : _ = (dsk bd d' * (cblk b bd bp (.slice (some ⟨gn, on, none⟩) pn.length cn) vv * (bl gy 32 [.int .i64 a0, .int .i64 0, .int .i64 0] * (recs (.slice a2_ L2.length c2_) L2 * (ownb v9 d'.b * (nod p bd n' * (ownb (.slice ab5 c.d.b.length cb5) c.d.b * (tb bb 41 (behind L1) * (recs (.slice a1_ L1.length c1_) L1 * (ownb v2 c.d.b * (nrow (.slice (some ⟨gn, on, none⟩) pn.length cn) pn * (RN * (RB * old w)))))))))))))))
                have cy := (H11.out.three.bl).cells
                have cc := (show BlockAt w10 b 78 [.pointer (some ⟨bd, 0, none⟩), .pointer (some ⟨bp, 0, none⟩), (.slice (some ⟨gn, on, none⟩) pn.length cn), vv] from H11.out.two.bl).cells
                have hdl : d'.b.length = c.d.b.length := by rw [hdd]
                clear hcd hdd
                have HDL := Lib.hid hdl; clear hdl
                go_wp2_with fail
                refine (bytes_sl bd d' _ H11.out DO'.out).mono ?_
                rintro e w11 ⟨v11, rfl, q11, h11⟩
                obtain ⟨ab6, cb6, rfl, _, _⟩ := h11.ownb.bytes.shape
                rw [HDL.out] at h11 ⊢
                have H12 := Lib.hid (show Holds w11 (ownb (.slice ab6 c.d.b.length cb6) d'.b * (dsk bd d' * (cblk b bd bp (.slice (some ⟨gn, on, none⟩) pn.length cn) vv * (bl gy 32 [.int .i64 a0, .int .i64 0, .int .i64 0] * (recs (.slice a2_ L2.length c2_) L2 * (ownb v9 d'.b * (nod p bd n' * (ownb (.slice ab5 c.d.b.length cb5) c.d.b * (tb bb 41 (behind L1) * (recs (.slice a1_ L1.length c1_) L1 * (ownb v2 c.d.b * (nrow (.slice (some ⟨gn, on, none⟩) pn.length cn) pn * (RN * (RB * old w)))))))))))))) from h11); have Q12 := Lib.hid (Q10.out.trans q11)
                have cy := (H12.out.four.bl).cells
                clear h11 q11 cc H11
                go_wp2_with fail
                go_roundw
                case rel =>
                  have hg := HOK.out.g1.order HN.out ⟨kd2, nw, jb, tr, wk, tm⟩
                  rw [HX.out] at hg
                  exact ⟨k + 1, (.slice (some ⟨gn, on, none⟩) pn.length cn), vv, pn, pv, ⟨d', c.ns.set K n'⟩, v, by omega, by go_num, (H12.out.eq (by unfold CH nls; dsimp only; rw [HRN2.out, ← HRB.out]; ac_rfl : _ = (ownb (.slice ab6 c.d.b.length cb6) d'.b * (bl gy 32 [.int .i64 a0, .int .i64 0, .int .i64 0] * (recs (.slice a2_ L2.length c2_) L2 * (ownb v9 d'.b * (ownb (.slice ab5 c.d.b.length cb5) c.d.b * (tb bb 41 (behind L1) * (recs (.slice a1_ L1.length c1_) L1 * ownb v2 c.d.b))))))) * CH b bd bp (.slice (some ⟨gn, on, none⟩) pn.length cn) vv pn pv ⟨d', c.ns.set K n'⟩ v (old w))).right, Q12.out, ⟨hg, HOK.out.g2, HEP.out, by simpa using HOK.out.ln, HOK.out.lv, by simpa using HOK.out.nv⟩⟩
                case measure => simp [intOf]; omega
          · have hkb : (kd != 1) = true := by simpa using hkd
            go_wp2_with fail
            refine (cstep_sl b bd bp vn vv pn pv c v kd x kp kd2 nw jb tr wk tm _ HH.out HOK.out).mono ?_
            rintro e w3 ⟨vn', vv', pn', pv', c', v', y, rfl, q3, h3, hok', _⟩
            have Q3 := Lib.hid (HQ.out.trans q3)
            clear x0 x1 x2 x3 x4 x5 x6 x7 x8
            go_wp2_with fail
            go_roundw
            case rel => exact ⟨k + 1, vn', vv', pn', pv', c', v', by omega, by go_num, h3, Q3.out, hok'⟩
            case measure => simp [intOf]; omega
        · obtain rfl : k = L.length := by omega
          go_wp2
          go_ret
          exact ⟨rfl, (HH.out.eq (by unfold CH; ac_rfl : _ = (cblk b bd bp vn vv * (dsk bd c.d * (plt bp 115 [] v.d * (nrow vn pn * (vrow vv pv * (nls bd pn c.ns * vls bp pv v.ns)))))) * old w)).toBelow HQ.out⟩
end Go.Proofs.Ytfihmpkkpgmdhab
