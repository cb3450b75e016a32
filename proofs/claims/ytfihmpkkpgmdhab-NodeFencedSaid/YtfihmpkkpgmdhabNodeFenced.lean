/-
  NodeFenced, walked: who was fenced writes nothing.
-/
import Derived.Test.YtfihmpkkpgmdhabCrewD
namespace Go.Proofs.Ytfihmpkkpgmdhab
set_option linter.unusedSimpArgs false
set_option linter.unusedVariables false
open Go.RowKit
set_option maxRecDepth 100000 in
set_option maxHeartbeats 8000000 in
theorem nodeFenced_any (v0 v1 v2 : Value) (B : List UInt8) (L M : List Stp) (w : World) (hb : BytesAt w v0 B) (hL : (∀ r ∈ L, ∀ n ∈ r.ints, I64' n) ∧ RowAt w v1 L.length (svs L)) (hM : (∀ r ∈ M, ∀ n ∈ r.ints, I64' n) ∧ RowAt w v2 M.length (svs M)) :
    Calls Try.prog 9 #[v0, v1, v2] w fun e w' => e = .returned (.bool true) ∧ Below w.heap.size w w' := by
  have hfldA : ∀ (a b c : Value) (W : World), (Instr.field 32 (.agg #[a, b, c]) 0).run Try.prog W = .ok a W := fun a b c W => by kernel_rfl
  obtain ⟨ab, cb, rfl, _, _⟩ := hb.shape
  obtain ⟨al, cl, rfl, _, _⟩ := hL.2.shape
  have HBY := Lib.hid hb; have HV := Lib.hid hL.2; clear hb hL
  obtain ⟨am, cm, rfl, _, _⟩ := hM.2.shape
  have HM := Lib.hid hM.2; clear hM
  go_enter Try.func9, Try.ntmps9
  go_wp2_with fail
  refine (nodeBegun_any _).mono ?_
  rintro e w1 ⟨rfl, hb1⟩
  have H1 := Lib.hid ((Holds.old (w := w)).below hb1)
  have Q1 := Lib.hid (Quiet.below hb1); clear hb1
  by_cases hb1400 : 1400 < B.length
  · go_wp2
    go_ret
    exact ⟨rfl, H1.out.toBelow' Q1.out⟩
  · by_cases hl200 : 200 < L.length
    · go_wp2
      go_ret
      exact ⟨rfl, H1.out.toBelow' Q1.out⟩
    · by_cases hm200 : 200 < M.length
      · go_wp2
        go_ret
        exact ⟨rfl, H1.out.toBelow' Q1.out⟩
      · go_wp2_with fail
        have HB1 := Lib.hid (HBY.out.to H1.out.block)
        refine (newCrew_sl _ B _ HB1.out (by omega)).mono ?_
        rintro e w2 ⟨b, bd, bp, rfl, q2, h2⟩
        have h2f := ((h2.eq (by unfold CH; ac_rfl : _ = (cblk b bd bp (.slice none 0 0) (.slice none 0 0) * (dsk bd ⟨1, B⟩ * (plt bp 115 [] ⟨1, B⟩ * (nrow (.slice none 0 0) [] * (vrow (.slice none 0 0) [] * (nls bd [] [] * vls bp [] [])))))) * old w1)).frame H1.out)
        have H2 := Lib.hid (show Holds w2 (CH b bd bp (.slice none 0 0) (.slice none 0 0) [] [] ⟨⟨1, B⟩, []⟩ ⟨⟨1, B⟩, []⟩ (old w)) from h2f.eq (by unfold CH; ac_rfl))
        have Q2 := Lib.hid (Q1.out.trans q2); clear h2 q2 h2f HB1
        go_wp2_with fail
        go_loopw [8] (fun i wr => ∃ (k : Nat) (vn vv : Value) (pn pv : List Nat) (c v : Crw), k ≤ L.length ∧ i = .int .i64 k ∧ Holds wr (CH b bd bp vn vv pn pv c v (old w)) ∧ Quiet w wr ∧ Cok pn pv c v) (fun i _ => L.length - (intOf i).toNat)
        case atStart => exact ⟨0, _, _, _, _, _, _, by omega, rfl, H2.out, Q2.out, cok_zero (by omega)⟩
        case round =>
          obtain ⟨k, vn, vv, pn, pv, c, v, hk, rfl, hh, hq, hok⟩ := hrel
          obtain ⟨wo, rfl⟩ : ∃ wo : World, wo = wr := ⟨_, rfl⟩
          have HH := Lib.hid hh; have HQ := Lib.hid hq; have HOK := Lib.hid hok; clear hh hq hok
          by_cases hlt : k < L.length
          · obtain ⟨o, ho⟩ : ∃ o, L[k]? = some o := ⟨_, List.getElem?_eq_getElem hlt⟩
            obtain ⟨ga, off, c', e, _, _, hc0⟩ := HV.out.get (by omega)
            simp only [Value.slice.injEq] at e
            obtain ⟨rfl, _, rfl⟩ := e
            obtain ⟨x0, x1, x2, x3, x4, x5, x6, x7, x8⟩ := stp_cells HV.out ho (HH.out.eq (by unfold CH; ac_rfl : _ = (cblk b bd bp vn vv * (dsk bd c.d * (plt bp 115 [] v.d * (nrow vn pn * (vrow vv pv * (nls bd pn c.ns * vls bp pv v.ns)))))) * old w))
            obtain ⟨kd, x, kp, ⟨kd2, nw, jb, tr, wk, tm⟩⟩ := o
            dsimp only at x0 x1 x2 x3 x4 x5 x6 x7 x8
            clear ho hc0
            go_wp2_with fail
            refine (cstep_sl b bd bp vn vv pn pv c v kd x kp kd2 nw jb tr wk tm _ HH.out HOK.out).mono ?_
            rintro e w3 ⟨vn', vv', pn', pv', c', v', y, rfl, q3, h3, hok', _⟩
            have Q3 := Lib.hid (HQ.out.trans q3)
            clear x0 x1 x2 x3 x4 x5 x6 x7 x8
            go_wp2_with fail
            go_roundw
            case rel => exact ⟨k + 1, vn', vv', pn', pv', c', v', by omega, by go_num, h3, Q3.out, hok'⟩
            case measure => simp [intOf]; omega
          · obtain rfl : k = L.length := by omega
            have H9 := Lib.hid HH.out
            obtain ⟨an, cn, rfl, _, _⟩ := (HH.out.eq (by unfold CH; ac_rfl : _ = nrow vn pn * (cblk b bd bp vn vv * (dsk bd c.d * (plt bp 115 [] v.d * (vrow vv pv * (nls bd pn c.ns * (vls bp pv v.ns * old w)))))))).row.shape
            have cc0 := (show BlockAt wo b 78 [.pointer (some ⟨bd, 0, none⟩), .pointer (some ⟨bp, 0, none⟩), (.slice an pn.length cn), vv] from HH.out.bl).cells
            by_cases hfull : 100 ≤ c.d.ep
            · have HFU := Lib.hid hfull; clear hfull
              go_wp2_with fail
              refine (nOpen_full bd c.d _ HH.out.two HOK.out.g1.dok (by have := HFU.out; omega)).mono ?_
              rintro e w3 ⟨rfl, q3, h3⟩
              go_wp2
              go_ret
              exact ⟨rfl, (h3.eq (by ac_rfl : _ = (dsk bd c.d * (cblk b bd bp (.slice an pn.length cn) vv * (plt bp 115 [] v.d * (nrow (.slice an pn.length cn) pn * (vrow vv pv * (nls bd pn c.ns * vls bp pv v.ns)))))) * old w)).toBelow (HQ.out.trans q3)⟩
            · have HFU := Lib.hid hfull
              obtain ⟨n1, hn1⟩ : ∃ n1 : Nod, n1 = ⟨behind (found c.d), c.d.ep + 1, false⟩ := ⟨_, rfl⟩
              obtain ⟨d1, hd1⟩ : ∃ d1, (opened c.d).1 = d1 := ⟨_, rfl⟩
              have hd1e : d1.ep = c.d.ep + 1 := by rw [← hd1]; exact (opened_all hfull).2.2
              have hd1ok : d1.Ok := by rw [← hd1]; exact opened_ok HOK.out.g1.dok hfull
              have hn1e : n1.ep = d1.ep := by rw [hn1, hd1e]
              have hn1d : n1.down = false := by rw [hn1]
              have hns : ∀ n ∈ c.ns, 1 ≤ n.ep ∧ n.ep ≠ d1.ep ∧ n.t.Ok := fun n hn => by
                obtain ⟨i, hi⟩ := List.getElem?_of_mem hn
                obtain ⟨a1, a2, a3⟩ := HOK.out.g1.node hi
                exact ⟨a1, by omega, a3⟩
              have N1 := Lib.hid hn1; have D1 := Lib.hid hd1; have NE := Lib.hid hn1e; have ND := Lib.hid hn1d; have NS := Lib.hid hns; have DOK := Lib.hid hd1ok
              clear hfull hn1 hd1 hd1e hn1e hn1d hns hd1ok
              go_wp2_with fail
              refine (nOpen_sl bd c.d _ HH.out.two HOK.out.g1.dok (by have := HFU.out; omega)).mono ?_
              rw [← N1.out, D1.out]
              rintro e w3 ⟨bn, rfl, q3, h3⟩
              have hln := HOK.out.ln
              have hl8 : pn.length ≤ 8 := by rw [hln]; exact HOK.out.g1.2
              have HLN := Lib.hid hln; clear hln
              have h3' := (show Holds w3 (nod bn bd n1 * (dsk bd d1 * (cblk b bd bp (.slice an pn.length cn) vv * (plt bp 115 [] v.d * (nrow (.slice an pn.length cn) pn * (vrow vv pv * (nls bd pn c.ns * (vls bp pv v.ns * old w)))))))) from h3)
              have Q3 := Lib.hid (HQ.out.trans q3)
              have H3 := Lib.hid h3'
              have cc3 := (show BlockAt w3 b 78 [.pointer (some ⟨bd, 0, none⟩), .pointer (some ⟨bp, 0, none⟩), (.slice an pn.length cn), vv] from H3.out.three.bl).cells
              clear h3 q3 h3' cc0 H9
              go_wp2_with fail
              refine (bytes_sl bd d1 _ H3.out.two DOK.out).mono ?_
              rintro e w4 ⟨vb, rfl, q4, h4⟩
              have Q4 := Lib.hid (Q3.out.trans q4)
              obtain ⟨RR, hRR⟩ : ∃ RR, ownb vb d1.b * (plt bp 115 [] v.d * (vrow vv pv * vls bp pv v.ns)) = RR := ⟨_, rfl⟩
              have H4 := Lib.hid ((show Holds w4 (ownb vb d1.b * (dsk bd d1 * (nod bn bd n1 * (cblk b bd bp (.slice an pn.length cn) vv * (plt bp 115 [] v.d * (nrow (.slice an pn.length cn) pn * (vrow vv pv * (nls bd pn c.ns * (vls bp pv v.ns * old w))))))))) from h4).eq (by rw [← hRR]; ac_rfl : _ = (dsk bd d1 * (nrow (.slice an pn.length cn) pn * (nls bd pn c.ns * (nod bn bd n1 * (cblk b bd bp (.slice an pn.length cn) vv * (RR * old w))))))))
              have hs4 := run_string_bytes h4.ownb.bytes
              clear h4 q4 H3 cc3 hRR
              obtain ⟨sb, hsb⟩ : ∃ sb, strOf d1.b = sb := ⟨_, rfl⟩
              rw [hsb] at hs4
              go_wp2_with fail
              clear hs4
              go_loopw [13] (fun i wr => ∃ (q : Nat) (ns : List Nod), q ≤ M.length ∧ i = .int .i64 q ∧ Holds wr (dsk bd d1 * (nrow (.slice an pn.length cn) pn * (nls bd pn ns * (nod bn bd n1 * (cblk b bd bp (.slice an pn.length cn) vv * (RR * old w)))))) ∧ Quiet w wr ∧ ns.length = pn.length ∧ ∀ n ∈ ns, 1 ≤ n.ep ∧ n.ep ≠ d1.ep ∧ n.t.Ok) (fun i _ => M.length - (intOf i).toNat)
              case atStart => exact ⟨0, c.ns, by omega, rfl, H4.out, Q4.out, HLN.out.symm, NS.out⟩
              case round =>
                obtain ⟨qi, ns, hk, rfl, hh, hq, hnl, hne⟩ := hrel
                obtain ⟨wm, rfl⟩ : ∃ wm : World, wm = wr := ⟨_, rfl⟩
                have HHm := Lib.hid hh; have HQm := Lib.hid hq; have HNE := Lib.hid hne; have HNL := Lib.hid hnl; clear hh hq hne hnl
                by_cases hlt : qi < M.length
                · by_cases hz : pn.length = 0
                  · have hzb : decide ((0 : Int) < (pn.length : Int)) = false := decide_eq_false (by omega)
                    have hzb2 : decide (0 < pn.length) = false := decide_eq_false (by omega)
                    go_wp2_with fail
                    refine (nDown_sl bn bd n1 _ (HHm.out.four)).mono ?_
                    rintro e w5 ⟨rfl, rfl⟩
                    rw [ND.out]
                    go_wp2
                    go_ret
                    exact ⟨rfl, (HHm.out.eq (by ac_rfl : _ = (dsk bd d1 * (nrow (.slice an pn.length cn) pn * (nls bd pn ns * (nod bn bd n1 * (cblk b bd bp (.slice an pn.length cn) vv * RR))))) * old w)).toBelow HQm.out⟩
                  · have hzb : decide ((0 : Int) < (pn.length : Int)) = true := decide_eq_true (by omega)
                    have hzb2 : decide (0 < pn.length) = true := decide_eq_true (by omega)
                    obtain ⟨o, ho⟩ : ∃ o, M[qi]? = some o := ⟨_, List.getElem?_eq_getElem hlt⟩
                    obtain ⟨ga, off, c', e, _, _, hc0⟩ := HM.out.get (by omega)
                    simp only [Value.slice.injEq] at e
                    obtain ⟨rfl, _, rfl⟩ := e
                    have HO := Lib.hid ho
                    obtain ⟨x0, x1, x2, x3, x4, x5, x6, x7, x8⟩ := stp_cells HM.out ho (HHm.out.eq (by ac_rfl : _ = (dsk bd d1 * (nrow (.slice an pn.length cn) pn * (nls bd pn ns * (nod bn bd n1 * (cblk b bd bp (.slice an pn.length cn) vv * RR))))) * old w))
                    obtain ⟨kd, x, kp, ⟨kd2, nw, jb, tr, wk, tm⟩⟩ := o
                    dsimp only at x0 x1 x2 x3 x4 x5 x6 x7 x8
                    clear ho hc0
                    obtain ⟨K, hKl, hK⟩ := uidx x pn.length (by omega) (by omega)
                    have hwl : IntKind.u64.wrap (pn.length : Int) = (pn.length : Int) := by
                      have hw : ∀ n : Int, IntKind.u64.wrap n = n % 18446744073709551616 := fun n => by simp [IntKind.wrap, IntKind.bits, IntKind.signed]
                      rw [hw]; omega
                    have hzi : ¬ (pn.length : Int) = 0 := by omega
                    have hK2 : IntKind.i64.wrap ((IntKind.u64.wrap x).tmod (pn.length : Int)) = (K : Int) := by
                      have h1 := hK
                      unfold wrap64 at h1
                      rw [IntKind.wrap_i64]
                      first | exact hK | omega
                    obtain ⟨n, hn⟩ : ∃ n, ns[K]? = some n := ⟨_, List.getElem?_eq_getElem (by rw [HNL.out]; exact hKl)⟩
                    obtain ⟨p, hp⟩ : ∃ p, pn[K]? = some p := ⟨_, List.getElem?_eq_getElem hKl⟩
                    obtain ⟨RN, hRN, hRN2⟩ := lst_pick (fun p n => nod p bd n) pn ns K p n hp hn
                    obtain ⟨an1, an2, an3⟩ := HNE.out n (List.mem_of_getElem? hn)
                    obtain ⟨cc, hcc, hord⟩ := order_fenced an2 ⟨kd2, nw, jb, tr, wk, tm⟩ 9
                    obtain ⟨nt, nep, ndn⟩ := n
                    dsimp only at an1 an2 an3 hord
                    have htear := tear_down d1 nt nep ⟨kd2, nw, jb, tr, wk, tm⟩ (keepN kp)
                    have H5 := Lib.hid (HHm.out.eq (by unfold nls; rw [hRN]; ac_rfl : _ = nod p bd ⟨nt, nep, ndn⟩ * (dsk bd d1 * (nrow (.slice an pn.length cn) pn * (nod bn bd n1 * (cblk b bd bp (.slice an pn.length cn) vv * (RN * (RR * old w))))))))
                    obtain ⟨gn, on, cn', en, _, _, hcn⟩ := H5.out.three.row.get (by omega)
                    simp only [Value.slice.injEq] at en
                    obtain ⟨rfl, _, rfl⟩ := en
                    have hcn' := hcn _ _ (pvs_get pn hp)
                    have mkS : ∀ (W : World) (A : HP), Holds W (A * (nrow (.slice (some ⟨gn, on, none⟩) pn.length cn) pn * (nod bn bd n1 * (cblk b bd bp (.slice (some ⟨gn, on, none⟩) pn.length cn) vv * (RN * (RR * old w)))))) → W.cell? ⟨gn, on + K, none⟩ = some (.pointer (some ⟨p, 0, none⟩)) ∧ W.cell? ⟨ga, off + qi * 9, none⟩ = some (.int .i64 kd) ∧ W.cell? ⟨ga, off + qi * 9 + 1, none⟩ = some (.int .i64 x) ∧ W.cell? ⟨ga, off + qi * 9 + 2, none⟩ = some (.int .i64 kp) ∧ W.cell? ⟨ga, off + qi * 9 + 3, none⟩ = some (.int .i64 kd2) ∧ W.cell? ⟨ga, off + qi * 9 + 4, none⟩ = some (.int .i64 nw) ∧ W.cell? ⟨ga, off + qi * 9 + 5, none⟩ = some (.int .i64 jb) ∧ W.cell? ⟨ga, off + qi * 9 + 6, none⟩ = some (.int .i64 tr) ∧ W.cell? ⟨ga, off + qi * 9 + 7, none⟩ = some (.int .i64 wk) ∧ W.cell? ⟨ga, off + qi * 9 + 8, none⟩ = some (.int .i64 tm) := by
                      intro W A hW
                      obtain ⟨g', o', c', e, _, _, hc⟩ := hW.two.row.get (by omega)
                      simp only [Value.slice.injEq, Option.some.injEq, Addr.mk.injEq, and_true] at e
                      obtain ⟨⟨rfl, rfl⟩, _, rfl⟩ := e
                      exact ⟨hc _ _ (pvs_get pn hp), stp_cells HM.out HO.out (hW.eq (by ac_rfl : _ = (A * (nrow (.slice (some ⟨gn, on, none⟩) pn.length cn) pn * (nod bn bd n1 * (cblk b bd bp (.slice (some ⟨gn, on, none⟩) pn.length cn) vv * (RN * RR))))) * old w))⟩
                    have MKS := Lib.hid mkS
                    have S5 := Lib.hid (mkS wm.drew (nod p bd ⟨nt, nep, ndn⟩ * dsk bd d1) (H5.out.drew.eq (HP.assoc _ _ _).symm))
                    have HORD := Lib.hid hord; have HTE := Lib.hid htear; have AN3 := Lib.hid an3; have AN1 := Lib.hid an1; have HRN2 := Lib.hid hRN2
                    have hne' : ∀ n ∈ ns.set K ⟨nt, nep, true⟩, 1 ≤ n.ep ∧ n.ep ≠ d1.ep ∧ n.t.Ok := fun n hn => by
                      rcases List.mem_or_eq_of_mem_set hn with h | h
                      · exact HNE.out n h
                      · subst h; exact ⟨an1, an2, an3⟩
                    have HNE' := Lib.hid hne'
                    have hKi : (K : Int) < (pn.length : Int) := by omega
                    have hqm : (qi : Int) < (M.length : Int) := by omega
                    clear hn hp hRN hord htear an1 an2 an3 hcn mkS hne' hRN2
                    go_wp2_with fail
                    try simp only [hK, hK2]
                    refine wp_region_lex (fun W => W.cell? ⟨gn, on + K, none⟩ = some (.pointer (some ⟨p, 0, none⟩)) ∧ W.cell? ⟨ga, off + qi * 9, none⟩ = some (.int .i64 kd) ∧ W.cell? ⟨ga, off + qi * 9 + 1, none⟩ = some (.int .i64 x) ∧ W.cell? ⟨ga, off + qi * 9 + 2, none⟩ = some (.int .i64 kp) ∧ W.cell? ⟨ga, off + qi * 9 + 3, none⟩ = some (.int .i64 kd2) ∧ W.cell? ⟨ga, off + qi * 9 + 4, none⟩ = some (.int .i64 nw) ∧ W.cell? ⟨ga, off + qi * 9 + 5, none⟩ = some (.int .i64 jb) ∧ W.cell? ⟨ga, off + qi * 9 + 6, none⟩ = some (.int .i64 tr) ∧ W.cell? ⟨ga, off + qi * 9 + 7, none⟩ = some (.int .i64 wk) ∧ W.cell? ⟨ga, off + qi * 9 + 8, none⟩ = some (.int .i64 tm)) [9] (by kernel_rfl) (by kernel_rfl) S5.out ?_
                    repeat (first | (refine LexL.none (by rfl) ?_; (try simp only [Act.put, List.setIfInBounds_toArray, List.set_cons_zero, List.set_cons_succ])) | (refine LexL.still (v := ?_) (by rfl) ?_ ?_; rotate_left; (focus (intro W hW; (try dsimp only at hW); go_simp; (try (with_reducible rfl)); done)); (try simp only [Act.put, List.setIfInBounds_toArray, List.set_cons_zero, List.set_cons_succ])))
                    refine LexL.call (f := 38) (args := #[.pointer (some ⟨p, 0, none⟩), .agg #[.int .i64 kd2, .int .i64 nw, .int .i64 jb, .int .i64 tr, .int .i64 wk, .int .i64 tm]]) (w1 := wm.drew) (by rfl) (by decide) (by go_simp) ?_
                    refine (nOrder_sl p bd d1 ⟨nt, nep, ndn⟩ kd2 nw jb tr wk tm _ H5.out.drew DOK.out AN1.out AN3.out).mono ?_
                    rw [HORD.out]
                    rintro e w6 ⟨rfl, q6, h6⟩
                    simp only [Ans.val]
                    have H6 := Lib.hid (show Holds w6 (nod p bd ⟨nt, nep, true⟩ * (dsk bd d1 * (nrow (.slice (some ⟨gn, on, none⟩) pn.length cn) pn * (nod bn bd n1 * (cblk b bd bp (.slice (some ⟨gn, on, none⟩) pn.length cn) vv * (RN * (RR * old w))))))) from h6)
                    have Q6 := Lib.hid (HQm.out.drew.trans q6)
                    refine ⟨_, rfl, MKS.out w6 (nod p bd ⟨nt, nep, true⟩ * dsk bd d1) (H6.out.eq (HP.assoc _ _ _).symm), ?_⟩
                    clear h6 q6 x0 x1 x2 x3 x4 x5 x6 x7 x8 hcn' H5 S5
                    try simp only [Act.put, List.setIfInBounds_toArray, List.set_cons_zero, List.set_cons_succ]
                    repeat (first | (refine LexL.none (by rfl) ?_; (try simp only [Act.put, List.setIfInBounds_toArray, List.set_cons_zero, List.set_cons_succ])) | (refine LexL.still (v := ?_) (by rfl) ?_ ?_; rotate_left; (focus (intro W hW; (try dsimp only at hW); go_simp; (try (with_reducible rfl)); done)); (try simp only [Act.put, List.setIfInBounds_toArray, List.set_cons_zero, List.set_cons_succ])))
                    refine LexL.done ?_
                    obtain ⟨hcn', x0, x1, x2, x3, x4, x5, x6, x7, x8⟩ := MKS.out w6 (nod p bd ⟨nt, nep, true⟩ * dsk bd d1) (H6.out.eq (HP.assoc _ _ _).symm)
                    by_cases hk2 : kd = 2
                    · subst hk2
                      have S6 := Lib.hid (MKS.out w6.drew (nod p bd ⟨nt, nep, true⟩ * dsk bd d1) (H6.out.drew.eq (HP.assoc _ _ _).symm))
                      go_wp2_with fail
                      try simp only [hK, hK2]
                      refine wp_region_lex (fun W => W.cell? ⟨gn, on + K, none⟩ = some (.pointer (some ⟨p, 0, none⟩)) ∧ W.cell? ⟨ga, off + qi * 9, none⟩ = some (.int .i64 2) ∧ W.cell? ⟨ga, off + qi * 9 + 1, none⟩ = some (.int .i64 x) ∧ W.cell? ⟨ga, off + qi * 9 + 2, none⟩ = some (.int .i64 kp) ∧ W.cell? ⟨ga, off + qi * 9 + 3, none⟩ = some (.int .i64 kd2) ∧ W.cell? ⟨ga, off + qi * 9 + 4, none⟩ = some (.int .i64 nw) ∧ W.cell? ⟨ga, off + qi * 9 + 5, none⟩ = some (.int .i64 jb) ∧ W.cell? ⟨ga, off + qi * 9 + 6, none⟩ = some (.int .i64 tr) ∧ W.cell? ⟨ga, off + qi * 9 + 7, none⟩ = some (.int .i64 wk) ∧ W.cell? ⟨ga, off + qi * 9 + 8, none⟩ = some (.int .i64 tm)) [14] (by kernel_rfl) (by kernel_rfl) S6.out ?_
                      repeat (first | (refine LexL.none (by rfl) ?_; (try simp only [Act.put, List.setIfInBounds_toArray, List.set_cons_zero, List.set_cons_succ])) | (refine LexL.still (v := ?_) (by rfl) ?_ ?_; rotate_left; (focus (intro W hW; (try dsimp only at hW); go_simp; (try (with_reducible rfl)); done)); (try simp only [Act.put, List.setIfInBounds_toArray, List.set_cons_zero, List.set_cons_succ])))
                      refine LexL.call (f := 39) (args := #[.pointer (some ⟨p, 0, none⟩), .agg #[.int .i64 kd2, .int .i64 nw, .int .i64 jb, .int .i64 tr, .int .i64 wk, .int .i64 tm], .int .i64 kp]) (w1 := w6.drew) (by rfl) (by decide) (by go_simp) ?_
                      refine (nTear_sl p bd d1 ⟨nt, nep, true⟩ kd2 nw jb tr wk tm kp _ H6.out.drew DOK.out AN1.out AN3.out).mono ?_
                      rw [HTE.out]
                      rintro e w7 ⟨rfl, q7, h7⟩
                      dsimp only
                      have H7 := Lib.hid (show Holds w7 (nod p bd ⟨nt, nep, true⟩ * (dsk bd d1 * (nrow (.slice (some ⟨gn, on, none⟩) pn.length cn) pn * (nod bn bd n1 * (cblk b bd bp (.slice (some ⟨gn, on, none⟩) pn.length cn) vv * (RN * (RR * old w))))))) from h7)
                      have Q7 := Lib.hid (Q6.out.drew.trans q7)
                      refine ⟨_, rfl, MKS.out w7 (nod p bd ⟨nt, nep, true⟩ * dsk bd d1) (H7.out.eq (HP.assoc _ _ _).symm), ?_⟩
                      clear h7 q7 x0 x1 x2 x3 x4 x5 x6 x7 x8 hcn' S6
                      try simp only [Act.put, List.setIfInBounds_toArray, List.set_cons_zero, List.set_cons_succ]
                      repeat (first | (refine LexL.none (by rfl) ?_; (try simp only [Act.put, List.setIfInBounds_toArray, List.set_cons_zero, List.set_cons_succ])) | (refine LexL.still (v := ?_) (by rfl) ?_ ?_; rotate_left; (focus (intro W hW; (try dsimp only at hW); go_simp; (try (with_reducible rfl)); done)); (try simp only [Act.put, List.setIfInBounds_toArray, List.set_cons_zero, List.set_cons_succ])))
                      refine LexL.done ?_
                      obtain ⟨hcn', x0, x1, x2, x3, x4, x5, x6, x7, x8⟩ := MKS.out w7 (nod p bd ⟨nt, nep, true⟩ * dsk bd d1) (H7.out.eq (HP.assoc _ _ _).symm)
                      have cc5 := (show BlockAt w7 b 78 [.pointer (some ⟨bd, 0, none⟩), .pointer (some ⟨bp, 0, none⟩), (.slice (some ⟨gn, on, none⟩) pn.length cn), vv] from (H7.out.eq (by ac_rfl : _ = cblk b bd bp (.slice (some ⟨gn, on, none⟩) pn.length cn) vv * (nod p bd ⟨nt, nep, true⟩ * (dsk bd d1 * (nrow (.slice (some ⟨gn, on, none⟩) pn.length cn) pn * (nod bn bd n1 * (RN * (RR * old w)))))))).bl).cells
                      go_wp2_with fail
                      try simp only [hK, hK2]
                      refine (nDown_sl p bd ⟨nt, nep, true⟩ _ H7.out).mono ?_
                      rintro e w8 ⟨rfl, rfl⟩
                      dsimp only
                      go_wp2_with fail
                      refine (bytes_sl bd d1 _ H7.out.two DOK.out).mono ?_
                      rintro e w9 ⟨vc, rfl, q9, h9⟩
                      have hs9 := run_string_bytes h9.ownb.bytes
                      rw [hsb] at hs9
                      have Q9 := Lib.hid (Q7.out.trans q9)
                      have H9 := Lib.hid ((show Holds w9 (ownb vc d1.b * (dsk bd d1 * (nod p bd ⟨nt, nep, true⟩ * (nrow (.slice (some ⟨gn, on, none⟩) pn.length cn) pn * (nod bn bd n1 * (cblk b bd bp (.slice (some ⟨gn, on, none⟩) pn.length cn) vv * (RN * (RR * old w)))))))) from h9).right)
                      have cc9 := (show BlockAt w9 b 78 [.pointer (some ⟨bd, 0, none⟩), .pointer (some ⟨bp, 0, none⟩), (.slice (some ⟨gn, on, none⟩) pn.length cn), vv] from (H9.out.eq (by ac_rfl : _ = cblk b bd bp (.slice (some ⟨gn, on, none⟩) pn.length cn) vv * (nod p bd ⟨nt, nep, true⟩ * (dsk bd d1 * (nrow (.slice (some ⟨gn, on, none⟩) pn.length cn) pn * (nod bn bd n1 * (RN * (RR * old w)))))))).bl).cells
                      clear h9 q9 cc5 x0 x1 x2 x3 x4 x5 x6 x7 x8 hcn'
                      go_wp2_with fail
                      refine (depoch_sl bd d1 _ H9.out).mono ?_
                      rintro e w10 ⟨rfl, rfl⟩
                      go_wp2_with fail
                      refine (nEpoch_sl bn bd n1 _ H9.out.four).mono ?_
                      rintro e w10 ⟨rfl, rfl⟩
                      rw [NE.out]
                      go_wp2_with fail
                      go_roundw
                      case rel => exact ⟨qi + 1, ns.set K ⟨nt, nep, true⟩, by omega, by go_num, H9.out.eq (by unfold nls; rw [HRN2.out]; ac_rfl), Q9.out, by simpa using HNL.out, HNE'.out⟩
                      case measure => simp [intOf]; omega
                    · have hkb : (kd == 2) = false := by simpa using hk2
                      clear hk2
                      rcases hcc with rfl | rfl
                      · have cc5 := (show BlockAt w6 b 78 [.pointer (some ⟨bd, 0, none⟩), .pointer (some ⟨bp, 0, none⟩), (.slice (some ⟨gn, on, none⟩) pn.length cn), vv] from (H6.out.eq (by ac_rfl : _ = cblk b bd bp (.slice (some ⟨gn, on, none⟩) pn.length cn) vv * (nod p bd ⟨nt, nep, true⟩ * (dsk bd d1 * (nrow (.slice (some ⟨gn, on, none⟩) pn.length cn) pn * (nod bn bd n1 * (RN * (RR * old w)))))))).bl).cells
                        go_wp2_with fail
                        try simp only [hK, hK2]
                        refine (nDown_sl p bd ⟨nt, nep, true⟩ _ H6.out).mono ?_
                        rintro e w8 ⟨rfl, rfl⟩
                        dsimp only
                        go_wp2_with fail
                        refine (bytes_sl bd d1 _ H6.out.two DOK.out).mono ?_
                        rintro e w9 ⟨vc, rfl, q9, h9⟩
                        have hs9 := run_string_bytes h9.ownb.bytes
                        rw [hsb] at hs9
                        have Q9 := Lib.hid (Q6.out.trans q9)
                        have H9 := Lib.hid ((show Holds w9 (ownb vc d1.b * (dsk bd d1 * (nod p bd ⟨nt, nep, true⟩ * (nrow (.slice (some ⟨gn, on, none⟩) pn.length cn) pn * (nod bn bd n1 * (cblk b bd bp (.slice (some ⟨gn, on, none⟩) pn.length cn) vv * (RN * (RR * old w)))))))) from h9).right)
                        have cc9 := (show BlockAt w9 b 78 [.pointer (some ⟨bd, 0, none⟩), .pointer (some ⟨bp, 0, none⟩), (.slice (some ⟨gn, on, none⟩) pn.length cn), vv] from (H9.out.eq (by ac_rfl : _ = cblk b bd bp (.slice (some ⟨gn, on, none⟩) pn.length cn) vv * (nod p bd ⟨nt, nep, true⟩ * (dsk bd d1 * (nrow (.slice (some ⟨gn, on, none⟩) pn.length cn) pn * (nod bn bd n1 * (RN * (RR * old w)))))))).bl).cells
                        clear h9 q9 cc5 x0 x1 x2 x3 x4 x5 x6 x7 x8 hcn'
                        go_wp2_with fail
                        refine (depoch_sl bd d1 _ H9.out).mono ?_
                        rintro e w10 ⟨rfl, rfl⟩
                        go_wp2_with fail
                        refine (nEpoch_sl bn bd n1 _ H9.out.four).mono ?_
                        rintro e w10 ⟨rfl, rfl⟩
                        rw [NE.out]
                        go_wp2_with fail
                        go_roundw
                        case rel => exact ⟨qi + 1, ns.set K ⟨nt, nep, true⟩, by omega, by go_num, H9.out.eq (by unfold nls; rw [HRN2.out]; ac_rfl), Q9.out, by simpa using HNL.out, HNE'.out⟩
                        case measure => simp [intOf]; omega
                      · have cc5 := (show BlockAt w6 b 78 [.pointer (some ⟨bd, 0, none⟩), .pointer (some ⟨bp, 0, none⟩), (.slice (some ⟨gn, on, none⟩) pn.length cn), vv] from (H6.out.eq (by ac_rfl : _ = cblk b bd bp (.slice (some ⟨gn, on, none⟩) pn.length cn) vv * (nod p bd ⟨nt, nep, true⟩ * (dsk bd d1 * (nrow (.slice (some ⟨gn, on, none⟩) pn.length cn) pn * (nod bn bd n1 * (RN * (RR * old w)))))))).bl).cells
                        go_wp2_with fail
                        try simp only [hK, hK2]
                        refine (nDown_sl p bd ⟨nt, nep, true⟩ _ H6.out).mono ?_
                        rintro e w8 ⟨rfl, rfl⟩
                        dsimp only
                        go_wp2_with fail
                        refine (bytes_sl bd d1 _ H6.out.two DOK.out).mono ?_
                        rintro e w9 ⟨vc, rfl, q9, h9⟩
                        have hs9 := run_string_bytes h9.ownb.bytes
                        rw [hsb] at hs9
                        have Q9 := Lib.hid (Q6.out.trans q9)
                        have H9 := Lib.hid ((show Holds w9 (ownb vc d1.b * (dsk bd d1 * (nod p bd ⟨nt, nep, true⟩ * (nrow (.slice (some ⟨gn, on, none⟩) pn.length cn) pn * (nod bn bd n1 * (cblk b bd bp (.slice (some ⟨gn, on, none⟩) pn.length cn) vv * (RN * (RR * old w)))))))) from h9).right)
                        have cc9 := (show BlockAt w9 b 78 [.pointer (some ⟨bd, 0, none⟩), .pointer (some ⟨bp, 0, none⟩), (.slice (some ⟨gn, on, none⟩) pn.length cn), vv] from (H9.out.eq (by ac_rfl : _ = cblk b bd bp (.slice (some ⟨gn, on, none⟩) pn.length cn) vv * (nod p bd ⟨nt, nep, true⟩ * (dsk bd d1 * (nrow (.slice (some ⟨gn, on, none⟩) pn.length cn) pn * (nod bn bd n1 * (RN * (RR * old w)))))))).bl).cells
                        clear h9 q9 cc5 x0 x1 x2 x3 x4 x5 x6 x7 x8 hcn'
                        go_wp2_with fail
                        refine (depoch_sl bd d1 _ H9.out).mono ?_
                        rintro e w10 ⟨rfl, rfl⟩
                        go_wp2_with fail
                        refine (nEpoch_sl bn bd n1 _ H9.out.four).mono ?_
                        rintro e w10 ⟨rfl, rfl⟩
                        rw [NE.out]
                        go_wp2_with fail
                        go_roundw
                        case rel => exact ⟨qi + 1, ns.set K ⟨nt, nep, true⟩, by omega, by go_num, H9.out.eq (by unfold nls; rw [HRN2.out]; ac_rfl), Q9.out, by simpa using HNL.out, HNE'.out⟩
                        case measure => simp [intOf]; omega
                · obtain rfl : qi = M.length := by omega
                  go_wp2_with fail
                  refine (nDown_sl bn bd n1 _ (HHm.out.four)).mono ?_
                  rintro e w5 ⟨rfl, rfl⟩
                  rw [ND.out]
                  go_wp2
                  go_ret
                  exact ⟨rfl, (HHm.out.eq (by ac_rfl : _ = (dsk bd d1 * (nrow (.slice an pn.length cn) pn * (nls bd pn ns * (nod bn bd n1 * (cblk b bd bp (.slice an pn.length cn) vv * RR))))) * old w)).toBelow HQm.out⟩
end Go.Proofs.Ytfihmpkkpgmdhab
