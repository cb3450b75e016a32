/-
  NodeAgain, walked: what was answered is there again.
-/
import Derived.Test.YtfihmpkkpgmdhabCrewD
import Derived.Test.YtfihmpkkpgmdhabBehind
namespace Go.Proofs.Ytfihmpkkpgmdhab
set_option linter.unusedSimpArgs false
set_option linter.unusedVariables false
open Go.RowKit
set_option maxRecDepth 100000 in
set_option maxHeartbeats 8000000 in
theorem nodeAgain_any (v0 v1 : Value) (B : List UInt8) (L : List Stp) (w : World) (hb : BytesAt w v0 B) (hL : (∀ r ∈ L, ∀ n ∈ r.ints, I64' n) ∧ RowAt w v1 L.length (svs L)) :
    Calls Try.prog 13 #[v0, v1] w fun e w' => e = .returned (.bool true) ∧ Below w.heap.size w w' := by
  have hfldA : ∀ (a b c : Value) (W : World), (Instr.field 32 (.agg #[a, b, c]) 0).run Try.prog W = .ok a W := fun a b c W => by kernel_rfl
  obtain ⟨ab, cb, rfl, _, _⟩ := hb.shape
  obtain ⟨al, cl, rfl, _, _⟩ := hL.2.shape
  have HBY := Lib.hid hb; have HV := Lib.hid hL.2; clear hb hL
  go_enter Try.func13, Try.ntmps13
  go_wp2_with fail
  refine (nodeBegun_any _).mono ?_
  rintro e w1 ⟨rfl, hb1⟩
  have H1 := Lib.hid ((Holds.old (w := w)).below hb1)
  have Q1 := Lib.hid (Quiet.below hb1); clear hb1
  by_cases hb1400 : 1400 < B.length
  · go_wp2
    go_ret
    exact ⟨rfl, H1.out.toBelow' Q1.out⟩
  · by_cases hl200 : 200 < L.length
    · go_wp2
      go_ret
      exact ⟨rfl, H1.out.toBelow' Q1.out⟩
    · go_wp2_with fail
      have HB1 := Lib.hid (HBY.out.to H1.out.block)
      refine (newCrew_sl _ B _ HB1.out (by omega)).mono ?_
      rintro e w2 ⟨b, bd, bp, rfl, q2, h2⟩
      have h2f := ((h2.eq (by unfold CH; ac_rfl : _ = (cblk b bd bp (.slice none 0 0) (.slice none 0 0) * (dsk bd ⟨1, B⟩ * (plt bp 115 [] ⟨1, B⟩ * (nrow (.slice none 0 0) [] * (vrow (.slice none 0 0) [] * (nls bd [] [] * vls bp [] [])))))) * old w1)).frame H1.out)
      have H2 := Lib.hid (show Holds w2 (CH b bd bp (.slice none 0 0) (.slice none 0 0) [] [] ⟨⟨1, B⟩, []⟩ ⟨⟨1, B⟩, []⟩ (old w)) from h2f.eq (by unfold CH; ac_rfl))
      have Q2 := Lib.hid (Q1.out.trans q2); clear h2 q2 h2f HB1
      go_wp2_with fail
      go_loopw [6] (fun i wr => ∃ (k : Nat) (vn vv : Value) (pn pv : List Nat) (c v : Crw), k ≤ L.length ∧ i = .int .i64 k ∧ Holds wr (CH b bd bp vn vv pn pv c v (old w)) ∧ Quiet w wr ∧ Cok pn pv c v) (fun i _ => L.length - (intOf i).toNat)
      case atStart => exact ⟨0, _, _, _, _, _, _, by omega, rfl, H2.out, Q2.out, cok_zero (by omega)⟩
      case round =>
        obtain ⟨k, vn, vv, pn, pv, c, v, hk, rfl, hh, hq, hok⟩ := hrel
        obtain ⟨wo, rfl⟩ : ∃ wo : World, wo = wr := ⟨_, rfl⟩
        have HH := Lib.hid hh; have HQ := Lib.hid hq; have HOK := Lib.hid hok; clear hh hq hok
        by_cases hlt : k < L.length
        · obtain ⟨o, ho⟩ : ∃ o, L[k]? = some o := ⟨_, List.getElem?_eq_getElem hlt⟩
          obtain ⟨ga, off, c', e, _, _, hc0⟩ := HV.out.get (by omega)
          simp only [Value.slice.injEq] at e
          obtain ⟨rfl, _, rfl⟩ := e
          obtain ⟨x0, x1, x2, x3, x4, x5, x6, x7, x8⟩ := stp_cells HV.out ho (HH.out.eq (by unfold CH; ac_rfl : _ = (cblk b bd bp vn vv * (dsk bd c.d * (plt bp 115 [] v.d * (nrow vn pn * (vrow vv pv * (nls bd pn c.ns * vls bp pv v.ns)))))) * old w))
          obtain ⟨kd, x, kp, ⟨kd2, nw, jb, tr, wk, tm⟩⟩ := o
          dsimp only at x0 x1 x2 x3 x4 x5 x6 x7 x8
          clear ho hc0
          go_wp2_with fail
          refine (cstep_sl b bd bp vn vv pn pv c v kd x kp kd2 nw jb tr wk tm _ HH.out HOK.out).mono ?_
          rintro e w3 ⟨vn', vv', pn', pv', c', v', y, rfl, q3, h3, hok', _⟩
          have Q3 := Lib.hid (HQ.out.trans q3)
          clear x0 x1 x2 x3 x4 x5 x6 x7 x8
          go_wp2_with fail
          go_roundw
          case rel => exact ⟨k + 1, vn', vv', pn', pv', c', v', by omega, by go_num, h3, Q3.out, hok'⟩
          case measure => simp [intOf]; omega
        · obtain rfl : k = L.length := by omega
          obtain ⟨an, cn, rfl, _, _⟩ := (HH.out.eq (by unfold CH; ac_rfl : _ = nrow vn pn * (cblk b bd bp vn vv * (dsk bd c.d * (plt bp 115 [] v.d * (vrow vv pv * (nls bd pn c.ns * (vls bp pv v.ns * old w)))))))).row.shape
          obtain ⟨RB, hRB⟩ : ∃ RB, plt bp 115 [] v.d * (vrow vv pv * vls bp pv v.ns) = RB := ⟨_, rfl⟩
          have H9 := Lib.hid (HH.out.eq (by unfold CH; rw [← hRB]; ac_rfl : _ = dsk bd c.d * (cblk b bd bp (.slice an pn.length cn) vv * (nrow (.slice an pn.length cn) pn * (nls bd pn c.ns * (RB * old w))))))
          have cc0 := (show BlockAt wo b 78 [.pointer (some ⟨bd, 0, none⟩), .pointer (some ⟨bp, 0, none⟩), .slice an pn.length cn, vv] from H9.out.two.bl).cell 0 _ rfl
          have hb15 : c.d.b.length ≤ 1500 := HOK.out.g1.dok.b
          have hlb := allB_len c.d.b
          obtain ⟨F0, hF0⟩ : ∃ F0, allB c.d.b = F0 := ⟨_, rfl⟩
          rw [hF0] at hlb
          obtain ⟨F, hF⟩ : ∃ F, found c.d = F := ⟨_, rfl⟩
          have hun : untilE c.d.ep F0 = F := by rw [← hF0]; exact hF
          have hln := HOK.out.ln
          have hl8 : pn.length ≤ 8 := by rw [hln]; exact HOK.out.g1.2
          have HF0 := Lib.hid hF0; have HF := Lib.hid hF; have HUN := Lib.hid hun; have HLN := Lib.hid hln
          clear hRB hF0 hF hun hln
          go_wp2_with fail
          refine wp_region_lex (fun W => W.cell? ⟨b, 0, none⟩ = some (.pointer (some ⟨bd, 0, none⟩))) [4, 5, 10, 11] (by kernel_rfl) (by kernel_rfl) cc0 ?_
          repeat (first | (refine LexL.none (by rfl) ?_; (try simp only [Act.put, List.setIfInBounds_toArray, List.set_cons_zero, List.set_cons_succ])) | (refine LexL.still (v := ?_) (by rfl) ?_ ?_; rotate_left; (focus (intro W hW; (try dsimp only at hW); go_simp; (try (with_reducible rfl)); done)); (try simp only [Act.put, List.setIfInBounds_toArray, List.set_cons_zero, List.set_cons_succ])))
          refine LexL.call (f := 37) (args := #[.pointer (some ⟨bd, 0, none⟩)]) (w1 := wo.drew) (by rfl) (by decide) (by go_simp) ?_
          refine (bytes_sl bd c.d _ H9.out.drew HOK.out.g1.dok).mono ?_
          rintro e w3 ⟨vb, rfl, q3, h3⟩
          have H3 := Lib.hid (show Holds w3 (ownb vb c.d.b * (dsk bd c.d * (cblk b bd bp (.slice an pn.length cn) vv * (nrow (.slice an pn.length cn) pn * (nls bd pn c.ns * (RB * old w)))))) from h3); have Q3 := Lib.hid (HQ.out.drew.trans q3); clear h3 q3
          have cc3 := (show BlockAt w3 b 78 [.pointer (some ⟨bd, 0, none⟩), .pointer (some ⟨bp, 0, none⟩), .slice an pn.length cn, vv] from H3.out.three.bl).cell 0 _ rfl
          refine ⟨_, rfl, cc3, ?_⟩
          try simp only [Act.put, List.setIfInBounds_toArray, List.set_cons_zero, List.set_cons_succ]
          repeat (first | (refine LexL.none (by rfl) ?_; (try simp only [Act.put, List.setIfInBounds_toArray, List.set_cons_zero, List.set_cons_succ])) | (refine LexL.still (v := ?_) (by rfl) ?_ ?_; rotate_left; (focus (intro W hW; (try dsimp only at hW); go_simp; (try (with_reducible rfl)); done)); (try simp only [Act.put, List.setIfInBounds_toArray, List.set_cons_zero, List.set_cons_succ])))
          refine LexL.call (f := 43) (args := #[vb]) (w1 := w3) (by rfl) (by decide) (by go_simp) ?_
          refine (all_sl _ c.d.b _ H3.out.ownb.bytes (by omega) H3.out).mono ?_
          rw [HF0.out]
          rintro e w4 ⟨vr, rfl, q4, h4⟩
          obtain ⟨ar, cr, rfl, hc1, _⟩ := h4.row.shape
          have H4 := Lib.hid (show Holds w4 (recs (.slice ar F0.length cr) F0 * (ownb vb c.d.b * (dsk bd c.d * (cblk b bd bp (.slice an pn.length cn) vv * (nrow (.slice an pn.length cn) pn * (nls bd pn c.ns * (RB * old w))))))) from h4); have Q4 := Lib.hid (Q3.out.trans q4); clear h4 q4
          have cc4 := (show BlockAt w4 b 78 [.pointer (some ⟨bd, 0, none⟩), .pointer (some ⟨bp, 0, none⟩), .slice an pn.length cn, vv] from H4.out.four.bl).cell 0 _ rfl
          refine ⟨_, rfl, cc4, ?_⟩
          try simp only [Act.put, List.setIfInBounds_toArray, List.set_cons_zero, List.set_cons_succ]
          repeat (first | (refine LexL.none (by rfl) ?_; (try simp only [Act.put, List.setIfInBounds_toArray, List.set_cons_zero, List.set_cons_succ])) | (refine LexL.still (v := ?_) (by rfl) ?_ ?_; rotate_left; (focus (intro W hW; (try dsimp only at hW); go_simp; (try (with_reducible rfl)); done)); (try simp only [Act.put, List.setIfInBounds_toArray, List.set_cons_zero, List.set_cons_succ])))
          refine LexL.call (f := 41) (args := #[.pointer (some ⟨bd, 0, none⟩)]) (w1 := w4) (by rfl) (by decide) (by go_simp) ?_
          refine (depoch_sl bd c.d _ H4.out.three).mono ?_
          rintro e w5 ⟨rfl, rfl⟩
          refine ⟨_, rfl, cc4, ?_⟩
          try simp only [Act.put, List.setIfInBounds_toArray, List.set_cons_zero, List.set_cons_succ]
          repeat (first | (refine LexL.none (by rfl) ?_; (try simp only [Act.put, List.setIfInBounds_toArray, List.set_cons_zero, List.set_cons_succ])) | (refine LexL.still (v := ?_) (by rfl) ?_ ?_; rotate_left; (focus (intro W hW; (try dsimp only at hW); go_simp; (try (with_reducible rfl)); done)); (try simp only [Act.put, List.setIfInBounds_toArray, List.set_cons_zero, List.set_cons_succ])))
          refine LexL.call (f := 47) (args := #[.slice ar F0.length cr, .int .i64 c.d.ep]) (w1 := w4) (by rfl) (by decide) (by go_simp) ?_
          refine (until_any ar cr F0 c.d.ep _ H4.out.row (by omega)).mono ?_
          rw [HUN.out]
          rintro e w5 ⟨rfl, rfl, htk⟩
          have hFl : F.length ≤ F0.length := by have := congrArg List.length htk; rw [List.length_take] at this; omega
          have HTK := Lib.hid htk; clear htk
          refine ⟨_, rfl, cc4, ?_⟩
          try simp only [Act.put, List.setIfInBounds_toArray, List.set_cons_zero, List.set_cons_succ]
          repeat (first | (refine LexL.none (by rfl) ?_; (try simp only [Act.put, List.setIfInBounds_toArray, List.set_cons_zero, List.set_cons_succ])) | (refine LexL.still (v := ?_) (by rfl) ?_ ?_; rotate_left; (focus (intro W hW; (try dsimp only at hW); go_simp; (try (with_reducible rfl)); done)); (try simp only [Act.put, List.setIfInBounds_toArray, List.set_cons_zero, List.set_cons_succ])))
          refine LexL.done ?_
          obtain ⟨RR, hRR⟩ : ∃ RR, ownb vb c.d.b * RB = RR := ⟨_, rfl⟩
          have H5 := Lib.hid (H4.out.eq (by rw [← hRR]; ac_rfl : _ = (dsk bd c.d * (cblk b bd bp (.slice an pn.length cn) vv * (nrow (.slice an pn.length cn) pn * (nls bd pn c.ns * (recs (.slice ar F0.length cr) F0 * (RR * old w))))))))
          have rowF : ∀ (W : World) (X : HP), Holds W (recs (.slice ar F0.length cr) F0 * X) → RowAt W (.slice ar F.length cr) F.length (rvs F) := fun W X h => by
            have := recs_take h.row hFl
            rw [← HTK.out] at this
            exact this
          have ROWF := Lib.hid rowF
          clear hRR cc0 cc3 cc4 H3 H4 H9 hc1 rowF
          go_wp2_with fail
          go_loopw [8, 9] (fun la i wr => ∃ k : Nat, k ≤ pn.length ∧ i = .int .i64 k ∧ Hid (la = .pointer none ∨ ∃ (K p : Nat) (n : Nod), la = .pointer (some ⟨p, 0, none⟩) ∧ pn[K]? = some p ∧ c.ns[K]? = some n ∧ n.ep = c.d.ep ∧ n.down = false) ∧ Holds wr (dsk bd c.d * (cblk b bd bp (.slice an pn.length cn) vv * (nrow (.slice an pn.length cn) pn * (nls bd pn c.ns * (recs (.slice ar F0.length cr) F0 * (RR * old w)))))) ∧ Quiet w wr) (fun _ i _ => pn.length - (intOf i).toNat)
          case atStart => exact ⟨0, by omega, rfl, Lib.hid (.inl rfl), H5.out, Q4.out⟩
          case round =>
            obtain ⟨k, hk, rfl, hla, hh, hq⟩ := hrel
            obtain ⟨wn, rfl⟩ : ∃ wn : World, wn = wr := ⟨_, rfl⟩
            have HHn := Lib.hid hh; have HQn := Lib.hid hq; clear hh hq
            have cc6 := (show BlockAt wn b 78 [.pointer (some ⟨bd, 0, none⟩), .pointer (some ⟨bp, 0, none⟩), .slice an pn.length cn, vv] from HHn.out.two.bl).cells
            by_cases hlt : k < pn.length
            · obtain ⟨n, hn⟩ : ∃ n, c.ns[k]? = some n := ⟨_, List.getElem?_eq_getElem (by rw [← HLN.out]; exact hlt)⟩
              obtain ⟨p, hp⟩ : ∃ p, pn[k]? = some p := ⟨_, List.getElem?_eq_getElem hlt⟩
              obtain ⟨RN, hRN, hRN2⟩ := lst_pick (fun p n => nod p bd n) pn c.ns k p n hp hn
              have H6 := Lib.hid (HHn.out.eq (by unfold nls; rw [hRN]; ac_rfl : _ = nod p bd n * (dsk bd c.d * (nrow (.slice an pn.length cn) pn * (cblk b bd bp (.slice an pn.length cn) vv * (RN * (recs (.slice ar F0.length cr) F0 * (RR * old w))))))))
              obtain ⟨gn, on, cn', en, _, _, hcn⟩ := H6.out.three.row.get (by omega)
              simp only [Value.slice.injEq] at en
              obtain ⟨rfl, _, rfl⟩ := en
              have hcn' := hcn _ _ (pvs_get pn hp)
              have HN := Lib.hid hn; have HP_ := Lib.hid hp
              have hki : (k : Int) < (pn.length : Int) := by omega
              clear hn hp hRN hRN2 hcn
              obtain ⟨nt, nep, ndn⟩ := n
              have S6 := Lib.hid (show wn.cell? ⟨b, 0, none⟩ = some (.pointer (some ⟨bd, 0, none⟩)) ∧ wn.cell? ⟨b, 2, none⟩ = some (.slice (some ⟨gn, on, none⟩) pn.length cn) ∧ wn.cell? ⟨gn, on + k, none⟩ = some (.pointer (some ⟨p, 0, none⟩)) from ⟨cc6 0, cc6 2, hcn'⟩)
              by_cases hep : nep = c.d.ep
              · subst hep
                go_wp2_with fail
                refine wp_region_lex (fun W => W.cell? ⟨b, 0, none⟩ = some (.pointer (some ⟨bd, 0, none⟩)) ∧ W.cell? ⟨b, 2, none⟩ = some (.slice (some ⟨gn, on, none⟩) pn.length cn) ∧ W.cell? ⟨gn, on + k, none⟩ = some (.pointer (some ⟨p, 0, none⟩))) [7, 12, 14, 22] (by kernel_rfl) (by kernel_rfl) S6.out ?_
                repeat (first | (refine LexL.none (by rfl) ?_; (try simp only [Act.put, List.setIfInBounds_toArray, List.set_cons_zero, List.set_cons_succ])) | (refine LexL.still (v := ?_) (by rfl) ?_ ?_; rotate_left; (focus (intro W hW; (try dsimp only at hW); go_simp; (try (with_reducible rfl)); done)); (try simp only [Act.put, List.setIfInBounds_toArray, List.set_cons_zero, List.set_cons_succ])))
                refine LexL.call (f := 42) (args := #[.pointer (some ⟨p, 0, none⟩)]) (w1 := wn.drew) (by rfl) (by decide) (by go_simp) ?_
                refine (nEpoch_sl p bd _ _ H6.out.drew).mono ?_
                rintro e w7 ⟨rfl, rfl⟩
                refine ⟨_, rfl, S6.out, ?_⟩
                dsimp only
                try simp only [Act.put, List.setIfInBounds_toArray, List.set_cons_zero, List.set_cons_succ]
                repeat (first | (refine LexL.none (by rfl) ?_; (try simp only [Act.put, List.setIfInBounds_toArray, List.set_cons_zero, List.set_cons_succ])) | (refine LexL.still (v := ?_) (by rfl) ?_ ?_; rotate_left; (focus (intro W hW; (try dsimp only at hW); go_simp; (try (with_reducible rfl)); done)); (try simp only [Act.put, List.setIfInBounds_toArray, List.set_cons_zero, List.set_cons_succ])))
                refine LexL.call (f := 41) (args := #[.pointer (some ⟨bd, 0, none⟩)]) (w1 := wn.drew) (by rfl) (by decide) (by go_simp) ?_
                refine (depoch_sl bd c.d _ H6.out.drew.two).mono ?_
                rintro e w7 ⟨rfl, rfl⟩
                refine ⟨_, rfl, S6.out, ?_⟩
                dsimp only
                try simp only [Act.put, List.setIfInBounds_toArray, List.set_cons_zero, List.set_cons_succ]
                repeat (first | (refine LexL.none (by rfl) ?_; (try simp only [Act.put, List.setIfInBounds_toArray, List.set_cons_zero, List.set_cons_succ])) | (refine LexL.still (v := ?_) (by rfl) ?_ ?_; rotate_left; (focus (intro W hW; (try dsimp only at hW); go_simp; (try (with_reducible rfl)); done)); (try simp only [Act.put, List.setIfInBounds_toArray, List.set_cons_zero, List.set_cons_succ])))
                refine LexL.call (f := 40) (args := #[.pointer (some ⟨p, 0, none⟩)]) (w1 := wn.drew) (by rfl) (by decide) (by go_simp) ?_
                refine (nDown_sl p bd _ _ H6.out.drew).mono ?_
                rintro e w7 ⟨rfl, rfl⟩
                refine ⟨_, rfl, S6.out, ?_⟩
                dsimp only
                try simp only [Act.put, List.setIfInBounds_toArray, List.set_cons_zero, List.set_cons_succ]
                repeat (first | (refine LexL.none (by rfl) ?_; (try simp only [Act.put, List.setIfInBounds_toArray, List.set_cons_zero, List.set_cons_succ])) | (refine LexL.still (v := ?_) (by rfl) ?_ ?_; rotate_left; (focus (intro W hW; (try dsimp only at hW); go_simp; (try (with_reducible rfl)); done)); (try simp only [Act.put, List.setIfInBounds_toArray, List.set_cons_zero, List.set_cons_succ])))
                refine LexL.done ?_
                cases ndn with
                | true =>
                  go_wp2_with fail
                  go_roundw
                  case rel => exact ⟨k + 1, by omega, by go_num, hla, HHn.out.drew, HQn.out.drew⟩
                  case measure => simp [intOf]; omega
                | false =>
                  go_wp2_with fail
                  go_roundw
                  case rel => exact ⟨k + 1, by omega, by go_num, Lib.hid (.inr ⟨k, p, _, rfl, HP_.out, HN.out, rfl, rfl⟩), HHn.out.drew, HQn.out.drew⟩
                  case measure => simp [intOf]; omega
              · have hepb : (nep == c.d.ep) = false := by simpa using hep
                have hepb2 : decide (nep = c.d.ep) = false := by simpa using hep
                go_wp2_with fail
                refine wp_region_lex (fun W => W.cell? ⟨b, 0, none⟩ = some (.pointer (some ⟨bd, 0, none⟩)) ∧ W.cell? ⟨b, 2, none⟩ = some (.slice (some ⟨gn, on, none⟩) pn.length cn) ∧ W.cell? ⟨gn, on + k, none⟩ = some (.pointer (some ⟨p, 0, none⟩))) [7, 12] (by kernel_rfl) (by kernel_rfl) S6.out ?_
                repeat (first | (refine LexL.none (by rfl) ?_; (try simp only [Act.put, List.setIfInBounds_toArray, List.set_cons_zero, List.set_cons_succ])) | (refine LexL.still (v := ?_) (by rfl) ?_ ?_; rotate_left; (focus (intro W hW; (try dsimp only at hW); go_simp; (try (with_reducible rfl)); done)); (try simp only [Act.put, List.setIfInBounds_toArray, List.set_cons_zero, List.set_cons_succ])))
                refine LexL.call (f := 42) (args := #[.pointer (some ⟨p, 0, none⟩)]) (w1 := wn.drew) (by rfl) (by decide) (by go_simp) ?_
                refine (nEpoch_sl p bd _ _ H6.out.drew).mono ?_
                rintro e w7 ⟨rfl, rfl⟩
                refine ⟨_, rfl, S6.out, ?_⟩
                dsimp only
                try simp only [Act.put, List.setIfInBounds_toArray, List.set_cons_zero, List.set_cons_succ]
                repeat (first | (refine LexL.none (by rfl) ?_; (try simp only [Act.put, List.setIfInBounds_toArray, List.set_cons_zero, List.set_cons_succ])) | (refine LexL.still (v := ?_) (by rfl) ?_ ?_; rotate_left; (focus (intro W hW; (try dsimp only at hW); go_simp; (try (with_reducible rfl)); done)); (try simp only [Act.put, List.setIfInBounds_toArray, List.set_cons_zero, List.set_cons_succ])))
                refine LexL.call (f := 41) (args := #[.pointer (some ⟨bd, 0, none⟩)]) (w1 := wn.drew) (by rfl) (by decide) (by go_simp) ?_
                refine (depoch_sl bd c.d _ H6.out.drew.two).mono ?_
                rintro e w7 ⟨rfl, rfl⟩
                refine ⟨_, rfl, S6.out, ?_⟩
                dsimp only
                try simp only [Act.put, List.setIfInBounds_toArray, List.set_cons_zero, List.set_cons_succ]
                repeat (first | (refine LexL.none (by rfl) ?_; (try simp only [Act.put, List.setIfInBounds_toArray, List.set_cons_zero, List.set_cons_succ])) | (refine LexL.still (v := ?_) (by rfl) ?_ ?_; rotate_left; (focus (intro W hW; (try dsimp only at hW); go_simp; (try (with_reducible rfl)); done)); (try simp only [Act.put, List.setIfInBounds_toArray, List.set_cons_zero, List.set_cons_succ])))
                refine LexL.done ?_
                go_wp2_with fail
                go_roundw
                case rel => exact ⟨k + 1, by omega, by go_num, hla, HHn.out.drew, HQn.out.drew⟩
                case measure => simp [intOf]; omega
            · obtain rfl : k = pn.length := by omega
              clear hlt hk
              by_cases hfull : 100 ≤ c.d.ep
              · have HFU := Lib.hid hfull; clear hfull
                go_wp2_with fail
                refine (nOpen_full bd c.d _ HHn.out HOK.out.g1.dok (by have := HFU.out; omega)).mono ?_
                rintro e w8 ⟨rfl, q8, h8⟩
                go_wp2
                go_ret
                exact ⟨rfl, (h8.eq (by ac_rfl : _ = (dsk bd c.d * (cblk b bd bp (.slice an pn.length cn) vv * (nrow (.slice an pn.length cn) pn * (nls bd pn c.ns * (recs (.slice ar F0.length cr) F0 * RR))))) * old w)).toBelow (HQn.out.trans q8)⟩
              · have HFU := Lib.hid hfull
                obtain ⟨n1, hn1⟩ : ∃ n1 : Nod, n1 = ⟨behind (found c.d), c.d.ep + 1, false⟩ := ⟨_, rfl⟩
                obtain ⟨d1, hd1⟩ : ∃ d1, (opened c.d).1 = d1 := ⟨_, rfl⟩
                obtain ⟨hall, hlen, _⟩ := opened_all hfull
                have hdok := opened_ok HOK.out.g1.dok hfull
                rw [hd1, HF.out] at hall hlen
                rw [hd1] at hdok
                have hd15 : d1.b.length ≤ 1500 := hdok.b
                have hlF : F.length ≤ 200 := by omega
                have hnt : n1.t = behind F := by rw [hn1, ← HF.out]
                have hlz : ((d1.b.length : Int) != 9 * (F.length : Int)) = false := by simp; omega
                have hwm : IntKind.i64.wrap (9 * (F.length : Int)) = 9 * (F.length : Int) := by rw [IntKind.wrap_i64]; omega
                have N1 := Lib.hid hn1; have D1 := Lib.hid hd1; have HALL := Lib.hid hall; have DOK := Lib.hid hdok; have HT := Lib.hid hnt
                have HB5 := Lib.hid hd15
                clear hfull hn1 hd1 hall hlen hdok hnt hd15
                go_wp2_with fail
                refine (nOpen_sl bd c.d _ HHn.out HOK.out.g1.dok (by have := HFU.out; omega)).mono ?_
                rw [← N1.out, D1.out]
                rintro e w8 ⟨bn, rfl, q8, h8⟩
                have H8 := Lib.hid (show Holds w8 (nod bn bd n1 * (dsk bd d1 * (cblk b bd bp (.slice an pn.length cn) vv * (nrow (.slice an pn.length cn) pn * (nls bd pn c.ns * (recs (.slice ar F0.length cr) F0 * (RR * old w))))))) from h8)
                have Q8 := Lib.hid (HQn.out.trans q8)
                have cc8 := (show BlockAt w8 b 78 [.pointer (some ⟨bd, 0, none⟩), .pointer (some ⟨bp, 0, none⟩), .slice an pn.length cn, vv] from H8.out.three.bl).cells
                clear h8 q8 cc6
                go_wp2_with fail
                refine (bytes_sl bd d1 _ H8.out.two DOK.out).mono ?_
                rintro e w9 ⟨vb2, rfl, q9, h9⟩
                have H9 := Lib.hid (show Holds w9 (ownb vb2 d1.b * (dsk bd d1 * (nod bn bd n1 * (cblk b bd bp (.slice an pn.length cn) vv * (nrow (.slice an pn.length cn) pn * (nls bd pn c.ns * (recs (.slice ar F0.length cr) F0 * (RR * old w)))))))) from h9); have Q9 := Lib.hid (Q8.out.trans q9)
                clear h9 q9 cc8
                go_wp2_with fail
                refine (all_sl _ d1.b _ H9.out.ownb.bytes (by have := HB5.out; omega) H9.out).mono ?_
                rw [HALL.out]
                rintro e w10 ⟨vr2, rfl, q10, h10⟩
                obtain ⟨ar2, cr2, rfl, _, _⟩ := h10.row.shape
                have H10 := Lib.hid (show Holds w10 (recs (.slice ar2 F.length cr2) F * (ownb vb2 d1.b * (dsk bd d1 * (nod bn bd n1 * (cblk b bd bp (.slice an pn.length cn) vv * (nrow (.slice an pn.length cn) pn * (nls bd pn c.ns * (recs (.slice ar F0.length cr) F0 * (RR * old w))))))))) from h10); have Q10 := Lib.hid (Q9.out.trans q10)
                clear h10 q10
                have hrw := ROWF.out w10 _ (H10.out.eq (by ac_rfl : _ = recs (.slice ar F0.length cr) F0 * (recs (.slice ar2 F.length cr2) F * (ownb vb2 d1.b * (dsk bd d1 * (nod bn bd n1 * (cblk b bd bp (.slice an pn.length cn) vv * (nrow (.slice an pn.length cn) pn * (nls bd pn c.ns * (RR * old w)))))))))) 
                have HRW := Lib.hid hrw; clear hrw
                go_wp2_with fail
                refine (same_recs _ _ F _ H10.out.row HRW.out (by omega)).mono ?_
                rintro e w11 ⟨rfl, n11, rfl⟩
                obtain ⟨w11, hw11⟩ : ∃ w11, w10.drewN n11 = w11 := ⟨_, rfl⟩
                have H11 := Lib.hid ((H10.out.drewN n11).eq (by ac_rfl : _ = dsk bd d1 * (cblk b bd bp (.slice an pn.length cn) vv * (recs (.slice ar2 F.length cr2) F * (ownb vb2 d1.b * (nod bn bd n1 * (nrow (.slice an pn.length cn) pn * (nls bd pn c.ns * (recs (.slice ar F0.length cr) F0 * (RR * old w))))))))))
                have Q11 := Lib.hid (Q10.out.drewN n11)
                rw [hw11] at H11 Q11 ⊢
                have cc11 := (show BlockAt w11 b 78 [.pointer (some ⟨bd, 0, none⟩), .pointer (some ⟨bp, 0, none⟩), .slice an pn.length cn, vv] from H11.out.two.bl).cells
                clear hw11
                go_wp2_with fail
                refine (bytes_sl bd d1 _ H11.out DOK.out).mono ?_
                rintro e w12 ⟨vb3, rfl, q12, h12⟩
                obtain ⟨ab3, cb3, rfl, _, _⟩ := h12.ownb.bytes.shape
                have H12 := Lib.hid ((show Holds w12 (ownb (.slice ab3 d1.b.length cb3) d1.b * (dsk bd d1 * (cblk b bd bp (.slice an pn.length cn) vv * (recs (.slice ar2 F.length cr2) F * (ownb vb2 d1.b * (nod bn bd n1 * (nrow (.slice an pn.length cn) pn * (nls bd pn c.ns * (recs (.slice ar F0.length cr) F0 * (RR * old w)))))))))) from h12).eq (by ac_rfl : _ = recs (.slice ar F0.length cr) F0 * (ownb (.slice ab3 d1.b.length cb3) d1.b * (dsk bd d1 * (cblk b bd bp (.slice an pn.length cn) vv * (recs (.slice ar2 F.length cr2) F * (ownb vb2 d1.b * (nod bn bd n1 * (nrow (.slice an pn.length cn) pn * (nls bd pn c.ns * (RR * old w)))))))))))
                have Q12 := Lib.hid (Q11.out.trans q12)
                clear h12 q12 cc11
                go_wp2_with fail
                refine (behind_sl _ F _ (ROWF.out w12 _ H12.out) (by omega) H12.out).mono ?_
                rintro e w13 ⟨bb, rfl, q13, h13⟩
                have Q13 := Lib.hid (Q12.out.trans q13)
                have h13' := (show Holds w13 (tb bb 41 (behind F) * (recs (.slice ar F0.length cr) F0 * (ownb (.slice ab3 d1.b.length cb3) d1.b * (dsk bd d1 * (cblk b bd bp (.slice an pn.length cn) vv * (recs (.slice ar2 F.length cr2) F * (ownb vb2 d1.b * (nod bn bd n1 * (nrow (.slice an pn.length cn) pn * (nls bd pn c.ns * (RR * old w))))))))))) from h13)
                obtain ⟨RZ, hRZ⟩ : ∃ RZ, recs (.slice ar F0.length cr) F0 * (ownb (.slice ab3 d1.b.length cb3) d1.b * (dsk bd d1 * (cblk b bd bp (.slice an pn.length cn) vv * (recs (.slice ar2 F.length cr2) F * (ownb vb2 d1.b * (nrow (.slice an pn.length cn) pn * RR)))))) = RZ := ⟨_, rfl⟩
                obtain ⟨bt, h14⟩ := nod_open (h13'.eq (by rw [← hRZ]; ac_rfl : _ = nod bn bd n1 * (tb bb 41 (behind F) * (nls bd pn c.ns * (RZ * old w)))))
                rw [HT.out] at h14
                have H14 := Lib.hid h14
                clear h13 q13 h13' hRZ h14 H12 H11 H10 H9 H8 HRW HT
                go_wp2_with fail
                rcases hla.out with rfl | ⟨K, p, n, rfl, hp, hn, hne, hnd⟩
                · go_loopw [13] (fun i wr => ∃ q : Nat, q ≤ 6 ∧ i = .int .i64 q ∧ Holds wr (nblk bn bt bd n1 * (tab bt (behind F) * (tb bb 41 (behind F) * (nls bd pn c.ns * (RZ * old w))))) ∧ Quiet w wr) (fun i _ => 6 - (intOf i).toNat)
                  case atStart => exact ⟨0, by omega, rfl, H14.out, Q13.out⟩
                  case round =>
                    obtain ⟨q, hq, rfl, hh, hqu⟩ := hrel
                    obtain ⟨wq, rfl⟩ : ∃ wq : World, wq = wr := ⟨_, rfl⟩
                    have HHm := Lib.hid hh; have HQm := Lib.hid hqu; clear hh hqu
                    have MK := Lib.hid (fun (W : World) (hW : Holds W (nblk bn bt bd n1 * (tab bt (behind F) * (tb bb 41 (behind F) * (nls bd pn c.ns * (RZ * old w)))))) => (show W.cell? ⟨bn, 0, none⟩ = some (.pointer (some ⟨bt, 0, none⟩)) from (show BlockAt W bn 87 (ncells bt bd n1) from hW.bl).cell 0 _ rfl))
                    by_cases hlt2 : q < 6
                    · obtain ⟨⟨s1, s2, s3, s4⟩, hJ⟩ : ∃ J, (behind F).job q = J := ⟨_, rfl⟩
                      have HJ := Lib.hid hJ
                      have hlt2' : (q : Int) < 6 := by omega
                      clear hJ
                      have S28 := MK.out _ HHm.out
                      go_wp2_with fail
                      refine wp_region_lex (fun W => W.cell? ⟨bn, 0, none⟩ = some (.pointer (some ⟨bt, 0, none⟩))) [5, 8] (by kernel_rfl) (by kernel_rfl) S28 ?_
                      clear S28
                      have HA := Lib.hid HHm.out.drew; have QA := Lib.hid HQm.out.drew
                      repeat (first | (refine LexL.none (by rfl) ?_; (try simp only [Act.put, List.setIfInBounds_toArray, List.set_cons_zero, List.set_cons_succ])) | (refine LexL.still (v := ?_) (by rfl) ?_ ?_; rotate_left; (focus (intro W hW; (try dsimp only at hW); go_simp; (try (with_reducible rfl)); done)); (try simp only [Act.put, List.setIfInBounds_toArray, List.set_cons_zero, List.set_cons_succ])))
                      refine LexL.call (f := 18) (args := #[.pointer (some ⟨bt, 0, none⟩), .int .i64 q]) (w1 := wq.drew) (by rfl) (by decide) (by go_simp) ?_
                      refine (job_sl bt (behind F) q _ HA.out.two).mono ?_
                      rw [HJ.out]
                      simp only [Job.val, jcells]
                      rintro e w20 ⟨rfl, hb_⟩
                      have HB_ := Lib.hid (HA.out.below hb_); have QB_ := Lib.hid (QA.out.trans (Quiet.below hb_)); clear hb_ HA QA
                      have HA := HB_; have QA := QB_; clear HB_ QB_
                      refine ⟨_, rfl, MK.out _ HA.out, ?_⟩
                      try simp only [Act.put, List.setIfInBounds_toArray, List.set_cons_zero, List.set_cons_succ]
                      repeat (first | (refine LexL.none (by rfl) ?_; (try simp only [Act.put, List.setIfInBounds_toArray, List.set_cons_zero, List.set_cons_succ])) | (refine LexL.still (v := ?_) (by rfl) ?_ ?_; rotate_left; (focus (intro W hW; (try dsimp only at hW); go_simp; (try (with_reducible rfl)); done)); (try simp only [Act.put, List.setIfInBounds_toArray, List.set_cons_zero, List.set_cons_succ])))
                      refine LexL.call (f := 45) (args := #[.pointer (some ⟨bb, 0, none⟩), .int .i64 q]) (w1 := w20) (by rfl) (by decide) (by go_simp) ?_
                      refine (bjob_sl bb (behind F) q _ HA.out.three).mono ?_
                      rw [HJ.out]
                      simp only [Job.val, jcells]
                      rintro e w21 ⟨rfl, hb_⟩
                      have HB_ := Lib.hid (HA.out.below hb_); have QB_ := Lib.hid (QA.out.trans (Quiet.below hb_)); clear hb_ HA QA
                      have HA := HB_; have QA := QB_; clear HB_ QB_
                      refine ⟨_, rfl, MK.out _ HA.out, ?_⟩
                      try simp only [Act.put, List.setIfInBounds_toArray, List.set_cons_zero, List.set_cons_succ]
                      repeat (first | (refine LexL.none (by rfl) ?_; (try simp only [Act.put, List.setIfInBounds_toArray, List.set_cons_zero, List.set_cons_succ])) | (refine LexL.still (v := ?_) (by rfl) ?_ ?_; rotate_left; (focus (intro W hW; (try dsimp only at hW); go_simp; (try (with_reducible rfl)); done)); (try simp only [Act.put, List.setIfInBounds_toArray, List.set_cons_zero, List.set_cons_succ])))
                      refine LexL.done ?_
                      go_wp2_with fail
                      go_roundw
                      case rel => exact ⟨q + 1, by omega, by go_num, HA.out, QA.out⟩
                      case measure => simp [intOf]; omega
                    · obtain rfl : q = 6 := by omega
                      have S30 := (show wq.cell? ⟨bn, 0, none⟩ = some (.pointer (some ⟨bt, 0, none⟩)) ∧ wq.cell? ⟨bb, 24, none⟩ = some (.int .i64 (behind F).now) from ⟨MK.out _ HHm.out, HHm.out.three.tb.cell 24 _ rfl⟩)
                      go_wp2_with fail
                      refine wp_region_lex (fun W => W.cell? ⟨bn, 0, none⟩ = some (.pointer (some ⟨bt, 0, none⟩)) ∧ W.cell? ⟨bb, 24, none⟩ = some (.int .i64 (behind F).now)) [4] (by kernel_rfl) (by kernel_rfl) S30 ?_
                      have HA := Lib.hid HHm.out.drew
                      repeat (first | (refine LexL.none (by rfl) ?_; (try simp only [Act.put, List.setIfInBounds_toArray, List.set_cons_zero, List.set_cons_succ])) | (refine LexL.still (v := ?_) (by rfl) ?_ ?_; rotate_left; (focus (intro W hW; (try dsimp only at hW); go_simp; (try (with_reducible rfl)); done)); (try simp only [Act.put, List.setIfInBounds_toArray, List.set_cons_zero, List.set_cons_succ])))
                      refine LexL.call (f := 17) (args := #[.pointer (some ⟨bt, 0, none⟩)]) (w1 := wq.drew) (by rfl) (by decide) (by go_simp) ?_
                      refine (now_sl bt (behind F) _ HA.out.two).mono ?_
                      rintro e w30 ⟨rfl, rfl⟩
                      refine ⟨_, rfl, S30, ?_⟩
                      try simp only [Act.put, List.setIfInBounds_toArray, List.set_cons_zero, List.set_cons_succ]
                      repeat (first | (refine LexL.none (by rfl) ?_; (try simp only [Act.put, List.setIfInBounds_toArray, List.set_cons_zero, List.set_cons_succ])) | (refine LexL.still (v := ?_) (by rfl) ?_ ?_; rotate_left; (focus (intro W hW; (try dsimp only at hW); go_simp; (try (with_reducible rfl)); done)); (try simp only [Act.put, List.setIfInBounds_toArray, List.set_cons_zero, List.set_cons_succ])))
                      refine LexL.done ?_
                      go_wp2
                      go_ret
                      exact ⟨rfl, (HA.out.eq (by ac_rfl : _ = (nblk bn bt bd n1 * (tab bt (behind F) * (tb bb 41 (behind F) * (nls bd pn c.ns * RZ)))) * old w)).toBelow HQm.out.drew⟩
                · obtain ⟨RN, hRN, _⟩ := lst_pick (fun p n => nod p bd n) pn c.ns K p n hp hn
                  have hag := again_law HOK.out.g1 hn hne hnd
                  rw [HF.out] at hag
                  obtain ⟨bt2, h15⟩ := nod_open (H14.out.eq (by unfold nls; rw [hRN]; ac_rfl : _ = nod p bd n * (nblk bn bt bd n1 * (tab bt (behind F) * (tb bb 41 (behind F) * (RN * (RZ * old w)))))))
                  rw [hag] at h15
                  have H15 := Lib.hid (h15.eq (by ac_rfl : _ = (nblk bn bt bd n1 * (tab bt (behind F) * (tb bb 41 (behind F) * (nblk p bt2 bd n * (tab bt2 (behind F) * (RN * (RZ * old w)))))))))
                  clear hRN hag h15 hp hn hne hnd H14
                  go_loopw [13] (fun i wr => ∃ q : Nat, q ≤ 6 ∧ i = .int .i64 q ∧ Holds wr (nblk bn bt bd n1 * (tab bt (behind F) * (tb bb 41 (behind F) * (nblk p bt2 bd n * (tab bt2 (behind F) * (RN * (RZ * old w))))))) ∧ Quiet w wr) (fun i _ => 6 - (intOf i).toNat)
                  case atStart => exact ⟨0, by omega, rfl, H15.out, Q13.out⟩
                  case round =>
                    obtain ⟨q, hq, rfl, hh, hqu⟩ := hrel
                    obtain ⟨wq, rfl⟩ : ∃ wq : World, wq = wr := ⟨_, rfl⟩
                    have HHm := Lib.hid hh; have HQm := Lib.hid hqu; clear hh hqu
                    have MK := Lib.hid (fun (W : World) (hW : Holds W (nblk bn bt bd n1 * (tab bt (behind F) * (tb bb 41 (behind F) * (nblk p bt2 bd n * (tab bt2 (behind F) * (RN * (RZ * old w)))))))) => (show W.cell? ⟨bn, 0, none⟩ = some (.pointer (some ⟨bt, 0, none⟩)) ∧ W.cell? ⟨p, 0, none⟩ = some (.pointer (some ⟨bt2, 0, none⟩)) from ⟨(show BlockAt W bn 87 (ncells bt bd n1) from hW.bl).cell 0 _ rfl, (show BlockAt W p 87 (ncells bt2 bd n) from hW.four.bl).cell 0 _ rfl⟩))
                    by_cases hlt2 : q < 6
                    · obtain ⟨⟨s1, s2, s3, s4⟩, hJ⟩ : ∃ J, (behind F).job q = J := ⟨_, rfl⟩
                      have HJ := Lib.hid hJ
                      have hlt2' : (q : Int) < 6 := by omega
                      clear hJ
                      have S28 := MK.out _ HHm.out
                      go_wp2_with fail
                      refine wp_region_lex (fun W => W.cell? ⟨bn, 0, none⟩ = some (.pointer (some ⟨bt, 0, none⟩)) ∧ W.cell? ⟨p, 0, none⟩ = some (.pointer (some ⟨bt2, 0, none⟩))) [5, 8, 10, 13, 19, 25] (by kernel_rfl) (by kernel_rfl) S28 ?_
                      clear S28
                      have HA := Lib.hid HHm.out.drew; have QA := Lib.hid HQm.out.drew
                      repeat (first | (refine LexL.none (by rfl) ?_; (try simp only [Act.put, List.setIfInBounds_toArray, List.set_cons_zero, List.set_cons_succ])) | (refine LexL.still (v := ?_) (by rfl) ?_ ?_; rotate_left; (focus (intro W hW; (try dsimp only at hW); go_simp; (try (with_reducible rfl)); done)); (try simp only [Act.put, List.setIfInBounds_toArray, List.set_cons_zero, List.set_cons_succ])))
                      refine LexL.call (f := 18) (args := #[.pointer (some ⟨bt, 0, none⟩), .int .i64 q]) (w1 := wq.drew) (by rfl) (by decide) (by go_simp) ?_
                      refine (job_sl bt (behind F) q _ HA.out.two).mono ?_
                      rw [HJ.out]
                      simp only [Job.val, jcells]
                      rintro e w20 ⟨rfl, hb_⟩
                      have HB_ := Lib.hid (HA.out.below hb_); have QB_ := Lib.hid (QA.out.trans (Quiet.below hb_)); clear hb_ HA QA
                      have HA := HB_; have QA := QB_; clear HB_ QB_
                      refine ⟨_, rfl, MK.out _ HA.out, ?_⟩
                      try simp only [Act.put, List.setIfInBounds_toArray, List.set_cons_zero, List.set_cons_succ]
                      repeat (first | (refine LexL.none (by rfl) ?_; (try simp only [Act.put, List.setIfInBounds_toArray, List.set_cons_zero, List.set_cons_succ])) | (refine LexL.still (v := ?_) (by rfl) ?_ ?_; rotate_left; (focus (intro W hW; (try dsimp only at hW); go_simp; (try (with_reducible rfl)); done)); (try simp only [Act.put, List.setIfInBounds_toArray, List.set_cons_zero, List.set_cons_succ])))
                      refine LexL.call (f := 45) (args := #[.pointer (some ⟨bb, 0, none⟩), .int .i64 q]) (w1 := w20) (by rfl) (by decide) (by go_simp) ?_
                      refine (bjob_sl bb (behind F) q _ HA.out.three).mono ?_
                      rw [HJ.out]
                      simp only [Job.val, jcells]
                      rintro e w21 ⟨rfl, hb_⟩
                      have HB_ := Lib.hid (HA.out.below hb_); have QB_ := Lib.hid (QA.out.trans (Quiet.below hb_)); clear hb_ HA QA
                      have HA := HB_; have QA := QB_; clear HB_ QB_
                      refine ⟨_, rfl, MK.out _ HA.out, ?_⟩
                      try simp only [Act.put, List.setIfInBounds_toArray, List.set_cons_zero, List.set_cons_succ]
                      repeat (first | (refine LexL.none (by rfl) ?_; (try simp only [Act.put, List.setIfInBounds_toArray, List.set_cons_zero, List.set_cons_succ])) | (refine LexL.still (v := ?_) (by rfl) ?_ ?_; rotate_left; (focus (intro W hW; (try dsimp only at hW); go_simp; (try (with_reducible rfl)); done)); (try simp only [Act.put, List.setIfInBounds_toArray, List.set_cons_zero, List.set_cons_succ])))
                      refine LexL.call (f := 18) (args := #[.pointer (some ⟨bt2, 0, none⟩), .int .i64 q]) (w1 := w21) (by rfl) (by decide) (by go_simp) ?_
                      refine (job_sl bt2 (behind F) q _ (HA.out.eq (by ac_rfl : _ = tab bt2 (behind F) * (nblk bn bt bd n1 * (tab bt (behind F) * (tb bb 41 (behind F) * (nblk p bt2 bd n * (RN * (RZ * old w))))))))).mono ?_
                      rw [HJ.out]
                      simp only [Job.val, jcells]
                      rintro e w22 ⟨rfl, hb_⟩
                      have HB_ := Lib.hid (HA.out.below hb_); have QB_ := Lib.hid (QA.out.trans (Quiet.below hb_)); clear hb_ HA QA
                      have HA := HB_; have QA := QB_; clear HB_ QB_
                      refine ⟨_, rfl, MK.out _ HA.out, ?_⟩
                      try simp only [Act.put, List.setIfInBounds_toArray, List.set_cons_zero, List.set_cons_succ]
                      repeat (first | (refine LexL.none (by rfl) ?_; (try simp only [Act.put, List.setIfInBounds_toArray, List.set_cons_zero, List.set_cons_succ])) | (refine LexL.still (v := ?_) (by rfl) ?_ ?_; rotate_left; (focus (intro W hW; (try dsimp only at hW); go_simp; (try (with_reducible rfl)); done)); (try simp only [Act.put, List.setIfInBounds_toArray, List.set_cons_zero, List.set_cons_succ])))
                      refine LexL.call (f := 18) (args := #[.pointer (some ⟨bt, 0, none⟩), .int .i64 q]) (w1 := w22) (by rfl) (by decide) (by go_simp) ?_
                      refine (job_sl bt (behind F) q _ HA.out.two).mono ?_
                      rw [HJ.out]
                      simp only [Job.val, jcells]
                      rintro e w23 ⟨rfl, hb_⟩
                      have HB_ := Lib.hid (HA.out.below hb_); have QB_ := Lib.hid (QA.out.trans (Quiet.below hb_)); clear hb_ HA QA
                      have HA := HB_; have QA := QB_; clear HB_ QB_
                      refine ⟨_, rfl, MK.out _ HA.out, ?_⟩
                      try simp only [Act.put, List.setIfInBounds_toArray, List.set_cons_zero, List.set_cons_succ]
                      repeat (first | (refine LexL.none (by rfl) ?_; (try simp only [Act.put, List.setIfInBounds_toArray, List.set_cons_zero, List.set_cons_succ])) | (refine LexL.still (v := ?_) (by rfl) ?_ ?_; rotate_left; (focus (intro W hW; (try dsimp only at hW); go_simp; (try (with_reducible rfl)); done)); (try simp only [Act.put, List.setIfInBounds_toArray, List.set_cons_zero, List.set_cons_succ])))
                      refine LexL.done ?_
                      go_wp2_with fail
                      go_roundw
                      case rel => exact ⟨q + 1, by omega, by go_num, HA.out, QA.out⟩
                      case measure => simp [intOf]; omega
                    · obtain rfl : q = 6 := by omega
                      have S30 := (show wq.cell? ⟨bn, 0, none⟩ = some (.pointer (some ⟨bt, 0, none⟩)) ∧ wq.cell? ⟨p, 0, none⟩ = some (.pointer (some ⟨bt2, 0, none⟩)) ∧ wq.cell? ⟨bb, 24, none⟩ = some (.int .i64 (behind F).now) from ⟨(MK.out _ HHm.out).1, (MK.out _ HHm.out).2, HHm.out.three.tb.cell 24 _ rfl⟩)
                      go_wp2_with fail
                      refine wp_region_lex (fun W => W.cell? ⟨bn, 0, none⟩ = some (.pointer (some ⟨bt, 0, none⟩)) ∧ W.cell? ⟨p, 0, none⟩ = some (.pointer (some ⟨bt2, 0, none⟩)) ∧ W.cell? ⟨bb, 24, none⟩ = some (.int .i64 (behind F).now)) [4, 10, 13, 18, 23] (by kernel_rfl) (by kernel_rfl) S30 ?_
                      have HA := Lib.hid HHm.out.drew
                      repeat (first | (refine LexL.none (by rfl) ?_; (try simp only [Act.put, List.setIfInBounds_toArray, List.set_cons_zero, List.set_cons_succ])) | (refine LexL.still (v := ?_) (by rfl) ?_ ?_; rotate_left; (focus (intro W hW; (try dsimp only at hW); go_simp; (try (with_reducible rfl)); done)); (try simp only [Act.put, List.setIfInBounds_toArray, List.set_cons_zero, List.set_cons_succ])))
                      refine LexL.call (f := 17) (args := #[.pointer (some ⟨bt, 0, none⟩)]) (w1 := wq.drew) (by rfl) (by decide) (by go_simp) ?_
                      refine (now_sl bt (behind F) _ HA.out.two).mono ?_
                      rintro e w30 ⟨rfl, rfl⟩
                      refine ⟨_, rfl, S30, ?_⟩
                      try simp only [Act.put, List.setIfInBounds_toArray, List.set_cons_zero, List.set_cons_succ]
                      repeat (first | (refine LexL.none (by rfl) ?_; (try simp only [Act.put, List.setIfInBounds_toArray, List.set_cons_zero, List.set_cons_succ])) | (refine LexL.still (v := ?_) (by rfl) ?_ ?_; rotate_left; (focus (intro W hW; (try dsimp only at hW); go_simp; (try (with_reducible rfl)); done)); (try simp only [Act.put, List.setIfInBounds_toArray, List.set_cons_zero, List.set_cons_succ])))
                      refine LexL.call (f := 17) (args := #[.pointer (some ⟨bt2, 0, none⟩)]) (w1 := wq.drew) (by rfl) (by decide) (by go_simp) ?_
                      refine (now_sl bt2 (behind F) _ (HA.out.eq (by ac_rfl : _ = tab bt2 (behind F) * (nblk bn bt bd n1 * (tab bt (behind F) * (tb bb 41 (behind F) * (nblk p bt2 bd n * (RN * (RZ * old w))))))))).mono ?_
                      rintro e w30 ⟨rfl, rfl⟩
                      refine ⟨_, rfl, S30, ?_⟩
                      try simp only [Act.put, List.setIfInBounds_toArray, List.set_cons_zero, List.set_cons_succ]
                      repeat (first | (refine LexL.none (by rfl) ?_; (try simp only [Act.put, List.setIfInBounds_toArray, List.set_cons_zero, List.set_cons_succ])) | (refine LexL.still (v := ?_) (by rfl) ?_ ?_; rotate_left; (focus (intro W hW; (try dsimp only at hW); go_simp; (try (with_reducible rfl)); done)); (try simp only [Act.put, List.setIfInBounds_toArray, List.set_cons_zero, List.set_cons_succ])))
                      refine LexL.call (f := 17) (args := #[.pointer (some ⟨bt, 0, none⟩)]) (w1 := wq.drew) (by rfl) (by decide) (by go_simp) ?_
                      refine (now_sl bt (behind F) _ HA.out.two).mono ?_
                      rintro e w30 ⟨rfl, rfl⟩
                      refine ⟨_, rfl, S30, ?_⟩
                      try simp only [Act.put, List.setIfInBounds_toArray, List.set_cons_zero, List.set_cons_succ]
                      repeat (first | (refine LexL.none (by rfl) ?_; (try simp only [Act.put, List.setIfInBounds_toArray, List.set_cons_zero, List.set_cons_succ])) | (refine LexL.still (v := ?_) (by rfl) ?_ ?_; rotate_left; (focus (intro W hW; (try dsimp only at hW); go_simp; (try (with_reducible rfl)); done)); (try simp only [Act.put, List.setIfInBounds_toArray, List.set_cons_zero, List.set_cons_succ])))
                      refine LexL.done ?_
                      go_wp2
                      go_ret
                      exact ⟨rfl, (HA.out.eq (by ac_rfl : _ = (nblk bn bt bd n1 * (tab bt (behind F) * (tb bb 41 (behind F) * (nblk p bt2 bd n * (tab bt2 (behind F) * (RN * RZ)))))) * old w)).toBelow HQm.out.drew⟩
end Go.Proofs.Ytfihmpkkpgmdhab
