/-
  StoryTells, walked: the story tells what was done.
-/
import Derived.Test.YtfihmpkkpgmdhacStoryE
import Derived.Test.YtfihmpkkpgmdhacStoryF
import Derived.Test.YtfihmpkkpgmdhacGuildV
namespace Go.Proofs.Ytfihmpkkpgmdhac
set_option linter.unusedSimpArgs false
set_option linter.unusedVariables false
open Go.RowKit
theorem hold_cell {W : World} {g off n c i : Nat} {l : List (Int × Int)} {R : HP} (h : Holds W (hold (.slice (some ⟨g, off, none⟩) n c) l * R)) {p : Int × Int} (hi : l[i]? = some p) : W.cell? ⟨g, off + i * 2 + 1, none⟩ = some (.int .i64 p.2) := by
  have hn : l.length ≠ 0 := by intro e; have := (List.getElem?_eq_some_iff.1 hi).1; omega
  obtain ⟨g', off', c', e, _, _, hc⟩ := h.row.get hn
  simp only [Value.slice.injEq, Option.some.injEq, Addr.mk.injEq, and_true] at e
  obtain ⟨⟨rfl, rfl⟩, _, rfl⟩ := e
  rw [Nat.add_assoc]
  exact hc _ _ (hvs_get l i p hi).2
set_option maxRecDepth 100000 in
set_option maxHeartbeats 8000000 in
theorem storyTells_any (v : Value) (L : List Stp) (w : World) (hv : (∀ r ∈ L, ∀ n ∈ r.ints, I64' n) ∧ RowAt w v L.length (svs L)) :
    Calls Try.prog 8 #[v] w fun e w' => e = .returned (.bool true) ∧ Below w.heap.size w w' := by
  have hfld2 : ∀ (a b c d : Value) (W : World), (Instr.field 37 (.agg #[a, b, c, d]) 2).run Try.prog W = .ok c W := fun a b c d W => by kernel_rfl
  obtain ⟨a, cc, rfl, c1, c2⟩ := hv.2.shape
  have HV := Lib.hid hv.2; clear hv
  go_enter Try.func8, Try.ntmps8
  go_wp2_with fail
  refine (storyBegun_any _).mono ?_
  rintro e w1 ⟨rfl, hb1⟩
  have H1 := Lib.hid ((Holds.old (w := w)).below hb1)
  have Q1 := Lib.hid (Quiet.below hb1); clear hb1
  by_cases hlen : 300 < L.length
  · go_wp2
    go_ret
    exact ⟨rfl, H1.out.toBelow' Q1.out⟩
  · go_wp2_with fail
    refine (gNew_sl _ H1.out).mono ?_
    rintro e w2 ⟨b, rfl, q2, h2⟩
    have H2 := Lib.hid (show Holds w2 (gld b Gld.zero * old w) from h2)
    have Q2 := Lib.hid (Q1.out.trans q2); clear h2 q2
    go_wp2_with fail
    go_loopw [4] (fun i wr => ∃ (k : Nat) (g : Gld) (l : List Rec), k ≤ L.length ∧ i = .int .i64 k ∧ Holds wr (gld b g * old w) ∧ Quiet w wr ∧ g.Ok l) (fun i _ => L.length - (intOf i).toNat)
    case atStart => exact ⟨0, Gld.zero, [], by omega, rfl, H2.out, Q2.out, Gld.zero_ok⟩
    case round =>
      obtain ⟨k, g, l, hk, rfl, hh, hq, hok⟩ := hrel
      obtain ⟨wo, rfl⟩ : ∃ wo : World, wo = wr := ⟨_, rfl⟩
      have HH := Lib.hid hh; have HQ := Lib.hid hq; have HOK := Lib.hid hok; clear hh hq hok
      by_cases hlt : k < L.length
      · obtain ⟨o, ho⟩ : ∃ o, L[k]? = some o := ⟨_, List.getElem?_eq_getElem hlt⟩
        obtain ⟨ga, off, c', e, _, _, hc0⟩ := HV.out.get (by omega)
        simp only [Value.slice.injEq] at e
        obtain ⟨rfl, _, rfl⟩ := e
        obtain ⟨x0, x1, x2, x3, x4, x5, x6, x7, x8⟩ := stp_cells HV.out ho HH.out
        obtain ⟨kd, x, kp, ⟨kd2, nw, jb, tr, wk, tm⟩⟩ := o
        dsimp only at x0 x1 x2 x3 x4 x5 x6 x7 x8
        clear ho hc0
        go_wp2_with fail
        refine (gStep_sl b g kd x kp kd2 nw jb tr wk tm l _ HH.out HOK.out).mono ?_
        obtain ⟨l', hs⟩ := step_ok HOK.out ⟨kd, x, kp, ⟨kd2, nw, jb, tr, wk, tm⟩⟩
        obtain ⟨⟨g', A⟩, hX⟩ : ∃ X, g.step ⟨kd, x, kp, ⟨kd2, nw, jb, tr, wk, tm⟩⟩ = X := ⟨_, rfl⟩
        rw [hX] at hs ⊢
        have HOK' := Lib.hid hs.ok
        clear hs hX x0 x1 x2 x3 x4 x5 x6 x7 x8
        rintro e w3 ⟨rfl, q3, h3⟩
        have H3 := Lib.hid (show Holds w3 (gld b g' * old w) from h3); have Q3 := Lib.hid (HQ.out.trans q3)
        clear h3 q3
        go_wp2_with fail
        go_roundw
        case rel => exact ⟨k + 1, g', l', by omega, by go_num, H3.out, Q3.out, HOK'.out⟩
        case measure => simp [intOf]; omega
      · obtain rfl : k = L.length := by omega
        have hep := HOK.out.fam.ok.ep
        have hb15 : g.d.b.length ≤ 1500 := HOK.out.fam.ok.b
        have hll : 9 * l.length ≤ g.d.b.length := by have := allB_len g.d.b; rwa [HOK.out.wh.all] at this
        obtain ⟨bd, vs, h4⟩ := gld_open HH.out
        have cg0 := (show BlockAt wo b 49 (gcells bd vs g.now) from h4.bl).cell 0 _ rfl
        have H4 := Lib.hid h4; clear h4
        go_wp2_with fail
        refine (bytes_sl bd g.d _ H4.out.two HOK.out.fam.ok).mono ?_
        rintro e w5 ⟨vb, rfl, q5, h5⟩
        have H5 := Lib.hid h5; have Q5 := Lib.hid (HQ.out.trans q5); clear h5 q5 cg0
        go_wp2_with fail
        refine (of_sl _ g.d.b _ H5.out.ownb.bytes (by omega) H5.out).mono ?_
        rw [HOK.out.wh.all]
        rintro e w6 ⟨v6, rfl, q6, h6⟩
        obtain ⟨a6, c6, rfl, _, _⟩ := h6.row.shape
        have hel : (evs Tbl.zero l).length = l.length := evs_len _ _
        rw [hel] at h6 ⊢
        have HEL := Lib.hid hel; clear hel
        have Q6 := Lib.hid (Q5.out.trans q6)
        have H6 := Lib.hid (show Holds w6 (sevs (.slice a6 l.length c6) (evs Tbl.zero l) * (ownb vb g.d.b * (dsk bd g.d * (gblk b bd vs g.now * (nodes3 bd vs g.f * old w))))) from h6)
        clear h6 q6 H4 H5 HH Q5
        go_wp2_with fail
        go_loopw [6] (fun i wr => ∃ k : Nat, k ≤ l.length ∧ i = .int .i64 k ∧ wr = w6) (fun i _ => l.length - (intOf i).toNat)
        case atStart => exact ⟨0, by omega, rfl, rfl⟩
        case round =>
          obtain ⟨k, hk, rfl, rfl⟩ := hrel
          by_cases hlt : k < l.length
          · obtain ⟨r, hr⟩ : ∃ r, l[k]? = some r := ⟨_, List.getElem?_eq_getElem hlt⟩
            have hev := evs_get Tbl.zero l k r hr
            have hcd := done_get HOK.out.done hr
            obtain ⟨T, hT⟩ : ∃ T, runL Tbl.zero (l.take k) = T := ⟨_, rfl⟩
            rw [hT] at hev hcd
            obtain ⟨⟨⟨ep2, ⟨kd, nw, jb, tr, wk, tm⟩⟩, ⟨a0, a1, a2⟩, ⟨s1, s2, s3, s4⟩⟩, hE⟩ : ∃ E, evOf T r = E := ⟨_, rfl⟩
            have ha0 : (evOf T r).a.code = 0 := hcd
            rw [hE] at hev ha0
            dsimp only at ha0
            subst ha0
            obtain ⟨g6, o6, c6', e6'⟩ := sev_shape H6.out (i := k) (by rw [HEL.out]; exact hlt)
            simp only [Value.slice.injEq] at e6'
            obtain ⟨rfl, hx6, rfl⟩ := e6'
            clear hx6
            obtain ⟨z0, z1, z2, z3, z4, z5, z6, z7, z8, z9, z10, z11, z12, z13⟩ := sev_cells ep2 kd nw jb tr wk tm 0 a1 a2 s1 s2 s3 s4 H6.out hev
            clear hr hev hcd hT hE
            have hk3 : (k : Int) < (l.length : Int) := by omega
            go_wp2_with fail
            go_roundw
            case rel => exact ⟨k + 1, by omega, by go_num, by first | rfl | trivial⟩
            case measure => simp [intOf]; omega
          · obtain rfl : k = l.length := by omega
            have cg0 := (show BlockAt wr b 49 (gcells bd vs g.now) from H6.out.four.bl).cell 0 _ rfl
            go_wp2_with fail
            refine (bytes_sl bd g.d _ H6.out.three HOK.out.fam.ok).mono ?_
            rintro e w7 ⟨vc, rfl, q7, h7⟩
            have Q7 := Lib.hid (Q6.out.trans q7)
            have H7 := Lib.hid h7
            have hst := stable_sl vc g.d.b l.length w7 H7.out.ownb.bytes (by omega) (by rw [HOK.out.wh.all]; omega) H7.out
            rw [HOK.out.wh.all, List.take_length] at hst
            have HST := Lib.hid hst
            clear h7 q7 hst cg0
            go_wp2_with fail
            refine HST.out.mono ?_
            rintro e w8 ⟨bt, rfl, q8, h8⟩
            have Q8 := Lib.hid (Q7.out.trans q8)
            obtain ⟨RR, hRR⟩ : ∃ RR, ownb vc g.d.b * (ownb vb g.d.b * old w) = RR := ⟨_, rfl⟩
            have H8 := Lib.hid ((show Holds w8 (tab bt (behind l) * (ownb vc g.d.b * (dsk bd g.d * (sevs (.slice a6 l.length c6) (evs Tbl.zero l) * (ownb vb g.d.b * (gblk b bd vs g.now * (nodes3 bd vs g.f * old w))))))) from h8).eq (by rw [← hRR]; ac_rfl : _ = (tab bt (behind l) * (dsk bd g.d * (gblk b bd vs g.now * (sevs (.slice a6 l.length c6) (evs Tbl.zero l) * (nodes3 bd vs g.f * RR)))))))
            have HR := Lib.hid hRR
            clear h8 q8 H7 HST H6 hRR
            go_wp2_with fail
            go_loopw [8] (fun i wr => ∃ k : Nat, k ≤ 3 ∧ i = .int .i64 k ∧ Holds wr (tab bt (behind l) * (dsk bd g.d * (gblk b bd vs g.now * (sevs (.slice a6 l.length c6) (evs Tbl.zero l) * (nodes3 bd vs g.f * RR))))) ∧ Quiet w wr) (fun i _ => 3 - (intOf i).toNat)
            case atStart => exact ⟨0, by omega, rfl, H8.out, Q8.out⟩
            case round =>
              obtain ⟨k, hk, rfl, hh, hq⟩ := hrel
              obtain ⟨wn, rfl⟩ : ∃ wn : World, wn = wr := ⟨_, rfl⟩
              have HH := Lib.hid hh; have HQ := Lib.hid hq; clear hh hq
              by_cases hlt : k < 3
              · have hgn := gNode_sl b bd vs g.now k wn (HH.out.three)
                rw [show gAt vs k = vs k from by unfold gAt; rw [if_neg (by omega)]; rfl] at hgn
                have HGN := Lib.hid hgn; clear hgn
                have hlt' : (k : Int) < 3 := by omega
                go_wp2_with fail
                refine HGN.out.mono ?_
                rintro e w9 ⟨rfl, rfl⟩
                clear HGN
                cases hf : g.f k with
                | none =>
                  have hvk := pick_none (HH.out.eq (by ac_rfl : _ = tab bt (behind l) * ((dsk bd g.d * (gblk b bd vs g.now * sevs (.slice a6 l.length c6) (evs Tbl.zero l))) * (nodes3 bd vs g.f * RR)))) hlt hf
                  rw [hvk]
                  clear hvk
                  go_wp2_with fail
                  go_quiet (fail)
                  go_wp2_with fail
                  go_roundw
                  case rel => exact ⟨k + 1, by omega, by go_num, HH.out.drewN _, HQ.out.drewN _⟩
                  case measure => simp [intOf]; omega
                | some nd =>
                  obtain ⟨bn, hvk, hp⟩ := pick_some (HH.out.eq (by ac_rfl : _ = tab bt (behind l) * ((dsk bd g.d * (gblk b bd vs g.now * sevs (.slice a6 l.length c6) (evs Tbl.zero l))) * (nodes3 bd vs g.f * RR)))) hlt hf
                  rw [hvk]
                  have HF := Lib.hid hf; have HV := Lib.hid hvk
                  have HP' := Lib.hid hp
                  have cgd := (show BlockAt wn b 49 (gcells bd vs g.now) from HH.out.three.bl).cell 0 _ rfl
                  clear hf hvk hp
                  obtain ⟨nt, nep, ndn⟩ := nd
                  cases ndn with
                  | true =>
                    go_wp2_with fail
                    refine wp_region_lex (fun W => W.cell? ⟨b, 0, none⟩ = some (.pointer (some ⟨bd, 0, none⟩))) [4] (by kernel_rfl) (by kernel_rfl) cgd ?_
                    repeat (first | (refine LexL.none (by rfl) ?_; (try simp only [Act.put, List.setIfInBounds_toArray, List.set_cons_zero, List.set_cons_succ])) | (refine LexL.still (v := ?_) (by rfl) ?_ ?_; rotate_left; (focus (intro W hW; (try dsimp only at hW); go_simp; (try (with_reducible rfl)); done)); (try simp only [Act.put, List.setIfInBounds_toArray, List.set_cons_zero, List.set_cons_succ])))
                    refine LexL.call (f := 17) (args := #[.pointer (some ⟨bn, 0, none⟩)]) (w1 := wn.drew) (by rfl) (by decide) (by go_simp) ?_
                    refine (nDown_sl bn bd _ _ HP'.out.drew).mono ?_
                    rintro e w10 ⟨rfl, rfl⟩
                    refine ⟨_, rfl, cgd, ?_⟩
                    dsimp only
                    try simp only [Act.put, List.setIfInBounds_toArray, List.set_cons_zero, List.set_cons_succ]
                    repeat (first | (refine LexL.none (by rfl) ?_; (try simp only [Act.put, List.setIfInBounds_toArray, List.set_cons_zero, List.set_cons_succ])) | (refine LexL.still (v := ?_) (by rfl) ?_ ?_; rotate_left; (focus (intro W hW; (try dsimp only at hW); go_simp; (try (with_reducible rfl)); done)); (try simp only [Act.put, List.setIfInBounds_toArray, List.set_cons_zero, List.set_cons_succ])))
                    refine LexL.done ?_
                    go_wp2_with fail
                    go_roundw
                    case rel => exact ⟨k + 1, by omega, by go_num, HH.out.drew, HQ.out.drew⟩
                    case measure => simp [intOf]; omega
                  | false =>
                    go_wp2_with fail
                    refine wp_region_lex (fun W => W.cell? ⟨b, 0, none⟩ = some (.pointer (some ⟨bd, 0, none⟩))) [4, 6, 8, 13] (by kernel_rfl) (by kernel_rfl) cgd ?_
                    repeat (first | (refine LexL.none (by rfl) ?_; (try simp only [Act.put, List.setIfInBounds_toArray, List.set_cons_zero, List.set_cons_succ])) | (refine LexL.still (v := ?_) (by rfl) ?_ ?_; rotate_left; (focus (intro W hW; (try dsimp only at hW); go_simp; (try (with_reducible rfl)); done)); (try simp only [Act.put, List.setIfInBounds_toArray, List.set_cons_zero, List.set_cons_succ])))
                    refine LexL.call (f := 17) (args := #[.pointer (some ⟨bn, 0, none⟩)]) (w1 := wn.drew) (by rfl) (by decide) (by go_simp) ?_
                    refine (nDown_sl bn bd _ _ HP'.out.drew).mono ?_
                    rintro e w10 ⟨rfl, rfl⟩
                    refine ⟨_, rfl, cgd, ?_⟩
                    dsimp only
                    try simp only [Act.put, List.setIfInBounds_toArray, List.set_cons_zero, List.set_cons_succ]
                    repeat (first | (refine LexL.none (by rfl) ?_; (try simp only [Act.put, List.setIfInBounds_toArray, List.set_cons_zero, List.set_cons_succ])) | (refine LexL.still (v := ?_) (by rfl) ?_ ?_; rotate_left; (focus (intro W hW; (try dsimp only at hW); go_simp; (try (with_reducible rfl)); done)); (try simp only [Act.put, List.setIfInBounds_toArray, List.set_cons_zero, List.set_cons_succ])))
                    refine LexL.call (f := 25) (args := #[.pointer (some ⟨bn, 0, none⟩)]) (w1 := wn.drew) (by rfl) (by decide) (by go_simp) ?_
                    refine (nEpoch_sl bn bd _ _ HP'.out.drew).mono ?_
                    rintro e w10 ⟨rfl, rfl⟩
                    refine ⟨_, rfl, cgd, ?_⟩
                    dsimp only
                    try simp only [Act.put, List.setIfInBounds_toArray, List.set_cons_zero, List.set_cons_succ]
                    repeat (first | (refine LexL.none (by rfl) ?_; (try simp only [Act.put, List.setIfInBounds_toArray, List.set_cons_zero, List.set_cons_succ])) | (refine LexL.still (v := ?_) (by rfl) ?_ ?_; rotate_left; (focus (intro W hW; (try dsimp only at hW); go_simp; (try (with_reducible rfl)); done)); (try simp only [Act.put, List.setIfInBounds_toArray, List.set_cons_zero, List.set_cons_succ])))
                    refine LexL.call (f := 19) (args := #[.pointer (some ⟨bd, 0, none⟩)]) (w1 := wn.drew) (by rfl) (by decide) (by go_simp) ?_
                    refine (depoch_sl bd g.d _ HH.out.drew.two).mono ?_
                    rintro e w10 ⟨rfl, rfl⟩
                    refine ⟨_, rfl, cgd, ?_⟩
                    try simp only [Act.put, List.setIfInBounds_toArray, List.set_cons_zero, List.set_cons_succ]
                    repeat (first | (refine LexL.none (by rfl) ?_; (try simp only [Act.put, List.setIfInBounds_toArray, List.set_cons_zero, List.set_cons_succ])) | (refine LexL.still (v := ?_) (by rfl) ?_ ?_; rotate_left; (focus (intro W hW; (try dsimp only at hW); go_simp; (try (with_reducible rfl)); done)); (try simp only [Act.put, List.setIfInBounds_toArray, List.set_cons_zero, List.set_cons_succ])))
                    refine LexL.done ?_
                    by_cases hne : nep = g.d.ep
                    · have htell := serves_tells HOK.out HF.out hne rfl
                      dsimp only at htell
                      have HTL := Lib.hid htell
                      have hneb : (nep != g.d.ep) = false := by simpa using hne
                      clear hne htell
                      have H10 := Lib.hid HP'.out.drew
                      have Q10 := Lib.hid HQ.out.drew
                      obtain ⟨wd, hwd⟩ : ∃ wd, wn.drew = wd := ⟨_, rfl⟩
                      rw [hwd] at H10 Q10 ⊢
                      clear hwd cgd
                      obtain ⟨bt', H11⟩ : ∃ bt' : Nat, Hid (Holds wd (nblk bn bt' bd ⟨nt, nep, false⟩ * (tab bt' nt * (tab bt (behind l) * ((dsk bd g.d * (gblk b bd vs g.now * sevs (.slice a6 l.length c6) (evs Tbl.zero l))) * (nrest bd vs g.f k * RR)))))) := by
                        obtain ⟨bt', h⟩ := nod_open H10.out
                        exact ⟨bt', Lib.hid h⟩
                      go_wp2_with fail
                      try simp only [hneb]
                      go_loopw [10] (fun i wr => ∃ m : Nat, m ≤ 6 ∧ i = .int .i64 m ∧ Holds wr (nblk bn bt' bd ⟨nt, nep, false⟩ * (tab bt' nt * (tab bt (behind l) * ((dsk bd g.d * (gblk b bd vs g.now * sevs (.slice a6 l.length c6) (evs Tbl.zero l))) * (nrest bd vs g.f k * RR))))) ∧ Quiet w wr) (fun i _ => 6 - (intOf i).toNat)
                      case atStart => exact ⟨0, by omega, rfl, H11.out, Q10.out⟩
                      case round =>
                        obtain ⟨m, hm, rfl, hh, hq⟩ := hrel
                        have HHm := Lib.hid hh; have HQm := Lib.hid hq; clear hh hq
                        by_cases hlt2 : m < 6
                        · obtain ⟨⟨s1, s2, s3, s4⟩, hJ⟩ : ∃ J, (behind l).job m = J := ⟨_, rfl⟩
                          have HJ := Lib.hid hJ
                          have hJ2 : nt.job m = ⟨s1, s2, s3, s4⟩ := by rw [HTL.out]; exact hJ
                          have HJ2 := Lib.hid hJ2
                          have cn := (show BlockAt wr bn 61 (ncells bt' bd ⟨nt, nep, false⟩) from HHm.out.bl).cell 0 _ rfl
                          have hlt2' : (m : Int) < 6 := by omega
                          clear hJ hJ2
                          go_wp2_with fail
                          refine (job_sl bt' nt m _ HHm.out.two).mono ?_
                          rw [HJ2.out]
                          simp only [Job.val, jcells]
                          rintro e w12 ⟨rfl, hb12⟩
                          have H12 := Lib.hid (HHm.out.below hb12); have Q12 := Lib.hid (HQm.out.trans (Quiet.below hb12))
                          clear hb12 cn
                          go_wp2_with fail
                          refine (job_sl bt (behind l) m _ H12.out.three).mono ?_
                          rw [HJ.out]
                          simp only [Job.val, jcells]
                          rintro e w13 ⟨rfl, hb13⟩
                          have H13 := Lib.hid (H12.out.below hb13); have Q13 := Lib.hid (Q12.out.trans (Quiet.below hb13))
                          clear hb13
                          go_wp2_with fail
                          go_roundw
                          case rel => exact ⟨m + 1, by omega, by go_num, H13.out, Q13.out⟩
                          case measure => simp [intOf]; omega
                        · obtain rfl : m = 6 := by omega
                          go_wp2_with fail
                          go_roundw
                          case rel => exact ⟨k + 1, by omega, by go_num, ((((onod_mk (nod_close HHm.out)).eq (by rw [← HV.out, ← HF.out]) : Holds wr (onod (vs k) bd (g.f k) * (tab bt (behind l) * ((dsk bd g.d * (gblk b bd vs g.now * sevs (.slice a6 l.length c6) (evs Tbl.zero l))) * (nrest bd vs g.f k * RR)))))).eq (by rw [nodes3_pick bd vs g.f hlt]; ac_rfl)), HQm.out⟩
                          case measure => simp [intOf]; omega
                    · have hneb : (nep != g.d.ep) = true := by simpa using hne
                      clear hne
                      go_wp2_with fail
                      go_roundw
                      case rel => exact ⟨k + 1, by omega, by go_num, HH.out.drew, HQ.out.drew⟩
                      case measure => simp [intOf]; omega
              · have hK : (k : Int) = 3 := by omega
                rw [hK]
                clear hK hlt hk
                go_wp2_with fail
                go_loopw [11] (fun i wr => ∃ m : Nat, m ≤ 6 ∧ i = .int .i64 m ∧ ∃ RX, Holds wr (tab bt (behind l) * (sevs (.slice a6 l.length c6) (evs Tbl.zero l) * (RX * old w))) ∧ Quiet w wr) (fun i _ => 6 - (intOf i).toNat)
                case atStart => exact ⟨0, by omega, rfl, dsk bd g.d * (gblk b bd vs g.now * (nodes3 bd vs g.f * (ownb vc g.d.b * ownb vb g.d.b))), HH.out.eq (by rw [← HR.out]; ac_rfl), HQ.out⟩
                case round =>
                  obtain ⟨m, hm, rfl, RX, hh, hq⟩ := hrel
                  obtain ⟨wh, rfl⟩ : ∃ wh : World, wh = wr := ⟨_, rfl⟩
                  have HHm := Lib.hid hh; have HQm := Lib.hid hq; clear hh hq
                  by_cases hlt2 : m < 6
                  · have hlt2' : (m : Int) < 6 := by omega
                    obtain ⟨hz1, hz2⟩ := holders_zero l hlt2
                    have hhl := holders_sl (.slice a6 l.length c6) (evs Tbl.zero l) m wh (HHm.out.two.row) (by rw [HEL.out]; omega) HHm.out
                    obtain ⟨hs, hhs⟩ : ∃ hs, holders (evs Tbl.zero l) m = hs := ⟨_, rfl⟩
                    rw [hhs] at hz1 hz2 hhl
                    have hhlen : hs.length ≤ 200 := by
                      rw [← hhs]; unfold holders; rw [List.length_map]
                      have := List.length_filter_le (fun e : Ev => e.has m) (evs Tbl.zero l)
                      rw [HEL.out] at this; omega
                    have HHL := Lib.hid hhl; have HZ2 := Lib.hid hz2
                    obtain ⟨⟨s1, s2, s3, s4⟩, hJ⟩ : ∃ J, (behind l).jobs m = J := ⟨_, rfl⟩
                    rw [hJ] at hz1
                    dsimp only at hz1
                    have hJ2 : (behind l).job m = ⟨s1, s2, s3, s4⟩ := by unfold Tbl.job; rw [if_pos (by omega)]; exact hJ
                    have HJ := Lib.hid hJ2
                    clear hhl hz2 hhs hJ hJ2
                    go_wp2_with fail
                    refine HHL.out.mono ?_
                    rintro e w12 ⟨vh, rfl, q12, h12⟩
                    obtain ⟨ah, ch, rfl, _, _⟩ := h12.row.shape
                    have H12 := Lib.hid (show Holds w12 (hold (.slice ah hs.length ch) hs * (tab bt (behind l) * (sevs (.slice a6 l.length c6) (evs Tbl.zero l) * (RX * old w)))) from h12); have Q12 := Lib.hid (HQm.out.trans q12)
                    clear h12 q12 HHL
                    go_wp2_with fail
                    go_loopw [13] (fun i wr => ∃ q : Nat, q ≤ hs.length ∧ i = .int .i64 q ∧ wr = w12) (fun i _ => hs.length - (intOf i).toNat)
                    case atStart => exact ⟨0, by omega, rfl, rfl⟩
                    case round =>
                      obtain ⟨q, hq, rfl, rfl⟩ := hrel
                      by_cases hlt3 : q < hs.length
                      · obtain ⟨p, hp⟩ : ∃ p, hs[q]? = some p := ⟨_, List.getElem?_eq_getElem hlt3⟩
                        obtain ⟨gh, oh, ch', eh, _⟩ := H12.out.row.get (by omega)
                        simp only [Value.slice.injEq] at eh
                        obtain ⟨rfl, _, rfl⟩ := eh
                        have ce := hold_cell H12.out hp
                        rw [HZ2.out q p hp] at ce
                        have hlt3' : (q : Int) < (hs.length : Int) := by omega
                        have hwq : IntKind.i64.wrap ((q : Int) + 1) = (q : Int) + 1 := by rw [IntKind.wrap_i64]; omega
                        clear hp
                        go_wp2_with fail
                        go_roundw
                        case rel => exact ⟨q + 1, by omega, by go_num, by first | rfl | trivial⟩
                        case measure => simp [intOf]; omega
                      · obtain rfl : q = hs.length := by omega
                        go_wp2_with fail
                        refine (job_sl bt (behind l) m _ H12.out.two).mono ?_
                        rw [HJ.out]
                        simp only [Job.val, jcells]
                        rintro e w13 ⟨rfl, hb13⟩
                        have H13 := Lib.hid (H12.out.below hb13); have Q13 := Lib.hid (Q12.out.trans (Quiet.below hb13))
                        have hzb : ((hs.length : Int) != s3) = false := by simpa using hz1
                        clear hb13 hz1
                        go_wp2_with fail
                        go_roundw
                        case rel => exact ⟨m + 1, by omega, by go_num, hold (.slice ah hs.length ch) hs * RX, H13.out.eq (by ac_rfl), Q13.out⟩
                        case measure => simp [intOf]; omega
                  · obtain rfl : m = 6 := by omega
                    go_wp2
                    go_ret
                    exact ⟨rfl, ((HHm.out.eq (by ac_rfl : _ = (tab bt (behind l) * (sevs (.slice a6 l.length c6) (evs Tbl.zero l) * RX)) * old w)).toBelow HQm.out)⟩
end Go.Proofs.Ytfihmpkkpgmdhac
