/-
  GuildStops, walked: who is down is down.
-/
import Derived.Test.YtfihmpkkpgmdhacGuildV
import Derived.Test.YtfihmpkkpgmdhacBehind
import Derived.Test.YtfihmpkkpgmdhacUidx
import Derived.Test.YtfihmpkkpgmdhacPlain14
namespace Go.Proofs.Ytfihmpkkpgmdhac
set_option linter.unusedSimpArgs false
set_option linter.unusedVariables false
open Go.RowKit
set_option maxRecDepth 100000 in
set_option maxHeartbeats 8000000 in
theorem guildStops_any (v : Value) (n m : Int) (c nw j r k tm : Int) (L : List Stp) (w : World) (hv : (∀ r ∈ L, ∀ n ∈ r.ints, I64' n) ∧ RowAt w v L.length (svs L)) (hn : I64' n) (hm : I64' m) :
    Calls Try.prog 5 #[v, .int .i64 n, .int .i64 m, .agg #[.int .i64 c, .int .i64 nw, .int .i64 j, .int .i64 r, .int .i64 k, .int .i64 tm]] w fun e w' => e = .returned (.bool true) ∧ Below w.heap.size w w' := by
  have hfldA : ∀ (a b c : Value) (W : World), (Instr.field 32 (.agg #[a, b, c]) 0).run Try.prog W = .ok a W := fun a b c W => by kernel_rfl
  obtain ⟨a, cc, rfl, c1, c2⟩ := hv.2.shape
  have HV := Lib.hid hv.2; clear hv hn hm
  obtain ⟨N, hN, hN1⟩ := uidx n 3 (by omega) (by omega)
  obtain ⟨M, hM, hM1⟩ := uidx m 3 (by omega) (by omega)
  have hN2 : wrap64 ((IntKind.u64.wrap n).tmod 3) = (N : Int) := hN1
  have hM2 : wrap64 ((IntKind.u64.wrap m).tmod 3) = (M : Int) := hM1
  clear hN1 hM1
  obtain ⟨w0, hw0, H0, Q0⟩ : ∃ w0, w.alloc (.cells #[.int .i64 c, .int .i64 nw, .int .i64 j, .int .i64 r, .int .i64 k, .int .i64 tm] 28) = w0 ∧ Hid (Holds w0 (bl w.heap.size 28 [.int .i64 c, .int .i64 nw, .int .i64 j, .int .i64 r, .int .i64 k, .int .i64 tm] * old w)) ∧ Hid (Quiet w w0) :=
    ⟨_, rfl, Lib.hid ((Holds.old (w := w)).boxB (ty := 28) (cs := [.int .i64 c, .int .i64 nw, .int .i64 j, .int .i64 r, .int .i64 k, .int .i64 tm]) rfl), Lib.hid ((Quiet.refl w).alloc _)⟩
  obtain ⟨g0, hg0⟩ : ∃ g0, w.heap.size = g0 := ⟨_, rfl⟩
  rw [hg0] at H0
  go_enter Try.func5, Try.ntmps5
  go_wp2_with fail
  clear hw0 hg0
  refine (guildBegun_any _).mono ?_
  rintro e w1 ⟨rfl, hb1⟩
  have H1 := Lib.hid (H0.out.below hb1)
  have Q1 := Lib.hid (Q0.out.trans (Quiet.below hb1)); clear hb1 H0 Q0
  by_cases hlen : 300 < L.length
  · go_wp2
    go_ret
    exact ⟨rfl, H1.out.toBelow Q1.out⟩
  · go_wp2_with fail
    refine (gNew_sl _ H1.out).mono ?_
    rintro e w2 ⟨b, rfl, q2, h2⟩
    have H2 := Lib.hid (show Holds w2 (gld b Gld.zero * (bl g0 28 [.int .i64 c, .int .i64 nw, .int .i64 j, .int .i64 r, .int .i64 k, .int .i64 tm] * old w)) from h2)
    have Q2 := Lib.hid (Q1.out.trans q2); clear h2 q2
    go_wp2_with fail
    go_loopw [10] (fun i wr => ∃ (k_ : Nat) (g : Gld) (l : List Rec), k_ ≤ L.length ∧ i = .int .i64 k_ ∧ Holds wr (gld b g * (bl g0 28 [.int .i64 c, .int .i64 nw, .int .i64 j, .int .i64 r, .int .i64 k, .int .i64 tm] * old w)) ∧ Quiet w wr ∧ g.Ok l) (fun i _ => L.length - (intOf i).toNat)
    case atStart => exact ⟨0, Gld.zero, [], by omega, rfl, H2.out, Q2.out, Gld.zero_ok⟩
    case round =>
      obtain ⟨k_, g, l, hk, rfl, hh, hq, hok⟩ := hrel
      obtain ⟨wo, rfl⟩ : ∃ wo : World, wo = wr := ⟨_, rfl⟩
      have HH := Lib.hid hh; have HQ := Lib.hid hq; have HOK := Lib.hid hok; clear hh hq hok
      by_cases hlt : k_ < L.length
      · obtain ⟨o, ho⟩ : ∃ o, L[k_]? = some o := ⟨_, List.getElem?_eq_getElem hlt⟩
        obtain ⟨ga, off, c', e, _, _, hc0⟩ := HV.out.get (by omega)
        simp only [Value.slice.injEq] at e
        obtain ⟨rfl, _, rfl⟩ := e
        obtain ⟨x0, x1, x2, x3, x4, x5, x6, x7, x8⟩ := stp_cells HV.out ho (HH.out.eq (HP.assoc _ _ _).symm)
        obtain ⟨kd, x, kp, ⟨kd2, nw', jb, tr, wk, tm'⟩⟩ := o
        dsimp only at x0 x1 x2 x3 x4 x5 x6 x7 x8
        clear ho hc0
        go_wp2_with fail
        refine (gStep_sl b g kd x kp kd2 nw' jb tr wk tm' l _ HH.out HOK.out).mono ?_
        obtain ⟨l', hs⟩ := step_ok HOK.out ⟨kd, x, kp, ⟨kd2, nw', jb, tr, wk, tm'⟩⟩
        obtain ⟨⟨g', A⟩, hX⟩ : ∃ X, g.step ⟨kd, x, kp, ⟨kd2, nw', jb, tr, wk, tm'⟩⟩ = X := ⟨_, rfl⟩
        rw [hX] at hs ⊢
        have HOK' := Lib.hid hs.ok
        clear hs hX x0 x1 x2 x3 x4 x5 x6 x7 x8
        rintro e w3 ⟨rfl, q3, h3⟩
        have H3 := Lib.hid (show Holds w3 (gld b g' * (bl g0 28 [.int .i64 c, .int .i64 nw, .int .i64 j, .int .i64 r, .int .i64 k, .int .i64 tm] * old w)) from h3); have Q3 := Lib.hid (HQ.out.trans q3)
        clear h3 q3
        go_wp2_with fail
        go_roundw
        case rel => exact ⟨k_ + 1, g', l', by omega, by go_num, H3.out, Q3.out, HOK'.out⟩
        case measure => simp [intOf]; omega
      · obtain rfl : k_ = L.length := by omega
        clear c1 c2 hlt hk HV H1 H2 Q1 Q2
        obtain ⟨⟨g1, ⟨a0, a1, a2⟩⟩, hX1⟩ : ∃ X, g.step ⟨1, N, 0, ⟨0, 0, 0, 0, 0, 0⟩⟩ = X := ⟨_, rfl⟩
        obtain ⟨hok1, hj1, ht1, hf1, hs1⟩ := step_open HOK.out hN 0 ⟨0, 0, 0, 0, 0, 0⟩ hX1
        dsimp only at hj1 ht1 hf1 hs1
        subst hj1 ht1
        have HX1 := Lib.hid hX1; have HOK1 := Lib.hid hok1; have HF1 := Lib.hid hf1; have HS1 := Lib.hid hs1
        clear hX1 hok1 hf1 hs1
        go_wp2_with fail
        try simp only [hN2, hM2]
        refine (gStep_sl b g 1 N 0 0 0 0 0 0 0 l _ HH.out HOK.out).mono ?_
        rw [HX1.out]
        rintro e w3 ⟨rfl, q3, h3⟩
        simp only [Ans.val]
        have Q3 := Lib.hid (HQ.out.trans q3)
        obtain ⟨bd, vs, h4⟩ := gld_open (show Holds w3 (gld b g1 * (bl g0 28 [.int .i64 c, .int .i64 nw, .int .i64 j, .int .i64 r, .int .i64 k, .int .i64 tm] * old w)) from h3)
        have cg0 := (show BlockAt w3 b 49 (gcells bd vs g1.now) from h4.bl).cell 0 _ rfl
        have H4 := Lib.hid h4
        clear h3 h4 q3 HH HQ
        by_cases ha : a0 = 0
        · subst ha
          have hb15 : g1.d.b.length ≤ 1500 := HOK1.out.fam.ok.b
          have hll : 9 * l.length ≤ g1.d.b.length := by have := allB_len g1.d.b; rwa [HOK1.out.wh.all] at this
          have HN1 := Lib.hid (HS1.out rfl)
          clear HF1 HS1
          go_wp2_with fail
          refine (bytes_sl bd g1.d _ H4.out.two HOK1.out.fam.ok).mono ?_
          rintro e w5 ⟨vb, rfl, q5, h5⟩
          have H5 := Lib.hid h5; have Q5 := Lib.hid (Q3.out.trans q5); clear h5 q5 cg0
          go_wp2_with fail
          refine (all_sl _ g1.d.b _ H5.out.ownb.bytes (by omega) H5.out).mono ?_
          rw [HOK1.out.wh.all]
          rintro e w6 ⟨vr, rfl, q6, h6⟩
          obtain ⟨ar, cr, rfl, _, _⟩ := h6.row.shape
          have Q6 := Lib.hid (Q5.out.trans q6)
          have H6 := Lib.hid (gld_close (g := g1) ((show Holds w6 (recs (.slice ar l.length cr) l * (ownb vb g1.d.b * (dsk bd g1.d * (gblk b bd vs g1.now * (nodes3 bd vs g1.f * (bl g0 28 [.int .i64 c, .int .i64 nw, .int .i64 j, .int .i64 r, .int .i64 k, .int .i64 tm] * old w)))))) from h6).eq (by ac_rfl : _ = gblk b bd vs g1.now * (dsk bd g1.d * (nodes3 bd vs g1.f * (bl g0 28 [.int .i64 c, .int .i64 nw, .int .i64 j, .int .i64 r, .int .i64 k, .int .i64 tm] * (recs (.slice ar l.length cr) l * (ownb vb g1.d.b * old w))))))))
          obtain ⟨B1, hB1⟩ : ∃ B1, ownb vb g1.d.b * old w = B1 * old w ∧ B1 = ownb vb g1.d.b := ⟨_, rfl, rfl⟩
          rw [hB1.1] at H6
          clear h6 q6 H5 Q5 H4 Q3 hB1
          have hlb : l.length ≤ 200 := by omega
          clear hll hb15
          obtain ⟨⟨g2, A2⟩, hX2⟩ : ∃ X, g1.step ⟨4, N, 0, ⟨0, 0, 0, 0, 0, 0⟩⟩ = X := ⟨_, rfl⟩
          obtain ⟨hok2, hn2⟩ := step_down HOK1.out hN 0 ⟨0, 0, 0, 0, 0, 0⟩ HN1.out hX2
          have HX2 := Lib.hid hX2; have HOK2 := Lib.hid hok2; have HN2 := Lib.hid hn2
          clear hX2 hok2 hn2
          go_wp2_with fail
          refine (gStep_sl b g1 4 N 0 0 0 0 0 0 0 l _ H6.out HOK1.out).mono ?_
          rw [HX2.out]
          rintro e w7 ⟨rfl, q7, h7⟩
          have H7 := Lib.hid (show Holds w7 (gld b g2 * (bl g0 28 [.int .i64 c, .int .i64 nw, .int .i64 j, .int .i64 r, .int .i64 k, .int .i64 tm] * (recs (.slice ar l.length cr) l * (B1 * old w)))) from h7); have Q7 := Lib.hid (Q6.out.trans q7)
          have co := H7.out.two.bl.cells
          clear h7 q7 H6 Q6
          obtain ⟨⟨g3, A3⟩, hX3⟩ : ∃ X, g2.step ⟨2, N, 0, ⟨c, nw, j, r, k, tm⟩⟩ = X := ⟨_, rfl⟩
          obtain ⟨hok3, ha3⟩ := step_isdown HOK2.out hN 0 ⟨c, nw, j, r, k, tm⟩ HN2.out rfl hX3
          subst ha3
          have HX3 := Lib.hid hX3; have HOK3 := Lib.hid hok3
          clear hX3 hok3
          go_wp2_with fail
          refine (gStep_sl b g2 2 N 0 c nw j r k tm l _ H7.out HOK2.out).mono ?_
          rw [HX3.out]
          rintro e w8 ⟨rfl, q8, h8⟩
          simp only [Ans.val]
          have H8 := Lib.hid (((show Holds w8 (gld b g3 * (bl g0 28 [.int .i64 c, .int .i64 nw, .int .i64 j, .int .i64 r, .int .i64 k, .int .i64 tm] * (recs (.slice ar l.length cr) l * (B1 * old w)))) from h8).boxB (ty := 32) (cs := [.int .i64 10, .int .i64 0, .int .i64 0]) rfl).two); have Q8 := Lib.hid ((Q7.out.trans q8).alloc (.cells #[.int .i64 10, .int .i64 0, .int .i64 0] 32))
          obtain ⟨gy, hgy⟩ : ∃ gy, w8.heap.size = gy := ⟨_, rfl⟩
          rw [hgy] at H8
          clear h8 q8 co H7 Q7
          obtain ⟨⟨g4, ⟨d0, d1, d2⟩⟩, hX4⟩ : ∃ X, g3.step ⟨1, M, 0, ⟨0, 0, 0, 0, 0, 0⟩⟩ = X := ⟨_, rfl⟩
          obtain ⟨hok4, hj4, ht4, hf4, hs4⟩ := step_open HOK3.out hM 0 ⟨0, 0, 0, 0, 0, 0⟩ hX4
          dsimp only at hj4 ht4 hf4 hs4
          subst hj4 ht4
          have HX4 := Lib.hid hX4; have HOK4 := Lib.hid hok4; have HF4 := Lib.hid hf4; have HS4 := Lib.hid hs4
          clear hX4 hok4 hf4 hs4
          go_wp2_with fail
          refine (gStep_sl b g3 1 M 0 0 0 0 0 0 0 l _ H8.out HOK3.out).mono ?_
          rw [HX4.out]
          rintro e w9 ⟨rfl, q9, h9⟩
          simp only [Ans.val]
          clear hgy
          have Q9 := Lib.hid (Q8.out.trans q9)
          obtain ⟨bd4, vs4, h10⟩ := gld_open (show Holds w9 (gld b g4 * (bl gy 32 [.int .i64 10, .int .i64 0, .int .i64 0] * (bl g0 28 [.int .i64 c, .int .i64 nw, .int .i64 j, .int .i64 r, .int .i64 k, .int .i64 tm] * (recs (.slice ar l.length cr) l * (B1 * old w))))) from h9)
          have cg0 := (show BlockAt w9 b 49 (gcells bd4 vs4 g4.now) from h10.bl).cell 0 _ rfl
          have H10 := Lib.hid h10
          clear h9 h10 q9 H8 Q8
          by_cases ha4 : d0 = 0
          · subst ha4
            have HN4 := Lib.hid (HS4.out rfl)
            clear HF4 HS4
            have hgn := gNode_sl b bd4 vs4 g4.now M w9 H10.out
            rw [show gAt vs4 M = vs4 M from by unfold gAt; rw [if_neg (by omega)]; rfl] at hgn
            have HGN := Lib.hid hgn; clear hgn
            go_wp2_with fail
            refine HGN.out.mono ?_
            rintro e w11 ⟨rfl, rfl⟩
            clear HGN
            obtain ⟨bn, hvk, hp⟩ := pick_some H10.out hM HN4.out
            rw [hvk]
            have H11 := Lib.hid hp; have HVK := Lib.hid hvk
            clear hvk hp
            go_wp2_with fail
            refine (nDown_sl bn bd4 _ _ H11.out).mono ?_
            rintro e w12 ⟨rfl, rfl⟩
            dsimp only
            go_wp2_with fail
            refine (bytes_sl bd4 g4.d _ H10.out.two HOK4.out.fam.ok).mono ?_
            rintro e w13 ⟨vc, rfl, q13, h13⟩
            have H13 := Lib.hid h13; have Q13 := Lib.hid (Q9.out.trans q13); clear h13 q13 cg0
            have hb15 : g4.d.b.length ≤ 1500 := HOK4.out.fam.ok.b
            go_wp2_with fail
            refine (all_sl _ g4.d.b _ H13.out.ownb.bytes (by omega) H13.out).mono ?_
            rw [HOK4.out.wh.all]
            rintro e w14 ⟨vr2, rfl, q14, h14⟩
            obtain ⟨ar2, cr2, rfl, _, _⟩ := h14.row.shape
            have Q14 := Lib.hid (Q13.out.trans q14)
            have H14 := Lib.hid (show Holds w14 (recs (.slice ar2 l.length cr2) l * (ownb vc g4.d.b * (dsk bd4 g4.d * (gblk b bd4 vs4 g4.now * (nodes3 bd4 vs4 g4.f * (bl gy 32 [.int .i64 10, .int .i64 0, .int .i64 0] * (bl g0 28 [.int .i64 c, .int .i64 nw, .int .i64 j, .int .i64 r, .int .i64 k, .int .i64 tm] * (recs (.slice ar l.length cr) l * (B1 * old w))))))))) from h14)
            clear h14 q14 H13 Q13 hb15
            have hr2 : RowAt w14 (.slice ar l.length cr) l.length (rvs l) := (H14.out.eq (by ac_rfl : _ = recs (.slice ar l.length cr) l * (recs (.slice ar2 l.length cr2) l * (ownb vc g4.d.b * (dsk bd4 g4.d * (gblk b bd4 vs4 g4.now * (nodes3 bd4 vs4 g4.f * (bl gy 32 [.int .i64 10, .int .i64 0, .int .i64 0] * (bl g0 28 [.int .i64 c, .int .i64 nw, .int .i64 j, .int .i64 r, .int .i64 k, .int .i64 tm] * (B1 * old w)))))))))).row
            have HR2 := Lib.hid hr2; clear hr2
            go_wp2_with fail
            refine (same_recs _ _ l _ H14.out.row HR2.out (by omega)).mono ?_
            rintro e w15 ⟨rfl, n15, rfl⟩
            have H15 := Lib.hid (H14.out.drewN n15)
            have Q15 := Lib.hid (Q14.out.drewN n15)
            obtain ⟨w16, hw16⟩ : ∃ w16, w14.drewN n15 = w16 := ⟨_, rfl⟩
            rw [hw16] at H15 Q15 ⊢
            have hr3 : RowAt w16 (.slice ar l.length cr) l.length (rvs l) := (H15.out.eq (by ac_rfl : _ = recs (.slice ar l.length cr) l * (recs (.slice ar2 l.length cr2) l * (ownb vc g4.d.b * (dsk bd4 g4.d * (gblk b bd4 vs4 g4.now * (nodes3 bd4 vs4 g4.f * (bl gy 32 [.int .i64 10, .int .i64 0, .int .i64 0] * (bl g0 28 [.int .i64 c, .int .i64 nw, .int .i64 j, .int .i64 r, .int .i64 k, .int .i64 tm] * (B1 * old w)))))))))).row
            have HR3 := Lib.hid hr3
            clear hw16 hr3 H14 Q14 HR2
            go_wp2_with fail
            refine (behind_sl _ l _ HR3.out (by omega) H15.out).mono ?_
            rintro e w17 ⟨bb, rfl, q17, h17⟩
            have Q17 := Lib.hid (Q15.out.trans q17)
            obtain ⟨RX, hRX⟩ : ∃ RX, recs (.slice ar2 l.length cr2) l * (ownb vc g4.d.b * (bl gy 32 [.int .i64 10, .int .i64 0, .int .i64 0] * (bl g0 28 [.int .i64 c, .int .i64 nw, .int .i64 j, .int .i64 r, .int .i64 k, .int .i64 tm] * (recs (.slice ar l.length cr) l * B1)))) = RX := ⟨_, rfl⟩
            have h18 := (show Holds w17 (tb bb 40 (behind l) * (recs (.slice ar2 l.length cr2) l * (ownb vc g4.d.b * (dsk bd4 g4.d * (gblk b bd4 vs4 g4.now * (nodes3 bd4 vs4 g4.f * (bl gy 32 [.int .i64 10, .int .i64 0, .int .i64 0] * (bl g0 28 [.int .i64 c, .int .i64 nw, .int .i64 j, .int .i64 r, .int .i64 k, .int .i64 tm] * (recs (.slice ar l.length cr) l * (B1 * old w)))))))))) from h17).eq (by rw [← hRX]; ac_rfl : _ = (tb bb 40 (behind l) * (dsk bd4 g4.d * gblk b bd4 vs4 g4.now)) * (RX * (nodes3 bd4 vs4 g4.f * old w)))
            obtain ⟨bn', hvk', hp'⟩ := pick_some h18 hM HN4.out
            have hbn : bn = bn' := by
              have h1 := HVK.out.symm.trans hvk'
              injection h1 with h1
              injection h1 with h1
              injection h1
            subst hbn
            obtain ⟨bt, h19⟩ := nod_open hp'
            obtain ⟨RZ, hRZ⟩ : ∃ RZ, (dsk bd4 g4.d * gblk b bd4 vs4 g4.now) * (RX * nrest bd4 vs4 g4.f M) = RZ := ⟨_, rfl⟩
            have H19 := Lib.hid (h19.eq (by rw [← hRZ]; dsimp only; ac_rfl : _ = nblk bn bt bd4 ⟨behind l, g3.d.ep + 1, false⟩ * (tab bt (behind l) * (tb bb 40 (behind l) * (RZ * old w)))))
            clear hvk' hp' h18 h19 h17 hRZ hRX q17 H15 Q15 HR3
            go_wp2_with fail
            go_loopw [15] (fun i wr => ∃ q : Nat, q ≤ 6 ∧ i = .int .i64 q ∧ Holds wr (nblk bn bt bd4 ⟨behind l, g3.d.ep + 1, false⟩ * (tab bt (behind l) * (tb bb 40 (behind l) * (RZ * old w)))) ∧ Quiet w wr) (fun i _ => 6 - (intOf i).toNat)
            case atStart => exact ⟨0, by omega, rfl, H19.out, Q17.out⟩
            case round =>
              obtain ⟨q, hq, rfl, hh, hqu⟩ := hrel
              have HHm := Lib.hid hh; have HQm := Lib.hid hqu; clear hh hqu
              by_cases hlt2 : q < 6
              · obtain ⟨⟨s1, s2, s3, s4⟩, hJ⟩ : ∃ J, (behind l).job q = J := ⟨_, rfl⟩
                have HJ := Lib.hid hJ
                have cn := (show BlockAt wr bn 61 (ncells bt bd4 ⟨behind l, g3.d.ep + 1, false⟩) from HHm.out.bl).cell 0 _ rfl
                have hlt2' : (q : Int) < 6 := by omega
                clear hJ
                go_wp2_with fail
                refine (job_sl bt (behind l) q _ HHm.out.two).mono ?_
                rw [HJ.out]
                simp only [Job.val, jcells]
                rintro e w12 ⟨rfl, hb12⟩
                have H12 := Lib.hid (HHm.out.below hb12); have Q12 := Lib.hid (HQm.out.trans (Quiet.below hb12))
                clear hb12 cn
                go_wp2_with fail
                refine (bjob_sl bb (behind l) q _ H12.out.three).mono ?_
                rw [HJ.out]
                simp only [Job.val, jcells]
                rintro e w13 ⟨rfl, hb13⟩
                have H13 := Lib.hid (H12.out.below hb13); have Q13 := Lib.hid (Q12.out.trans (Quiet.below hb13))
                clear hb13
                go_wp2_with fail
                go_roundw
                case rel => exact ⟨q + 1, by omega, by go_num, H13.out, Q13.out⟩
                case measure => simp [intOf]; omega
              · obtain rfl : q = 6 := by omega
                go_wp2
                go_ret
                exact ⟨rfl, ((HHm.out.eq (by ac_rfl : _ = (nblk bn bt bd4 ⟨behind l, g3.d.ep + 1, false⟩ * (tab bt (behind l) * (tb bb 40 (behind l) * RZ))) * old w)).toBelow HQm.out)⟩
          · have hkb : (d0 != 0) = true := by simpa using ha4
            have he : g4.d.ep = 100 := HF4.out ha4
            have heb : (g4.d.ep == 100) = true := by simpa using he
            clear ha4 he
            go_wp2_with fail
            refine (depoch_sl bd4 g4.d _ H10.out.two).mono ?_
            rintro e w11 ⟨rfl, rfl⟩
            go_wp2
            go_ret
            exact ⟨rfl, ((H10.out.eq (by ac_rfl : _ = (gblk b bd4 vs4 g4.now * (dsk bd4 g4.d * (nodes3 bd4 vs4 g4.f * (bl gy 32 [.int .i64 10, .int .i64 0, .int .i64 0] * (bl g0 28 [.int .i64 c, .int .i64 nw, .int .i64 j, .int .i64 r, .int .i64 k, .int .i64 tm] * (recs (.slice ar l.length cr) l * B1)))))) * old w)).toBelow Q9.out)⟩
        · have hkb : (a0 != 0) = true := by simpa using ha
          have he : g1.d.ep = 100 := HF1.out ha
          have heb : (g1.d.ep == 100) = true := by simpa using he
          clear ha he
          go_wp2_with fail
          refine (depoch_sl bd g1.d _ H4.out.two).mono ?_
          rintro e w11 ⟨rfl, rfl⟩
          go_wp2
          go_ret
          exact ⟨rfl, ((H4.out.eq (by ac_rfl : _ = (gblk b bd vs g1.now * (dsk bd g1.d * (nodes3 bd vs g1.f * bl g0 28 [.int .i64 c, .int .i64 nw, .int .i64 j, .int .i64 r, .int .i64 k, .int .i64 tm]))) * old w)).toBelow Q3.out)⟩
end Go.Proofs.Ytfihmpkkpgmdhac
