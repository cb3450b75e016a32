/-
  StoryOnce, walked: each job is done once.
-/
import Derived.Test.YtfihmpkkpgmdhacStoryE
import Derived.Test.YtfihmpkkpgmdhacStoryF
import Derived.Test.YtfihmpkkpgmdhacGuildV
import Derived.Test.YtfihmpkkpgmdhacIv6
namespace Go.Proofs.Ytfihmpkkpgmdhac
set_option linter.unusedSimpArgs false
set_option linter.unusedVariables false
open Go.RowKit
set_option maxRecDepth 100000 in
set_option maxHeartbeats 8000000 in
theorem storyOnce_any (v : Value) (L : List Stp) (w : World) (hv : (∀ r ∈ L, ∀ n ∈ r.ints, I64' n) ∧ RowAt w v L.length (svs L)) :
    Calls Try.prog 7 #[v] w fun e w' => e = .returned (.bool true) ∧ Below w.heap.size w w' := by
  obtain ⟨a, cc, rfl, c1, c2⟩ := hv.2.shape
  have HV := Lib.hid hv.2; clear hv
  go_enter Try.func7, Try.ntmps7
  go_wp2_with fail
  refine (storyBegun_any _).mono ?_
  rintro e w1 ⟨rfl, hb1⟩
  have H1 := Lib.hid ((Holds.old (w := w)).below hb1)
  have Q1 := Lib.hid (Quiet.below hb1); clear hb1
  by_cases hlen : 300 < L.length
  · go_wp2
    go_ret
    exact ⟨rfl, H1.out.toBelow' Q1.out⟩
  · go_wp2_with fail
    refine (gNew_sl _ H1.out).mono ?_
    rintro e w2 ⟨b, rfl, q2, h2⟩
    have H2 := Lib.hid (show Holds w2 (gld b Gld.zero * old w) from h2)
    have Q2 := Lib.hid (Q1.out.trans q2); clear h2 q2
    go_wp2_with fail
    go_loopw [4] (fun i wr => ∃ (k : Nat) (g : Gld) (l : List Rec), k ≤ L.length ∧ i = .int .i64 k ∧ Holds wr (gld b g * old w) ∧ Quiet w wr ∧ g.Ok l) (fun i _ => L.length - (intOf i).toNat)
    case atStart => exact ⟨0, Gld.zero, [], by omega, rfl, H2.out, Q2.out, Gld.zero_ok⟩
    case round =>
      obtain ⟨k, g, l, hk, rfl, hh, hq, hok⟩ := hrel
      obtain ⟨wo, rfl⟩ : ∃ wo : World, wo = wr := ⟨_, rfl⟩
      have HH := Lib.hid hh; have HQ := Lib.hid hq; have HOK := Lib.hid hok; clear hh hq hok
      by_cases hlt : k < L.length
      · obtain ⟨o, ho⟩ : ∃ o, L[k]? = some o := ⟨_, List.getElem?_eq_getElem hlt⟩
        obtain ⟨ga, off, c', e, _, _, hc0⟩ := HV.out.get (by omega)
        simp only [Value.slice.injEq] at e
        obtain ⟨rfl, _, rfl⟩ := e
        obtain ⟨x0, x1, x2, x3, x4, x5, x6, x7, x8⟩ := stp_cells HV.out ho HH.out
        obtain ⟨kd, x, kp, ⟨kd2, nw, jb, tr, wk, tm⟩⟩ := o
        dsimp only at x0 x1 x2 x3 x4 x5 x6 x7 x8
        clear ho hc0
        go_wp2_with fail
        refine (gStep_sl b g kd x kp kd2 nw jb tr wk tm l _ HH.out HOK.out).mono ?_
        obtain ⟨l', hs⟩ := step_ok HOK.out ⟨kd, x, kp, ⟨kd2, nw, jb, tr, wk, tm⟩⟩
        obtain ⟨⟨g', A⟩, hX⟩ : ∃ X, g.step ⟨kd, x, kp, ⟨kd2, nw, jb, tr, wk, tm⟩⟩ = X := ⟨_, rfl⟩
        rw [hX] at hs ⊢
        have HOK' := Lib.hid hs.ok
        clear hs hX x0 x1 x2 x3 x4 x5 x6 x7 x8
        rintro e w3 ⟨rfl, q3, h3⟩
        have H3 := Lib.hid (show Holds w3 (gld b g' * old w) from h3); have Q3 := Lib.hid (HQ.out.trans q3)
        clear h3 q3
        go_wp2_with fail
        go_roundw
        case rel => exact ⟨k + 1, g', l', by omega, by go_num, H3.out, Q3.out, HOK'.out⟩
        case measure => simp [intOf]; omega
      · obtain rfl : k = L.length := by omega
        have hep := HOK.out.fam.ok.ep
        have hb15 : g.d.b.length ≤ 1500 := HOK.out.fam.ok.b
        have hll : 9 * l.length ≤ g.d.b.length := by have := allB_len g.d.b; rwa [HOK.out.wh.all] at this
        obtain ⟨bd, vs, h4⟩ := gld_open HH.out
        have cg0 := (show BlockAt wo b 49 (gcells bd vs g.now) from h4.bl).cell 0 _ rfl
        have H4 := Lib.hid h4; clear h4
        go_wp2_with fail
        refine (bytes_sl bd g.d _ H4.out.two HOK.out.fam.ok).mono ?_
        rintro e w5 ⟨vb, rfl, q5, h5⟩
        have H5 := Lib.hid h5; have Q5 := Lib.hid (HQ.out.trans q5); clear h5 q5 cg0
        go_wp2_with fail
        refine (of_sl _ g.d.b _ H5.out.ownb.bytes (by omega) H5.out).mono ?_
        rw [HOK.out.wh.all]
        rintro e w6 ⟨v6, rfl, q6, h6⟩
        obtain ⟨a6, c6, rfl, _, _⟩ := h6.row.shape
        have hel : (evs Tbl.zero l).length = l.length := evs_len _ _
        rw [hel] at h6 ⊢
        have HEL := Lib.hid hel; clear hel
        have Q6 := Lib.hid (Q5.out.trans q6)
        obtain ⟨s0, hs0⟩ : ∃ s0, w6.heap.size = s0 := ⟨_, rfl⟩
        obtain ⟨s1, hs1⟩ : ∃ s1, s0 + 1 = s1 := ⟨_, rfl⟩
        have hs01 : s0 ≠ s1 := by omega
        have hs10 : s1 ≠ s0 := by omega
        obtain ⟨RR, hRR⟩ : ∃ RR, nodes3 bd vs g.f * (ownb vb g.d.b * old w) = RR := ⟨_, rfl⟩
        have h7 := (((show Holds w6 (sevs (.slice a6 l.length c6) (evs Tbl.zero l) * (ownb vb g.d.b * (dsk bd g.d * (gblk b bd vs g.now * (nodes3 bd vs g.f * old w))))) from h6).boxB (ty := 26) (cs := iv6 (fun _ => 0)) hs0).boxB (ty := 26) (cs := iv6 (fun _ => 0)) (g := s1) (by rw [World.size_alloc, hs0]; exact hs1))
        have H7 := Lib.hid (h7.eq (by rw [← hRR]; ac_rfl : _ = (bl s0 26 (iv6 (fun _ => 0)) * (bl s1 26 (iv6 (fun _ => 0)) * (sevs (.slice a6 l.length c6) (evs Tbl.zero l) * (gblk b bd vs g.now * (dsk bd g.d * RR)))))))
        have Q7 := Lib.hid ((Q6.out.alloc (.cells (iv6 (fun _ => 0)).toArray 26)).alloc (.cells (iv6 (fun _ => 0)).toArray 26))
        have HR := Lib.hid hRR
        clear h6 h7 q6 hRR H4 H5 HH Q5
        go_wp2_with fail
        clear hs0 hs1
        go_loopw [8, 9] (fun lst i wr => ∃ (k : Nat) (added done : Nat → Int), k ≤ l.length ∧ lst = .int .i64 (lastOf l k) ∧ i = .int .i64 k ∧ Holds wr (bl s0 26 (iv6 added) * (bl s1 26 (iv6 done) * (sevs (.slice a6 l.length c6) (evs Tbl.zero l) * (gblk b bd vs g.now * (dsk bd g.d * RR))))) ∧ Quiet w wr ∧ Once (runL Tbl.zero (l.take k)) added done) (fun _ i _ => l.length - (intOf i).toNat)
        case atStart => exact ⟨0, _, _, by omega, by rw [lastOf_zero], rfl, H7.out, Q7.out, Once.zero⟩
        case round =>
          obtain ⟨k, added, done, hk, rfl, rfl, hh, hq, hon⟩ := hrel
          have HH := Lib.hid hh; have HQ := Lib.hid hq; have HON := Lib.hid hon; clear hh hq hon
          by_cases hlt : k < l.length
          · obtain ⟨r, hr⟩ : ∃ r, l[k]? = some r := ⟨_, List.getElem?_eq_getElem hlt⟩
            have hev := evs_get Tbl.zero l k r hr
            have hrun := runL_step hr Tbl.zero
            have hcd := done_get HOK.out.done hr
            obtain ⟨hl1, hl2, hl3⟩ := lastOf_step HOK.out.wh hr
            obtain ⟨lv, hlv⟩ : ∃ lv, lastOf l k = lv := ⟨_, rfl⟩
            rw [hlv] at hl1 ⊢
            clear hlv
            obtain ⟨i, hi, hij, hd0, had1, had2, hon'⟩ := HON.out.step hcd
            obtain ⟨T, hT⟩ : ∃ T, runL Tbl.zero (l.take k) = T := ⟨_, rfl⟩
            rw [hT] at hev hrun hcd hij hon'
            rw [← hrun] at hon'
            obtain ⟨ep2, ⟨kd, nw, jb, tr, wk, tm⟩⟩ := r
            unfold Ev.job at hij
            obtain ⟨⟨⟨e0, ⟨e1, e2, e3, e4, e5, e6⟩⟩, ⟨a0, a1, a2⟩, ⟨s1', s2, s3, s4⟩⟩, hE⟩ : ∃ E, evOf T ⟨ep2, ⟨kd, nw, jb, tr, wk, tm⟩⟩ = E := ⟨_, rfl⟩
            have hE2 := hE
            unfold evOf at hE2
            simp only [Ev.mk.injEq, Rec.mk.injEq, Ord.mk.injEq] at hE2
            obtain ⟨⟨rfl, rfl, rfl, rfl, rfl, rfl, rfl⟩, hA, _⟩ := hE2
            rw [hE] at hev hij
            dsimp only at hij had1 had2 hon' hl1 hl2 hl3 hcd
            have ha0 : a0 = 0 := by rw [hA] at hcd; exact hcd
            subst ha0
            obtain ⟨g6, o6, c6', e6'⟩ := sev_shape HH.out.three (i := k) (by rw [HEL.out]; exact hlt)
            simp only [Value.slice.injEq] at e6'
            obtain ⟨rfl, hx6, rfl⟩ := e6'
            clear hx6
            have HEV := Lib.hid hev; have HL3 := Lib.hid hl3; have HON' := Lib.hid hon'
            obtain ⟨z0, z1, z2, z3, z4, z5, z6, z7, z8, z9, z10, z11, z12, z13⟩ := sev_cells ep2 kd nw jb tr wk tm 0 a1 a2 s1' s2 s3 s4 HH.out.three hev
            obtain ⟨wi, rfl⟩ : ∃ wi : World, wi = wr := ⟨_, rfl⟩
            have hX := HH.out.boxB (ty := 28) (cs := [.int .i64 kd, .int .i64 nw, .int .i64 jb, .int .i64 tr, .int .i64 wk, .int .i64 tm]) rfl
            have HX := Lib.hid hX; have QX := Lib.hid (HQ.out.alloc (.cells ([.int .i64 kd, .int .i64 nw, .int .i64 jb, .int .i64 tr, .int .i64 wk, .int .i64 tm] : List Value).toArray 28))
            have cA := HH.out.bl.cell i (.int .i64 (added i)) (iv6_get _ hi)
            have cD := HH.out.two.bl.cell i (.int .i64 (done i)) (iv6_get _ hi)
            have fA := HH.out.bl.frees
            have fD := HH.out.two.bl.frees
            have lA := HH.out.bl.lt
            have lD := HH.out.two.bl.lt
            rw [hd0] at cD
            have lg6 := block_lt_of_cell z0
            dsimp only at lg6
            clear hX hr hev hrun hcd hon' hT hE hA hl3
            have hk3 : (k : Int) < (l.length : Int) := by omega
            have hb0 : decide ((i : Int) < 0) = false := by simp
            have hb1 : decide (6 ≤ (i : Int)) = false := by simp; omega
            have hb2 : decide (ep2 < lv) = false := by simp; omega
            have hb3 : decide (g.d.ep < ep2) = false := by simp; omega
            have hi' : (i : Int) < 6 := by omega
            by_cases h2 : kd = 2
            · subst h2
              rw [if_pos rfl] at hij
              subst hij
              have hadd := had2 (by decide)
              rw [hadd] at cA
              have hon' := HON'.out
              simp only [show ¬ (2 : Int) = 1 by decide, show ¬ (2 : Int) = 4 by decide, if_false] at hon'
              have HON2 := Lib.hid hon'
              clear hon' HON'
              have HB := Lib.hid (show (wi.alloc (.cells #[.int .i64 2, .int .i64 nw, .int .i64 jb, .int .i64 tr, .int .i64 wk, .int .i64 tm] 28)).drew.cell? ⟨s1, i, none⟩ = some (.int .i64 0) ∧ (wi.alloc (.cells #[.int .i64 2, .int .i64 nw, .int .i64 jb, .int .i64 tr, .int .i64 wk, .int .i64 tm] 28)).drew.cell? ⟨g6, o6 + k * 14, none⟩ = some (.int .i64 ep2) ∧ (wi.alloc (.cells #[.int .i64 2, .int .i64 nw, .int .i64 jb, .int .i64 tr, .int .i64 wk, .int .i64 tm] 28)).drew.cell? ⟨b, 0, none⟩ = some (.pointer (some ⟨bd, 0, none⟩)) from ⟨HX.out.drew.three.bl.cell i _ (by rw [← hd0]; exact iv6_get _ hi), (sev_cells ep2 2 nw jb tr wk tm 0 i a2 s1' s2 s3 s4 HX.out.drew.four HEV.out).1, (show BlockAt _ b 49 (gcells bd vs g.now) from (HX.out.drew.eq (by ac_rfl : _ = gblk b bd vs g.now * (bl wi.heap.size 28 [.int .i64 2, .int .i64 nw, .int .i64 jb, .int .i64 tr, .int .i64 wk, .int .i64 tm] * (bl s0 26 (iv6 added) * (bl s1 26 (iv6 done) * (sevs (.slice (some ⟨g6, o6, none⟩) l.length c6) (evs Tbl.zero l) * (dsk bd g.d * RR))))))).bl).cell 0 _ rfl⟩)
              go_wp2_with fail
              refine wp_region_lex (fun W => W.cell? ⟨s1, i, none⟩ = some (.int .i64 0) ∧ W.cell? ⟨g6, o6 + k * 14, none⟩ = some (.int .i64 ep2) ∧ W.cell? ⟨b, 0, none⟩ = some (.pointer (some ⟨bd, 0, none⟩))) [33] (by kernel_rfl) (by kernel_rfl) HB.out ?_
              repeat (first | (refine LexL.none (by rfl) ?_; (try simp only [Act.put, List.setIfInBounds_toArray, List.set_cons_zero, List.set_cons_succ])) | (refine LexL.still (v := ?_) (by rfl) ?_ ?_; rotate_left; (focus (intro W hW; (try dsimp only at hW); go_simp; (try (with_reducible rfl)); done)); (try simp only [Act.put, List.setIfInBounds_toArray, List.set_cons_zero, List.set_cons_succ])))
              refine LexL.call (f := 19) (args := #[.pointer (some ⟨bd, 0, none⟩)]) (w1 := (wi.alloc (.cells #[.int .i64 2, .int .i64 nw, .int .i64 jb, .int .i64 tr, .int .i64 wk, .int .i64 tm] 28)).drew) (by rfl) (by decide) (by go_simp) ?_
              refine (depoch_sl bd g.d _ (HX.out.drew.eq (by ac_rfl : _ = dsk bd g.d * (gblk b bd vs g.now * (bl wi.heap.size 28 [.int .i64 2, .int .i64 nw, .int .i64 jb, .int .i64 tr, .int .i64 wk, .int .i64 tm] * (bl s0 26 (iv6 added) * (bl s1 26 (iv6 done) * (sevs (.slice (some ⟨g6, o6, none⟩) l.length c6) (evs Tbl.zero l) * RR)))))))).mono ?_
              rintro e w9 ⟨rfl, rfl⟩
              refine ⟨_, rfl, HB.out, ?_⟩
              try simp only [Act.put, List.setIfInBounds_toArray, List.set_cons_zero, List.set_cons_succ]
              repeat (first | (refine LexL.none (by rfl) ?_; (try simp only [Act.put, List.setIfInBounds_toArray, List.set_cons_zero, List.set_cons_succ])) | (refine LexL.still (v := ?_) (by rfl) ?_ ?_; rotate_left; (focus (intro W hW; (try dsimp only at hW); go_simp; (try (with_reducible rfl)); done)); (try simp only [Act.put, List.setIfInBounds_toArray, List.set_cons_zero, List.set_cons_succ])))
              refine LexL.done ?_
              have h6 := HH.out
              have H6 := Lib.hid ((h6.alloc (.cells #[.int .i64 2, .int .i64 nw, .int .i64 jb, .int .i64 tr, .int .i64 wk, .int .i64 tm] 28)).drew); clear h6
              have Q6 := Lib.hid (((HQ.out).alloc (.cells #[.int .i64 2, .int .i64 nw, .int .i64 jb, .int .i64 tr, .int .i64 wk, .int .i64 tm] 28)).drew)
              go_wp2_with fail
              go_roundw
              case rel => exact ⟨k + 1, _, _, by omega, by rw [HL3.out], by go_num, H6.out, Q6.out, HON2.out⟩
              case measure => simp [intOf]; omega
            · rw [if_neg h2] at hij
              subst hij
              have hkb : (kd == 2) = false := by simpa using h2
              by_cases h1 : kd = 1
              · subst h1
                have hadd := had1 rfl
                rw [hadd] at cA
                have hon' := HON'.out
                simp only [if_true, show ¬ (1 : Int) = 4 by decide, if_false] at hon'
                have HON2 := Lib.hid hon'
                clear hon' HON'
                have HB := Lib.hid (show (wi.alloc (.cells #[.int .i64 1, .int .i64 nw, .int .i64 i, .int .i64 tr, .int .i64 wk, .int .i64 tm] 28)).drew.cell? ⟨s1, i, none⟩ = some (.int .i64 0) ∧ (wi.alloc (.cells #[.int .i64 1, .int .i64 nw, .int .i64 i, .int .i64 tr, .int .i64 wk, .int .i64 tm] 28)).drew.cell? ⟨g6, o6 + k * 14, none⟩ = some (.int .i64 ep2) ∧ (wi.alloc (.cells #[.int .i64 1, .int .i64 nw, .int .i64 i, .int .i64 tr, .int .i64 wk, .int .i64 tm] 28)).drew.cell? ⟨b, 0, none⟩ = some (.pointer (some ⟨bd, 0, none⟩)) from ⟨HX.out.drew.three.bl.cell i _ (by rw [← hd0]; exact iv6_get _ hi), (sev_cells ep2 1 nw i tr wk tm 0 a1 a2 s1' s2 s3 s4 HX.out.drew.four HEV.out).1, (show BlockAt _ b 49 (gcells bd vs g.now) from (HX.out.drew.eq (by ac_rfl : _ = gblk b bd vs g.now * (bl wi.heap.size 28 [.int .i64 1, .int .i64 nw, .int .i64 i, .int .i64 tr, .int .i64 wk, .int .i64 tm] * (bl s0 26 (iv6 added) * (bl s1 26 (iv6 done) * (sevs (.slice (some ⟨g6, o6, none⟩) l.length c6) (evs Tbl.zero l) * (dsk bd g.d * RR))))))).bl).cell 0 _ rfl⟩)
                go_wp2_with fail
                refine wp_region_lex (fun W => W.cell? ⟨s1, i, none⟩ = some (.int .i64 0) ∧ W.cell? ⟨g6, o6 + k * 14, none⟩ = some (.int .i64 ep2) ∧ W.cell? ⟨b, 0, none⟩ = some (.pointer (some ⟨bd, 0, none⟩))) [33] (by kernel_rfl) (by kernel_rfl) HB.out ?_
                repeat (first | (refine LexL.none (by rfl) ?_; (try simp only [Act.put, List.setIfInBounds_toArray, List.set_cons_zero, List.set_cons_succ])) | (refine LexL.still (v := ?_) (by rfl) ?_ ?_; rotate_left; (focus (intro W hW; (try dsimp only at hW); go_simp; (try (with_reducible rfl)); done)); (try simp only [Act.put, List.setIfInBounds_toArray, List.set_cons_zero, List.set_cons_succ])))
                refine LexL.call (f := 19) (args := #[.pointer (some ⟨bd, 0, none⟩)]) (w1 := (wi.alloc (.cells #[.int .i64 1, .int .i64 nw, .int .i64 i, .int .i64 tr, .int .i64 wk, .int .i64 tm] 28)).drew) (by rfl) (by decide) (by go_simp) ?_
                refine (depoch_sl bd g.d _ (HX.out.drew.eq (by ac_rfl : _ = dsk bd g.d * (gblk b bd vs g.now * (bl wi.heap.size 28 [.int .i64 1, .int .i64 nw, .int .i64 i, .int .i64 tr, .int .i64 wk, .int .i64 tm] * (bl s0 26 (iv6 added) * (bl s1 26 (iv6 done) * (sevs (.slice (some ⟨g6, o6, none⟩) l.length c6) (evs Tbl.zero l) * RR)))))))).mono ?_
                rintro e w9 ⟨rfl, rfl⟩
                refine ⟨_, rfl, HB.out, ?_⟩
                try simp only [Act.put, List.setIfInBounds_toArray, List.set_cons_zero, List.set_cons_succ]
                repeat (first | (refine LexL.none (by rfl) ?_; (try simp only [Act.put, List.setIfInBounds_toArray, List.set_cons_zero, List.set_cons_succ])) | (refine LexL.still (v := ?_) (by rfl) ?_ ?_; rotate_left; (focus (intro W hW; (try dsimp only at hW); go_simp; (try (with_reducible rfl)); done)); (try simp only [Act.put, List.setIfInBounds_toArray, List.set_cons_zero, List.set_cons_succ])))
                refine LexL.done ?_
                have h6 := HH.out.setB i (.int .i64 1)
                rw [iv6_set _ hi] at h6
                have H6 := Lib.hid ((h6.alloc (.cells #[.int .i64 1, .int .i64 nw, .int .i64 i, .int .i64 tr, .int .i64 wk, .int .i64 tm] 28)).drew); clear h6
                have Q6 := Lib.hid (((HQ.out.setCell ⟨s0, i, none⟩ (.int .i64 1)).alloc (.cells #[.int .i64 1, .int .i64 nw, .int .i64 i, .int .i64 tr, .int .i64 wk, .int .i64 tm] 28)).drew)
                go_wp2_with fail
                go_roundw
                case rel => exact ⟨k + 1, _, _, by omega, by rw [HL3.out], by go_num, H6.out, Q6.out, HON2.out⟩
                case measure => simp [intOf]; omega
              · have hk1 : (kd == 1) = false := by simpa using h1
                have hadd := had2 h1
                rw [hadd] at cA
                by_cases h4 : kd = 4
                · subst h4
                  have hon' := HON'.out
                  simp only [if_true, show ¬ (4 : Int) = 1 by decide, if_false] at hon'
                  have HON2 := Lib.hid hon'
                  clear hon' HON'
                  have HB := Lib.hid (show (wi.alloc (.cells #[.int .i64 4, .int .i64 nw, .int .i64 i, .int .i64 tr, .int .i64 wk, .int .i64 tm] 28)).drew.cell? ⟨s1, i, none⟩ = some (.int .i64 0) ∧ (wi.alloc (.cells #[.int .i64 4, .int .i64 nw, .int .i64 i, .int .i64 tr, .int .i64 wk, .int .i64 tm] 28)).drew.cell? ⟨g6, o6 + k * 14, none⟩ = some (.int .i64 ep2) ∧ (wi.alloc (.cells #[.int .i64 4, .int .i64 nw, .int .i64 i, .int .i64 tr, .int .i64 wk, .int .i64 tm] 28)).drew.cell? ⟨b, 0, none⟩ = some (.pointer (some ⟨bd, 0, none⟩)) from ⟨HX.out.drew.three.bl.cell i _ (by rw [← hd0]; exact iv6_get _ hi), (sev_cells ep2 4 nw i tr wk tm 0 a1 a2 s1' s2 s3 s4 HX.out.drew.four HEV.out).1, (show BlockAt _ b 49 (gcells bd vs g.now) from (HX.out.drew.eq (by ac_rfl : _ = gblk b bd vs g.now * (bl wi.heap.size 28 [.int .i64 4, .int .i64 nw, .int .i64 i, .int .i64 tr, .int .i64 wk, .int .i64 tm] * (bl s0 26 (iv6 added) * (bl s1 26 (iv6 done) * (sevs (.slice (some ⟨g6, o6, none⟩) l.length c6) (evs Tbl.zero l) * (dsk bd g.d * RR))))))).bl).cell 0 _ rfl⟩)
                  go_wp2_with fail
                  refine wp_region_lex (fun W => W.cell? ⟨s1, i, none⟩ = some (.int .i64 0) ∧ W.cell? ⟨g6, o6 + k * 14, none⟩ = some (.int .i64 ep2) ∧ W.cell? ⟨b, 0, none⟩ = some (.pointer (some ⟨bd, 0, none⟩))) [33] (by kernel_rfl) (by kernel_rfl) HB.out ?_
                  repeat (first | (refine LexL.none (by rfl) ?_; (try simp only [Act.put, List.setIfInBounds_toArray, List.set_cons_zero, List.set_cons_succ])) | (refine LexL.still (v := ?_) (by rfl) ?_ ?_; rotate_left; (focus (intro W hW; (try dsimp only at hW); go_simp; (try (with_reducible rfl)); done)); (try simp only [Act.put, List.setIfInBounds_toArray, List.set_cons_zero, List.set_cons_succ])))
                  refine LexL.call (f := 19) (args := #[.pointer (some ⟨bd, 0, none⟩)]) (w1 := (wi.alloc (.cells #[.int .i64 4, .int .i64 nw, .int .i64 i, .int .i64 tr, .int .i64 wk, .int .i64 tm] 28)).drew) (by rfl) (by decide) (by go_simp) ?_
                  refine (depoch_sl bd g.d _ (HX.out.drew.eq (by ac_rfl : _ = dsk bd g.d * (gblk b bd vs g.now * (bl wi.heap.size 28 [.int .i64 4, .int .i64 nw, .int .i64 i, .int .i64 tr, .int .i64 wk, .int .i64 tm] * (bl s0 26 (iv6 added) * (bl s1 26 (iv6 done) * (sevs (.slice (some ⟨g6, o6, none⟩) l.length c6) (evs Tbl.zero l) * RR)))))))).mono ?_
                  rintro e w9 ⟨rfl, rfl⟩
                  refine ⟨_, rfl, HB.out, ?_⟩
                  try simp only [Act.put, List.setIfInBounds_toArray, List.set_cons_zero, List.set_cons_succ]
                  repeat (first | (refine LexL.none (by rfl) ?_; (try simp only [Act.put, List.setIfInBounds_toArray, List.set_cons_zero, List.set_cons_succ])) | (refine LexL.still (v := ?_) (by rfl) ?_ ?_; rotate_left; (focus (intro W hW; (try dsimp only at hW); go_simp; (try (with_reducible rfl)); done)); (try simp only [Act.put, List.setIfInBounds_toArray, List.set_cons_zero, List.set_cons_succ])))
                  refine LexL.done ?_
                  have h6 := (HH.out.two.setB i (.int .i64 1)).two
                  rw [iv6_set _ hi] at h6
                  have H6 := Lib.hid ((h6.alloc (.cells #[.int .i64 4, .int .i64 nw, .int .i64 i, .int .i64 tr, .int .i64 wk, .int .i64 tm] 28)).drew); clear h6
                  have Q6 := Lib.hid (((HQ.out.setCell ⟨s1, i, none⟩ (.int .i64 1)).alloc (.cells #[.int .i64 4, .int .i64 nw, .int .i64 i, .int .i64 tr, .int .i64 wk, .int .i64 tm] 28)).drew)
                  go_wp2_with fail
                  go_roundw
                  case rel => exact ⟨k + 1, _, _, by omega, by rw [HL3.out], by go_num, H6.out, Q6.out, HON2.out⟩
                  case measure => simp [intOf]; omega
                · have hkq : (kd == 4) = false := by simpa using h4
                  have hon' := HON'.out
                  simp only [h1, h4, if_false] at hon'
                  clear h1 h4 h2
                  have HON2 := Lib.hid hon'
                  clear hon' HON'
                  have HB := Lib.hid (show (wi.alloc (.cells #[.int .i64 kd, .int .i64 nw, .int .i64 i, .int .i64 tr, .int .i64 wk, .int .i64 tm] 28)).drew.cell? ⟨s1, i, none⟩ = some (.int .i64 0) ∧ (wi.alloc (.cells #[.int .i64 kd, .int .i64 nw, .int .i64 i, .int .i64 tr, .int .i64 wk, .int .i64 tm] 28)).drew.cell? ⟨g6, o6 + k * 14, none⟩ = some (.int .i64 ep2) ∧ (wi.alloc (.cells #[.int .i64 kd, .int .i64 nw, .int .i64 i, .int .i64 tr, .int .i64 wk, .int .i64 tm] 28)).drew.cell? ⟨b, 0, none⟩ = some (.pointer (some ⟨bd, 0, none⟩)) from ⟨HX.out.drew.three.bl.cell i _ (by rw [← hd0]; exact iv6_get _ hi), (sev_cells ep2 kd nw i tr wk tm 0 a1 a2 s1' s2 s3 s4 HX.out.drew.four HEV.out).1, (show BlockAt _ b 49 (gcells bd vs g.now) from (HX.out.drew.eq (by ac_rfl : _ = gblk b bd vs g.now * (bl wi.heap.size 28 [.int .i64 kd, .int .i64 nw, .int .i64 i, .int .i64 tr, .int .i64 wk, .int .i64 tm] * (bl s0 26 (iv6 added) * (bl s1 26 (iv6 done) * (sevs (.slice (some ⟨g6, o6, none⟩) l.length c6) (evs Tbl.zero l) * (dsk bd g.d * RR))))))).bl).cell 0 _ rfl⟩)
                  go_wp2_with fail
                  refine wp_region_lex (fun W => W.cell? ⟨s1, i, none⟩ = some (.int .i64 0) ∧ W.cell? ⟨g6, o6 + k * 14, none⟩ = some (.int .i64 ep2) ∧ W.cell? ⟨b, 0, none⟩ = some (.pointer (some ⟨bd, 0, none⟩))) [33] (by kernel_rfl) (by kernel_rfl) HB.out ?_
                  repeat (first | (refine LexL.none (by rfl) ?_; (try simp only [Act.put, List.setIfInBounds_toArray, List.set_cons_zero, List.set_cons_succ])) | (refine LexL.still (v := ?_) (by rfl) ?_ ?_; rotate_left; (focus (intro W hW; (try dsimp only at hW); go_simp; (try (with_reducible rfl)); done)); (try simp only [Act.put, List.setIfInBounds_toArray, List.set_cons_zero, List.set_cons_succ])))
                  refine LexL.call (f := 19) (args := #[.pointer (some ⟨bd, 0, none⟩)]) (w1 := (wi.alloc (.cells #[.int .i64 kd, .int .i64 nw, .int .i64 i, .int .i64 tr, .int .i64 wk, .int .i64 tm] 28)).drew) (by rfl) (by decide) (by go_simp) ?_
                  refine (depoch_sl bd g.d _ (HX.out.drew.eq (by ac_rfl : _ = dsk bd g.d * (gblk b bd vs g.now * (bl wi.heap.size 28 [.int .i64 kd, .int .i64 nw, .int .i64 i, .int .i64 tr, .int .i64 wk, .int .i64 tm] * (bl s0 26 (iv6 added) * (bl s1 26 (iv6 done) * (sevs (.slice (some ⟨g6, o6, none⟩) l.length c6) (evs Tbl.zero l) * RR)))))))).mono ?_
                  rintro e w9 ⟨rfl, rfl⟩
                  refine ⟨_, rfl, HB.out, ?_⟩
                  try simp only [Act.put, List.setIfInBounds_toArray, List.set_cons_zero, List.set_cons_succ]
                  repeat (first | (refine LexL.none (by rfl) ?_; (try simp only [Act.put, List.setIfInBounds_toArray, List.set_cons_zero, List.set_cons_succ])) | (refine LexL.still (v := ?_) (by rfl) ?_ ?_; rotate_left; (focus (intro W hW; (try dsimp only at hW); go_simp; (try (with_reducible rfl)); done)); (try simp only [Act.put, List.setIfInBounds_toArray, List.set_cons_zero, List.set_cons_succ])))
                  refine LexL.done ?_
                  have h6 := HH.out
                  have H6 := Lib.hid ((h6.alloc (.cells #[.int .i64 kd, .int .i64 nw, .int .i64 i, .int .i64 tr, .int .i64 wk, .int .i64 tm] 28)).drew); clear h6
                  have Q6 := Lib.hid (((HQ.out).alloc (.cells #[.int .i64 kd, .int .i64 nw, .int .i64 i, .int .i64 tr, .int .i64 wk, .int .i64 tm] 28)).drew)
                  go_wp2_with fail
                  go_roundw
                  case rel => exact ⟨k + 1, _, _, by omega, by rw [HL3.out], by go_num, H6.out, Q6.out, HON2.out⟩
                  case measure => simp [intOf]; omega
          · obtain rfl : k = l.length := by omega
            go_wp2
            go_ret
            refine ⟨rfl, ((HH.out.eq (by rw [← HR.out]; ac_rfl : _ = (bl s0 26 (iv6 added) * (bl s1 26 (iv6 done) * (sevs (.slice a6 l.length c6) (evs Tbl.zero l) * (gblk b bd vs g.now * (dsk bd g.d * (nodes3 bd vs g.f * ownb vb g.d.b)))))) * old w)).toBelow HQ.out)⟩
end Go.Proofs.Ytfihmpkkpgmdhac
