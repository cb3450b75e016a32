/-
  GuildSerial, walked: who serves does not matter.
-/
import Derived.Test.YtfihmpkkpgmdhacGuildV
import Derived.Test.YtfihmpkkpgmdhacBoardD
import Derived.Test.YtfihmpkkpgmdhacPlain14
namespace Go.Proofs.Ytfihmpkkpgmdhac
set_option linter.unusedSimpArgs false
set_option linter.unusedVariables false
open Go.RowKit
set_option maxRecDepth 100000 in
set_option maxHeartbeats 8000000 in
theorem guildSerial_any (v : Value) (L : List Stp) (w : World) (hv : (∀ r ∈ L, ∀ n ∈ r.ints, I64' n) ∧ RowAt w v L.length (svs L)) :
    Calls Try.prog 4 #[v] w fun e w' => e = .returned (.bool true) ∧ Below w.heap.size w w' := by
  have hfldA : ∀ (a b c : Value) (W : World), (Instr.field 32 (.agg #[a, b, c]) 0).run Try.prog W = .ok a W := fun a b c W => by kernel_rfl
  obtain ⟨a, cc, rfl, c1, c2⟩ := hv.2.shape
  have HV := Lib.hid hv.2; clear hv
  go_enter Try.func4, Try.ntmps4
  go_wp2_with fail
  refine (guildBegun_any _).mono ?_
  rintro e w1 ⟨rfl, hb1⟩
  have H1 := Lib.hid ((Holds.old (w := w)).below hb1)
  have Q1 := Lib.hid (Quiet.below hb1); clear hb1
  by_cases hlen : 300 < L.length
  · go_wp2
    go_ret
    exact ⟨rfl, H1.out.toBelow' Q1.out⟩
  · go_wp2_with fail
    refine (gNew_sl _ H1.out).mono ?_
    rintro e w2 ⟨b, rfl, q2, h2⟩
    have h2 := (show Holds w2 (gld b Gld.zero * old w) from h2)
    have h3 := h2.boxB (ty := 40) (cs := tcells Tbl.zero) rfl
    obtain ⟨bb, hbb⟩ : ∃ bb, w2.heap.size = bb := ⟨_, rfl⟩
    rw [hbb] at h3
    have H2 := Lib.hid (h3.eq (by unfold tb; ac_rfl : _ = gld b Gld.zero * (tb bb 40 Tbl.zero * old w)))
    have Q2 := Lib.hid ((Q1.out.trans q2).alloc (.cells (tcells Tbl.zero).toArray 40)); clear h2 q2 h3
    go_wp2_with fail
    clear hbb
    go_loopw [5] (fun i wr => ∃ (q : Nat) (g : Gld) (l : List Rec), q ≤ L.length ∧ i = .int .i64 q ∧ Holds wr (gld b g * (tb bb 40 (behind l) * old w)) ∧ Quiet w wr ∧ g.Ok l) (fun i _ => L.length - (intOf i).toNat)
    case atStart => exact ⟨0, Gld.zero, [], by omega, rfl, H2.out, Q2.out, Gld.zero_ok⟩
    case round =>
      obtain ⟨q, g, l, hk, rfl, hh, hq, hok⟩ := hrel
      obtain ⟨wo, rfl⟩ : ∃ wo : World, wo = wr := ⟨_, rfl⟩
      have HH := Lib.hid hh; have HQ := Lib.hid hq; have HOK := Lib.hid hok; clear hh hq hok
      by_cases hlt : q < L.length
      · obtain ⟨o, ho⟩ : ∃ o, L[q]? = some o := ⟨_, List.getElem?_eq_getElem hlt⟩
        obtain ⟨ga, off, c', e, _, _, hc0⟩ := HV.out.get (by omega)
        simp only [Value.slice.injEq] at e
        obtain ⟨rfl, _, rfl⟩ := e
        have glt0 := block_lt_of_cell (svs_cell hc0 ho 0 _ (by omega) rfl)
        dsimp only at glt0
        obtain ⟨x0, x1, x2, x3, x4, x5, x6, x7, x8⟩ := stp_cells HV.out ho (HH.out.eq (HP.assoc _ _ _).symm)
        obtain ⟨kd, x, kp, ⟨kd2, nw, jb, tr, wk, tm⟩⟩ := o
        dsimp only at x0 x1 x2 x3 x4 x5 x6 x7 x8
        clear ho hc0
        have gltx : ga < wo.heap.size := by have := HQ.out.size; omega
        obtain ⟨gx, hgx⟩ : ∃ gx, wo.heap.size = gx := ⟨_, rfl⟩
        have hX := HH.out.boxB (ty := 30) (cs := [.int .i64 kd, .int .i64 x, .int .i64 kp, .int .i64 kd2, .int .i64 nw, .int .i64 jb, .int .i64 tr, .int .i64 wk, .int .i64 tm]) hgx
        obtain ⟨bd, vs, h4⟩ := gld_open hX.two
        obtain ⟨wx, hwx⟩ : ∃ wx, wo.alloc (.cells ([.int .i64 kd, .int .i64 x, .int .i64 kp, .int .i64 kd2, .int .i64 nw, .int .i64 jb, .int .i64 tr, .int .i64 wk, .int .i64 tm] : List Value).toArray 30) = wx := ⟨_, rfl⟩
        have QX := Lib.hid (HQ.out.alloc (.cells ([.int .i64 kd, .int .i64 x, .int .i64 kp, .int .i64 kd2, .int .i64 nw, .int .i64 jb, .int .i64 tr, .int .i64 wk, .int .i64 tm] : List Value).toArray 30))
        rw [hwx] at h4 QX
        have H4 := Lib.hid h4
        have cg0 := (show BlockAt wx b 49 (gcells bd vs g.now) from h4.bl).cell 0 _ rfl
        have hb15 : g.d.b.length ≤ 1500 := HOK.out.fam.ok.b
        have hll : 9 * l.length ≤ g.d.b.length := by have := allB_len g.d.b; rwa [HOK.out.wh.all] at this
        clear hX h4
        go_wp2_with fail
        clear hwx x0 x1 x2 x3 x4 x5 x6 x7 x8 glt0 gltx hgx
        refine (bytes_sl bd g.d _ H4.out.two HOK.out.fam.ok).mono ?_
        rintro e w5 ⟨vb, rfl, q5, h5⟩
        have H5 := Lib.hid h5; have Q5 := Lib.hid (QX.out.trans q5); clear h5 q5 cg0
        go_wp2_with fail
        refine (all_sl _ g.d.b _ H5.out.ownb.bytes (by omega) H5.out).mono ?_
        rw [HOK.out.wh.all]
        rintro e w6 ⟨vr, rfl, q6, h6⟩
        obtain ⟨ar, cr, rfl, _, _⟩ := h6.row.shape
        have Q6 := Lib.hid (Q5.out.trans q6)
        have H6 := Lib.hid (gld_close (g := g) (((show Holds w6 (recs (.slice ar l.length cr) l * (ownb vb g.d.b * (dsk bd g.d * (gblk b bd vs g.now * (nodes3 bd vs g.f * (bl gx 30 [.int .i64 kd, .int .i64 x, .int .i64 kp, .int .i64 kd2, .int .i64 nw, .int .i64 jb, .int .i64 tr, .int .i64 wk, .int .i64 tm] * (tb bb 40 (behind l) * old w))))))) from h6).eq (by ac_rfl : _ = recs (.slice ar l.length cr) l * (ownb vb g.d.b * (gblk b bd vs g.now * (dsk bd g.d * (nodes3 bd vs g.f * (bl gx 30 [.int .i64 kd, .int .i64 x, .int .i64 kp, .int .i64 kd2, .int .i64 nw, .int .i64 jb, .int .i64 tr, .int .i64 wk, .int .i64 tm] * (tb bb 40 (behind l) * old w)))))))).right.right))
        have co := H6.out.two.bl.cells
        have hlb : l.length ≤ 200 := by omega
        clear h6 q6 H5 Q5 H4 QX hb15 hll
        go_wp2_with fail
        refine (gStep_sl b g kd x kp kd2 nw jb tr wk tm l _ H6.out HOK.out).mono ?_
        obtain ⟨l', hs⟩ := step_ok HOK.out ⟨kd, x, kp, ⟨kd2, nw, jb, tr, wk, tm⟩⟩
        obtain ⟨⟨g', ⟨a0, a1, a2⟩⟩, hX⟩ : ∃ X, g.step ⟨kd, x, kp, ⟨kd2, nw, jb, tr, wk, tm⟩⟩ = X := ⟨_, rfl⟩
        rw [hX] at hs ⊢
        have HOK' := Lib.hid hs.ok; have HS := Lib.hid hs
        clear hs hX
        rintro e w7 ⟨rfl, q7, h7⟩
        simp only [Ans.val]
        have H7 := Lib.hid ((show Holds w7 (gld b g' * (bl gx 30 [.int .i64 kd, .int .i64 x, .int .i64 kp, .int .i64 kd2, .int .i64 nw, .int .i64 jb, .int .i64 tr, .int .i64 wk, .int .i64 tm] * (tb bb 40 (behind l) * old w))) from h7).boxB (ty := 32) (cs := [.int .i64 a0, .int .i64 a1, .int .i64 a2]) rfl)
        have Q7 := Lib.hid ((Q6.out.trans q7).alloc (.cells #[.int .i64 a0, .int .i64 a1, .int .i64 a2] 32))
        obtain ⟨gy, hgy⟩ : ∃ gy, w7.heap.size = gy := ⟨_, rfl⟩
        obtain ⟨w8, hw8⟩ : ∃ w8, w7.alloc (.cells #[.int .i64 a0, .int .i64 a1, .int .i64 a2] 32) = w8 := ⟨_, rfl⟩
        rw [hgy, show w7.alloc (.cells ([.int .i64 a0, .int .i64 a1, .int .i64 a2] : List Value).toArray 32) = w8 from hw8] at H7
        rw [hw8] at Q7
        obtain ⟨bd', vs', h9⟩ := gld_open H7.out.two
        have H9 := Lib.hid h9
        have cg0 := (show BlockAt w8 b 49 (gcells bd' vs' g'.now) from h9.bl).cell 0 _ rfl
        have hb15 : g'.d.b.length ≤ 1500 := HOK'.out.fam.ok.b
        have hll : 9 * l'.length ≤ g'.d.b.length := by have := allB_len g'.d.b; rwa [HOK'.out.wh.all] at this
        have hlb' : l'.length ≤ 200 := by omega
        clear h7 q7 H6 Q6 co h9 H7
        go_wp2_with fail
        clear hw8 hgy
        refine (bytes_sl bd' g'.d _ H9.out.two HOK'.out.fam.ok).mono ?_
        rintro e w10 ⟨vc, rfl, q10, h10⟩
        have H10 := Lib.hid h10; have Q10 := Lib.hid (Q7.out.trans q10); clear h10 q10 cg0
        go_wp2_with fail
        refine (all_sl _ g'.d.b _ H10.out.ownb.bytes (by omega) H10.out).mono ?_
        rw [HOK'.out.wh.all]
        rintro e w11 ⟨vr2, rfl, q11, h11⟩
        obtain ⟨ar2, cr2, rfl, _, _⟩ := h11.row.shape
        have Q11 := Lib.hid (Q10.out.trans q11)
        have h12 := ((show Holds w11 (recs (.slice ar2 l'.length cr2) l' * (ownb vc g'.d.b * (dsk bd' g'.d * (gblk b bd' vs' g'.now * (nodes3 bd' vs' g'.f * (bl gy 32 [.int .i64 a0, .int .i64 a1, .int .i64 a2] * (bl gx 30 [.int .i64 kd, .int .i64 x, .int .i64 kp, .int .i64 kd2, .int .i64 nw, .int .i64 jb, .int .i64 tr, .int .i64 wk, .int .i64 tm] * (tb bb 40 (behind l) * old w)))))))) from h11).eq (by ac_rfl : _ = recs (.slice ar2 l'.length cr2) l' * (ownb vc g'.d.b * (gblk b bd' vs' g'.now * (dsk bd' g'.d * (nodes3 bd' vs' g'.f * (bl gy 32 [.int .i64 a0, .int .i64 a1, .int .i64 a2] * (bl gx 30 [.int .i64 kd, .int .i64 x, .int .i64 kp, .int .i64 kd2, .int .i64 nw, .int .i64 jb, .int .i64 tr, .int .i64 wk, .int .i64 tm] * (tb bb 40 (behind l) * old w))))))))).right.right
        have H12 := Lib.hid h12
        clear h11 q11 H10 Q10 H9 Q7 h12 hb15 hll
        obtain ⟨now', hnow⟩ : ∃ n, g'.now = n := ⟨_, rfl⟩
        have HNOW := Lib.hid hnow
        rw [hnow] at H12
        go_wp2_with fail
        refine (gNow_sl b bd' vs' now' _ H12.out).mono ?_
        rintro e w13 ⟨rfl, rfl⟩
        have h13 := ((H12.out.eq (by ac_rfl : _ = bl gx 30 [.int .i64 kd, .int .i64 x, .int .i64 kp, .int .i64 kd2, .int .i64 nw, .int .i64 jb, .int .i64 tr, .int .i64 wk, .int .i64 tm] * (bl gy 32 [.int .i64 a0, .int .i64 a1, .int .i64 a2] * (gblk b bd' vs' now' * (dsk bd' g'.d * (nodes3 bd' vs' g'.f * (tb bb 40 (behind l) * old w))))))).setB 4 (.int .i64 now'))
        obtain ⟨W, hW⟩ : ∃ W, w11.setCell ⟨gx, 4, none⟩ (.int .i64 now') = W := ⟨_, rfl⟩
        have H13 := Lib.hid (show Holds W (bl gx 30 [.int .i64 kd, .int .i64 x, .int .i64 kp, .int .i64 kd2, .int .i64 now', .int .i64 jb, .int .i64 tr, .int .i64 wk, .int .i64 tm] * (bl gy 32 [.int .i64 a0, .int .i64 a1, .int .i64 a2] * (gblk b bd' vs' now' * (dsk bd' g'.d * (nodes3 bd' vs' g'.f * (tb bb 40 (behind l) * old w)))))) from by rw [← hW]; exact h13)
        have Q13 := Lib.hid (show Quiet w W from by rw [← hW]; exact Q11.out.setCell _ _)
        have cX := (H12.out.eq (by ac_rfl : _ = bl gx 30 [.int .i64 kd, .int .i64 x, .int .i64 kp, .int .i64 kd2, .int .i64 nw, .int .i64 jb, .int .i64 tr, .int .i64 wk, .int .i64 tm] * (bl gy 32 [.int .i64 a0, .int .i64 a1, .int .i64 a2] * (gblk b bd' vs' now' * (dsk bd' g'.d * (nodes3 bd' vs' g'.f * (tb bb 40 (behind l) * old w))))))).bl.cells
        have fX := (H12.out.eq (by ac_rfl : _ = bl gx 30 [.int .i64 kd, .int .i64 x, .int .i64 kp, .int .i64 kd2, .int .i64 nw, .int .i64 jb, .int .i64 tr, .int .i64 wk, .int .i64 tm] * (bl gy 32 [.int .i64 a0, .int .i64 a1, .int .i64 a2] * (gblk b bd' vs' now' * (dsk bd' g'.d * (nodes3 bd' vs' g'.f * (tb bb 40 (behind l) * old w))))))).bl.frees
        have lX := (H12.out.eq (by ac_rfl : _ = bl gx 30 [.int .i64 kd, .int .i64 x, .int .i64 kp, .int .i64 kd2, .int .i64 nw, .int .i64 jb, .int .i64 tr, .int .i64 wk, .int .i64 tm] * (bl gy 32 [.int .i64 a0, .int .i64 a1, .int .i64 a2] * (gblk b bd' vs' now' * (dsk bd' g'.d * (nodes3 bd' vs' g'.f * (tb bb 40 (behind l) * old w))))))).bl.lt
        have cX' := H13.out.bl.cells
        have cY' := H13.out.two.bl.cells
        clear h13 H12 Q11
        have hwl : IntKind.i64.wrap ((l.length : Int) + 1) = (l.length : Int) + 1 := by rw [IntKind.wrap_i64]; omega
        by_cases hk2 : kd = 2
        · subst hk2
          have hn2 : now' = g.now := by rw [← HNOW.out]; exact HS.out.now (by dsimp only; omega)
          by_cases ha : a0 = 0
          · subst ha
            obtain ⟨⟨nd, hnd, hepn, hl'⟩, hA⟩ := HS.out.order rfl rfl
            have hbeh : ((behind l).did ⟨kd2, now', jb, tr, wk, tm⟩) = (behind l', ⟨0, a1, a2⟩) := by
              rw [hl', behind_snoc, hn2]
              exact Prod.ext rfl hA.symm
            have hlen' : (l'.length : Int) = (l.length : Int) + 1 := by rw [hl']; simp
            have hlb2 : ((l'.length : Int) != (l.length : Int) + 1) = false := by simpa using hlen'
            have HBE := Lib.hid hbeh
            clear hnd hepn hl' hA hbeh hlen' hn2
            go_wp2_with fail
            try rw [hW]
            clear hW cX fX lX
            refine wp_region_lex (fun W => (∀ o, W.cell? ⟨gx, o, none⟩ = ([.int .i64 2, .int .i64 x, .int .i64 kp, .int .i64 kd2, .int .i64 now', .int .i64 jb, .int .i64 tr, .int .i64 wk, .int .i64 tm] : List Value)[o]?) ∧ ∀ o, W.cell? ⟨gy, o, none⟩ = ([.int .i64 0, .int .i64 a1, .int .i64 a2] : List Value)[o]?) [3] (by kernel_rfl) (by kernel_rfl) ⟨cX', cY'⟩ ?_
            repeat (first | (refine LexL.none (by rfl) ?_; (try simp only [Act.put, List.setIfInBounds_toArray, List.set_cons_zero, List.set_cons_succ])) | (refine LexL.still (v := ?_) (by rfl) ?_ ?_; rotate_left; (focus (intro W hW; (try dsimp only at hW); go_simp; (try (with_reducible rfl)); done)); (try simp only [Act.put, List.setIfInBounds_toArray, List.set_cons_zero, List.set_cons_succ])))
            refine LexL.call (f := 15) (args := #[.pointer (some ⟨bb, 0, none⟩), .agg #[.int .i64 kd2, .int .i64 now', .int .i64 jb, .int .i64 tr, .int .i64 wk, .int .i64 tm]]) (w1 := W.drew) (by rfl) (by decide) (by go_simp) ?_
            refine (bdo_sl bb (behind l) kd2 now' jb tr wk tm _ (H13.out.drew.eq (by ac_rfl : _ = tb bb 40 (behind l) * (bl gx 30 [.int .i64 2, .int .i64 x, .int .i64 kp, .int .i64 kd2, .int .i64 now', .int .i64 jb, .int .i64 tr, .int .i64 wk, .int .i64 tm] * (bl gy 32 [.int .i64 0, .int .i64 a1, .int .i64 a2] * (gblk b bd' vs' now' * (dsk bd' g'.d * (nodes3 bd' vs' g'.f * old w))))))) (behind_in l).ok).mono ?_
            rw [HBE.out]
            rintro e w14 ⟨rfl, q14, h14⟩
            have H14 := Lib.hid (show Holds w14 (tb bb 40 (behind l') * (bl gx 30 [.int .i64 2, .int .i64 x, .int .i64 kp, .int .i64 kd2, .int .i64 now', .int .i64 jb, .int .i64 tr, .int .i64 wk, .int .i64 tm] * (bl gy 32 [.int .i64 0, .int .i64 a1, .int .i64 a2] * (gblk b bd' vs' now' * (dsk bd' g'.d * (nodes3 bd' vs' g'.f * old w)))))) from h14)
            have Q14 := Lib.hid (Q13.out.drew.trans q14)
            refine ⟨_, rfl, ⟨H14.out.two.bl.cells, H14.out.three.bl.cells⟩, ?_⟩
            clear h14 q14 cX' cY'
            dsimp only
            try simp only [Act.put, List.setIfInBounds_toArray, List.set_cons_zero, List.set_cons_succ]
            repeat (first | (refine LexL.none (by rfl) ?_; (try simp only [Act.put, List.setIfInBounds_toArray, List.set_cons_zero, List.set_cons_succ])) | (refine LexL.still (v := ?_) (by rfl) ?_ ?_; rotate_left; (focus (intro W hW; (try dsimp only at hW); go_simp; (try (with_reducible rfl)); done)); (try simp only [Act.put, List.setIfInBounds_toArray, List.set_cons_zero, List.set_cons_succ])))
            refine LexL.done ?_
            go_wp2_with fail
            go_roundw
            case rel => exact ⟨q + 1, g', l', by omega, by go_num, gld_close (H14.out.eq (by rw [HNOW.out]; ac_rfl : _ = bl gx 30 [.int .i64 2, .int .i64 x, .int .i64 kp, .int .i64 kd2, .int .i64 now', .int .i64 jb, .int .i64 tr, .int .i64 wk, .int .i64 tm] * (bl gy 32 [.int .i64 0, .int .i64 a1, .int .i64 a2] * (gblk b bd' vs' g'.now * (dsk bd' g'.d * (nodes3 bd' vs' g'.f * (tb bb 40 (behind l') * old w))))))).right.right, Q14.out, HOK'.out⟩
            case measure => simp [intOf]; omega
          · obtain ⟨hl', hj0, ht0⟩ := HS.out.code rfl ha
            obtain rfl : l' = l := hl'
            dsimp only at hj0 ht0
            subst hj0 ht0
            have hab : (a0 == 0) = false := by simpa using ha
            have hrefu := HS.out.refused rfl ha
            dsimp only at hrefu
            have HRF := Lib.hid hrefu; clear hrefu
            have hgn := gNode_sl b bd' vs' now' x W (H13.out.eq (by ac_rfl : _ = gblk b bd' vs' now' * (bl gx 30 [.int .i64 2, .int .i64 x, .int .i64 kp, .int .i64 kd2, .int .i64 now', .int .i64 jb, .int .i64 tr, .int .i64 wk, .int .i64 tm] * (bl gy 32 [.int .i64 a0, .int .i64 0, .int .i64 0] * (dsk bd' g'.d * (nodes3 bd' vs' g'.f * (tb bb 40 (behind l') * old w)))))))
            cases hnod : g'.nod x with
            | none =>
              have hgat : gAt vs' x = .pointer none := by
                unfold gAt
                unfold Gld.nod at hnod
                by_cases hr : x < 0 ∨ 3 ≤ x
                · rw [if_pos hr]
                · rw [if_neg hr] at hnod ⊢
                  exact pick_none (H13.out.eq (by ac_rfl : _ = (bl gx 30 [.int .i64 2, .int .i64 x, .int .i64 kp, .int .i64 kd2, .int .i64 now', .int .i64 jb, .int .i64 tr, .int .i64 wk, .int .i64 tm] * bl gy 32 [.int .i64 a0, .int .i64 0, .int .i64 0]) * ((gblk b bd' vs' now' * dsk bd' g'.d) * (nodes3 bd' vs' g'.f * (tb bb 40 (behind l') * old w))))) (by omega) hnod
              rw [hgat] at hgn
              have HGN := Lib.hid hgn
              clear hgn hgat hnod hn2 ha
              go_wp2_with fail
              try rw [hW]
              clear hW cX fX lX
              refine HGN.out.mono ?_
              rintro e w14 ⟨rfl, rfl⟩
              go_wp2_with fail
              go_roundw
              case rel => exact ⟨q + 1, g', l', by omega, by go_num, (gld_close (H13.out.eq (by rw [HNOW.out]; try ac_rfl : _ = bl gx 30 [.int .i64 2, .int .i64 x, .int .i64 kp, .int .i64 kd2, .int .i64 now', .int .i64 jb, .int .i64 tr, .int .i64 wk, .int .i64 tm] * (bl gy 32 [.int .i64 a0, .int .i64 0, .int .i64 0] * (gblk b bd' vs' g'.now * (dsk bd' g'.d * (nodes3 bd' vs' g'.f * (tb bb 40 (behind l') * old w))))))).right.right), Q13.out, HOK'.out⟩
              case measure => simp [intOf]; omega
            | some nd =>
              obtain ⟨hx1, hx2, hx3, hx4⟩ := nod_some hnod
              obtain ⟨bn, hvk, hp⟩ := pick_some (H13.out.eq (by ac_rfl : _ = (bl gx 30 [.int .i64 2, .int .i64 x, .int .i64 kp, .int .i64 kd2, .int .i64 now', .int .i64 jb, .int .i64 tr, .int .i64 wk, .int .i64 tm] * bl gy 32 [.int .i64 a0, .int .i64 0, .int .i64 0]) * ((gblk b bd' vs' now' * dsk bd' g'.d) * (nodes3 bd' vs' g'.f * (tb bb 40 (behind l') * old w))))) hx1 hx2
              have hgat : gAt vs' x = .pointer (some ⟨bn, 0, none⟩) := by
                unfold gAt
                rw [if_neg (by omega)]
                exact hvk
              rw [hgat] at hgn
              have HGN := Lib.hid hgn; have HND := Lib.hid hnod; have HP' := Lib.hid hp
              clear hgn hgat hnod hx1 hx2 hx3 hx4 hvk hp
              obtain ⟨nt, nep, ndn⟩ := nd
              cases ndn with
              | true =>
                clear hn2 ha
                go_wp2_with fail
                try rw [hW]
                clear hW cX fX lX
                refine HGN.out.mono ?_
                rintro e w14 ⟨rfl, rfl⟩
                go_wp2_with fail
                refine (nDown_sl bn bd' _ _ HP'.out).mono ?_
                rintro e w14 ⟨rfl, rfl⟩
                dsimp only
                go_wp2_with fail
                go_roundw
                case rel => exact ⟨q + 1, g', l', by omega, by go_num, (gld_close (H13.out.eq (by rw [HNOW.out]; try ac_rfl : _ = bl gx 30 [.int .i64 2, .int .i64 x, .int .i64 kp, .int .i64 kd2, .int .i64 now', .int .i64 jb, .int .i64 tr, .int .i64 wk, .int .i64 tm] * (bl gy 32 [.int .i64 a0, .int .i64 0, .int .i64 0] * (gblk b bd' vs' g'.now * (dsk bd' g'.d * (nodes3 bd' vs' g'.f * (tb bb 40 (behind l') * old w))))))).right.right), Q13.out, HOK'.out⟩
                case measure => simp [intOf]; omega
              | false =>
                by_cases h8 : a0 = 8
                · have h8b : (a0 != 8) = false := by simpa using h8
                  clear hn2 ha h8
                  go_wp2_with fail
                  try rw [hW]
                  clear hW cX fX lX
                  refine HGN.out.mono ?_
                  rintro e w14 ⟨rfl, rfl⟩
                  go_wp2_with fail
                  refine (nDown_sl bn bd' _ _ HP'.out).mono ?_
                  rintro e w14 ⟨rfl, rfl⟩
                  dsimp only
                  go_wp2_with fail
                  go_roundw
                  case rel => exact ⟨q + 1, g', l', by omega, by go_num, (gld_close (H13.out.eq (by rw [HNOW.out]; try ac_rfl : _ = bl gx 30 [.int .i64 2, .int .i64 x, .int .i64 kp, .int .i64 kd2, .int .i64 now', .int .i64 jb, .int .i64 tr, .int .i64 wk, .int .i64 tm] * (bl gy 32 [.int .i64 a0, .int .i64 0, .int .i64 0] * (gblk b bd' vs' g'.now * (dsk bd' g'.d * (nodes3 bd' vs' g'.f * (tb bb 40 (behind l') * old w))))))).right.right), Q13.out, HOK'.out⟩
                  case measure => simp [intOf]; omega
                · have h8b : (a0 != 8) = true := by simpa using h8
                  have hA := HRF.out h8 _ HND.out rfl
                  obtain ⟨T', hT'⟩ : ∃ T', ((behind l').did ⟨kd2, now', jb, tr, wk, tm⟩) = (T', ⟨a0, 0, 0⟩) := by
                    rw [hn2]
                    exact ⟨((behind l').did ⟨kd2, g.now, jb, tr, wk, tm⟩).1, Prod.ext rfl hA.symm⟩
                  have hdid := fun W => bdid_any (behind l') kd2 now' jb tr wk tm W (behind_in l').ok
                  rw [hT'] at hdid
                  have HD := Lib.hid hdid
                  clear hn2 ha h8 hA hT' hdid
                  go_wp2_with fail
                  try rw [hW]
                  clear hW cX fX lX
                  refine HGN.out.mono ?_
                  rintro e w14 ⟨rfl, rfl⟩
                  go_wp2_with fail
                  refine (nDown_sl bn bd' _ _ HP'.out).mono ?_
                  rintro e w14 ⟨rfl, rfl⟩
                  dsimp only
                  go_wp2_with fail
                  have HZ := Lib.hid (H13.out.drew.eq (by ac_rfl : _ = bl gx 30 [.int .i64 2, .int .i64 x, .int .i64 kp, .int .i64 kd2, .int .i64 now', .int .i64 jb, .int .i64 tr, .int .i64 wk, .int .i64 tm] * (bl gy 32 [.int .i64 a0, .int .i64 0, .int .i64 0] * (tb bb 40 (behind l') * (gblk b bd' vs' now' * (dsk bd' g'.d * (nodes3 bd' vs' g'.f * old w)))))))
                  refine wp_region_lexH (fun W => BlockAt W bb 40 (tcells (behind l')) ∧ BlockAt W gx 30 [.int .i64 2, .int .i64 x, .int .i64 kp, .int .i64 kd2, .int .i64 now', .int .i64 jb, .int .i64 tr, .int .i64 wk, .int .i64 tm]) [5, 11, 12] [9, 10] (fz2 9 40 (tcells Tbl.zero) 10 32 [.int .i64 0, .int .i64 0, .int .i64 0]) _ (by kernel_rfl) (by kernel_rfl) (by kernel_rfl) fz2_fl fz2_no (fz2_ok rfl ⟨rfl, fun a w => by kernel_rfl⟩ rfl ⟨rfl, fun a w => by kernel_rfl⟩) (fun W o h => ⟨h.1.alloc o, h.2.alloc o⟩) ⟨HZ.out.three.bl, HZ.out.bl⟩ HZ.out ?_
                  repeat (first | (refine LexHL.still (v := ?_) (by rfl) (by rfl) ?_ ?_; rotate_left; (focus (intro W hW; (try dsimp only at hW); go_simp; (try (with_reducible rfl)); done)); (try simp only [Act.put, List.setIfInBounds_toArray, List.set_cons_zero, List.set_cons_succ])))
                  refine LexHL.load 40 (.tmp 89) rfl bb 0 rfl (tcells (behind l')) (fun W h => h.1) (by simp) Try.underlying40 rfl (by kernel_rfl) rfl rfl ?_
                  try simp only [Act.put, List.setIfInBounds_toArray, List.set_cons_zero, List.set_cons_succ]
                  repeat (first | (refine LexHL.still (v := ?_) (by rfl) (by rfl) ?_ ?_; rotate_left; (focus (intro W hW; (try dsimp only at hW); go_simp; (try (with_reducible rfl)); done)); (try simp only [Act.put, List.setIfInBounds_toArray, List.set_cons_zero, List.set_cons_succ])))
                  refine LexHL.load 28 (.tmp 91) rfl gx 3 rfl [.int .i64 kd2, .int .i64 now', .int .i64 jb, .int .i64 tr, .int .i64 wk, .int .i64 tm] (fun W h => h.2) (by simp) Try.underlying28 rfl (by kernel_rfl) rfl rfl ?_
                  try simp only [Act.put, List.setIfInBounds_toArray, List.set_cons_zero, List.set_cons_succ]
                  refine LexHL.call (f := 18) (args := #[.agg (tcells (behind l')).toArray, .agg #[.int .i64 kd2, .int .i64 now', .int .i64 jb, .int .i64 tr, .int .i64 wk, .int .i64 tm]]) rfl rfl (by decide) (fun W _ => by go_simp) ?_
                  intro W1 R1 hS hq hA
                  refine (HD.out W1).mono ?_
                  rintro e w15 ⟨rfl, hb2⟩
                  have hA2 := hA.below hb2
                  refine ⟨_, rfl, ⟨hS.1.below hb2 hS.1.lt, hS.2.below hb2 hS.2.lt⟩, hq.trans (Quiet.below hb2), _, hA2, ?_⟩
                  clear hS hq hA hb2 hA2
                  dsimp only
                  repeat (first | (refine LexHL.still (v := ?_) (by rfl) (by rfl) ?_ ?_; rotate_left; (focus (intro W hW; (try dsimp only at hW); go_simp; (try (with_reducible rfl)); done)); (try simp only [Act.put, List.setIfInBounds_toArray, List.set_cons_zero, List.set_cons_succ])))
                  refine LexHL.made rfl ?_
                  intro q1 hlv
                  clear hlv
                  try simp only [Act.put, List.setIfInBounds_toArray, List.set_cons_zero, List.set_cons_succ]
                  refine LexHL.made rfl ?_
                  intro q2 hlv
                  clear hlv
                  try simp only [Act.put, List.setIfInBounds_toArray, List.set_cons_zero, List.set_cons_succ]
                  refine LexHL.storeB (q := q1) (t := 40) (cs := tcells Tbl.zero) (B := bl q2 32 [.int .i64 0, .int .i64 0, .int .i64 0] * (bl gx 30 [.int .i64 2, .int .i64 x, .int .i64 kp, .int .i64 kd2, .int .i64 now', .int .i64 jb, .int .i64 tr, .int .i64 wk, .int .i64 tm] * (bl gy 32 [.int .i64 a0, .int .i64 0, .int .i64 0] * (tb bb 40 (behind l') * (gblk b bd' vs' now' * (dsk bd' g'.d * (nodes3 bd' vs' g'.f * old w))))))) 40 _ _ rfl (tcells T') rfl rfl (by simp [tcells_len]) (by kernel_rfl) (tcells_ones T') rfl rfl (by decide) (by ac_rfl) (fun W R2 h => ⟨(h.eq (by ac_rfl : _ = tb bb 40 (behind l') * (bl q1 40 (tcells T') * (bl q2 32 [.int .i64 0, .int .i64 0, .int .i64 0] * (bl gx 30 [.int .i64 2, .int .i64 x, .int .i64 kp, .int .i64 kd2, .int .i64 now', .int .i64 jb, .int .i64 tr, .int .i64 wk, .int .i64 tm] * (bl gy 32 [.int .i64 a0, .int .i64 0, .int .i64 0] * ((gblk b bd' vs' now' * (dsk bd' g'.d * (nodes3 bd' vs' g'.f * old w))) * R2))))))).bl, (h.eq (by ac_rfl : _ = bl gx 30 [.int .i64 2, .int .i64 x, .int .i64 kp, .int .i64 kd2, .int .i64 now', .int .i64 jb, .int .i64 tr, .int .i64 wk, .int .i64 tm] * (bl q1 40 (tcells T') * (bl q2 32 [.int .i64 0, .int .i64 0, .int .i64 0] * (tb bb 40 (behind l') * (bl gy 32 [.int .i64 a0, .int .i64 0, .int .i64 0] * ((gblk b bd' vs' now' * (dsk bd' g'.d * (nodes3 bd' vs' g'.f * old w))) * R2))))))).bl⟩) ?_
                  try simp only [Act.put, List.setIfInBounds_toArray, List.set_cons_zero, List.set_cons_succ]
                  refine LexHL.storeB (q := q2) (t := 32) (cs := [.int .i64 0, .int .i64 0, .int .i64 0]) (B := bl q1 40 (tcells T') * (bl gx 30 [.int .i64 2, .int .i64 x, .int .i64 kp, .int .i64 kd2, .int .i64 now', .int .i64 jb, .int .i64 tr, .int .i64 wk, .int .i64 tm] * (bl gy 32 [.int .i64 a0, .int .i64 0, .int .i64 0] * (tb bb 40 (behind l') * (gblk b bd' vs' now' * (dsk bd' g'.d * (nodes3 bd' vs' g'.f * old w))))))) 32 _ _ rfl [.int .i64 a0, .int .i64 0, .int .i64 0] rfl rfl rfl (by kernel_rfl) (by simp [Ones, Value.oneCell']) rfl rfl (by decide) (by ac_rfl) (fun W R2 h => ⟨(h.eq (by ac_rfl : _ = tb bb 40 (behind l') * (bl q1 40 (tcells T') * (bl q2 32 [.int .i64 a0, .int .i64 0, .int .i64 0] * (bl gx 30 [.int .i64 2, .int .i64 x, .int .i64 kp, .int .i64 kd2, .int .i64 now', .int .i64 jb, .int .i64 tr, .int .i64 wk, .int .i64 tm] * (bl gy 32 [.int .i64 a0, .int .i64 0, .int .i64 0] * ((gblk b bd' vs' now' * (dsk bd' g'.d * (nodes3 bd' vs' g'.f * old w))) * R2))))))).bl, (h.eq (by ac_rfl : _ = bl gx 30 [.int .i64 2, .int .i64 x, .int .i64 kp, .int .i64 kd2, .int .i64 now', .int .i64 jb, .int .i64 tr, .int .i64 wk, .int .i64 tm] * (bl q1 40 (tcells T') * (bl q2 32 [.int .i64 a0, .int .i64 0, .int .i64 0] * (tb bb 40 (behind l') * (bl gy 32 [.int .i64 a0, .int .i64 0, .int .i64 0] * ((gblk b bd' vs' now' * (dsk bd' g'.d * (nodes3 bd' vs' g'.f * old w))) * R2))))))).bl⟩) ?_
                  try simp only [Act.put, List.setIfInBounds_toArray, List.set_cons_zero, List.set_cons_succ]
                  refine LexHL.done ?_
                  intro W2 hS hA hq
                  have H16 := Lib.hid (hA.eq (by ac_rfl : _ = bl q2 32 [.int .i64 a0, .int .i64 0, .int .i64 0] * (bl gy 32 [.int .i64 a0, .int .i64 0, .int .i64 0] * (bl q1 40 (tcells T') * (bl gx 30 [.int .i64 2, .int .i64 x, .int .i64 kp, .int .i64 kd2, .int .i64 now', .int .i64 jb, .int .i64 tr, .int .i64 wk, .int .i64 tm] * (tb bb 40 (behind l') * (gblk b bd' vs' now' * (dsk bd' g'.d * (nodes3 bd' vs' g'.f * old w)))))))))
                  have Q16 := Lib.hid (Q13.out.drew.trans hq)
                  have c16 := H16.out.bl.cells
                  have d16 := H16.out.two.bl.cells
                  clear hS hA hq cX' cY'
                  go_wp2_with fail
                  go_roundw
                  case rel => exact ⟨q + 1, g', l', by omega, by go_num, gld_close (H16.out.eq (by rw [HNOW.out]; ac_rfl : _ = bl q2 32 [.int .i64 a0, .int .i64 0, .int .i64 0] * (bl q1 40 (tcells T') * (bl gx 30 [.int .i64 2, .int .i64 x, .int .i64 kp, .int .i64 kd2, .int .i64 now', .int .i64 jb, .int .i64 tr, .int .i64 wk, .int .i64 tm] * (bl gy 32 [.int .i64 a0, .int .i64 0, .int .i64 0] * (gblk b bd' vs' g'.now * (dsk bd' g'.d * (nodes3 bd' vs' g'.f * (tb bb 40 (behind l') * old w))))))))).right.right.right.right, Q16.out, HOK'.out⟩
                  case measure => simp [intOf]; omega
        · have hk2b : (kd == 2) = false := by simpa using hk2
          rcases HS.out.grew with hl' | ⟨nd, hkd, hnd, hepn, hdc, hchk, ha0, hl'⟩
          · obtain rfl : l' = l := hl'
            by_cases hk3 : kd = 3
            · subst hk3
              have hne1 : ((l'.length : Int) == (l'.length : Int) + 1) = false := by simp; omega
              have hne2 : decide ((l'.length : Int) + 1 < (l'.length : Int)) = false := by simp; omega
              clear hk2
              go_wp2_with fail
              go_roundw
              case rel => exact ⟨q + 1, g', l', by omega, by go_num, (gld_close (H13.out.eq (by rw [HNOW.out]; try ac_rfl : _ = bl gx 30 [.int .i64 3, .int .i64 x, .int .i64 kp, .int .i64 kd2, .int .i64 now', .int .i64 jb, .int .i64 tr, .int .i64 wk, .int .i64 tm] * (bl gy 32 [.int .i64 a0, .int .i64 a1, .int .i64 a2] * (gblk b bd' vs' g'.now * (dsk bd' g'.d * (nodes3 bd' vs' g'.f * (tb bb 40 (behind l') * old w))))))).right.right), Q13.out, HOK'.out⟩
              case measure => simp [intOf]; omega
            · have hk3b : (kd == 3) = false := by simpa using hk3
              clear hk2 hk3
              go_wp2_with fail
              go_roundw
              case rel => exact ⟨q + 1, g', l', by omega, by go_num, (gld_close (H13.out.eq (by rw [HNOW.out]; try ac_rfl : _ = bl gx 30 [.int .i64 kd, .int .i64 x, .int .i64 kp, .int .i64 kd2, .int .i64 now', .int .i64 jb, .int .i64 tr, .int .i64 wk, .int .i64 tm] * (bl gy 32 [.int .i64 a0, .int .i64 a1, .int .i64 a2] * (gblk b bd' vs' g'.now * (dsk bd' g'.d * (nodes3 bd' vs' g'.f * (tb bb 40 (behind l') * old w))))))).right.right), Q13.out, HOK'.out⟩
              case measure => simp [intOf]; omega
          · dsimp only at hkd hdc ha0
            obtain rfl : kd = 3 := by omega
            subst ha0
            have hn2 : now' = g.now := by rw [← HNOW.out]; exact HS.out.now (by dsimp only; omega)
            obtain ⟨⟨d0, d1, d2⟩, hbeh⟩ : ∃ A : Ans, ((behind l).did ⟨kd2, now', jb, tr, wk, tm⟩) = (behind l', A) := by
              rw [hl', behind_snoc, hn2]
              exact ⟨_, rfl⟩
            have hd0 : d0 = 0 := by
              have h1 := congrArg (fun z : Tbl × Ans => z.2.code) hbeh
              dsimp only at h1
              rw [← h1, hn2]
              exact hdc
            subst hd0
            have hlen' : (l'.length : Int) = (l.length : Int) + 1 := by rw [hl']; simp
            have hlb2 : ((l'.length : Int) == (l.length : Int) + 1) = true := by simpa using hlen'
            have hlb3 : decide ((l.length : Int) + 1 < (l'.length : Int)) = false := by simp; omega
            have HBE := Lib.hid hbeh
            clear hnd hepn hl' hdc hchk hbeh hlen' hn2 hkd hk2
            go_wp2_with fail
            try rw [hW]
            clear hW cX fX lX
            refine (bdo_sl bb (behind l) kd2 now' jb tr wk tm _ (H13.out.eq (by ac_rfl : _ = tb bb 40 (behind l) * (bl gx 30 [.int .i64 3, .int .i64 x, .int .i64 kp, .int .i64 kd2, .int .i64 now', .int .i64 jb, .int .i64 tr, .int .i64 wk, .int .i64 tm] * (bl gy 32 [.int .i64 0, .int .i64 a1, .int .i64 a2] * (gblk b bd' vs' now' * (dsk bd' g'.d * (nodes3 bd' vs' g'.f * old w))))))) (behind_in l).ok).mono ?_
            rw [HBE.out]
            rintro e w14 ⟨rfl, q14, h14⟩
            have H14 := Lib.hid (show Holds w14 (tb bb 40 (behind l') * (bl gx 30 [.int .i64 3, .int .i64 x, .int .i64 kp, .int .i64 kd2, .int .i64 now', .int .i64 jb, .int .i64 tr, .int .i64 wk, .int .i64 tm] * (bl gy 32 [.int .i64 0, .int .i64 a1, .int .i64 a2] * (gblk b bd' vs' now' * (dsk bd' g'.d * (nodes3 bd' vs' g'.f * old w)))))) from h14)
            have Q14 := Lib.hid (Q13.out.trans q14)
            clear h14 q14 cX' cY'
            dsimp only
            go_wp2_with fail
            go_roundw
            case rel => exact ⟨q + 1, g', l', by omega, by go_num, gld_close (H14.out.eq (by rw [HNOW.out]; ac_rfl : _ = bl gx 30 [.int .i64 3, .int .i64 x, .int .i64 kp, .int .i64 kd2, .int .i64 now', .int .i64 jb, .int .i64 tr, .int .i64 wk, .int .i64 tm] * (bl gy 32 [.int .i64 0, .int .i64 a1, .int .i64 a2] * (gblk b bd' vs' g'.now * (dsk bd' g'.d * (nodes3 bd' vs' g'.f * (tb bb 40 (behind l') * old w))))))).right.right, Q14.out, HOK'.out⟩
            case measure => simp [intOf]; omega
      · obtain rfl : q = L.length := by omega
        go_wp2
        go_ret
        exact ⟨rfl, ((HH.out.eq (by ac_rfl : _ = (gld b g * tb bb 40 (behind l)) * old w)).toBelow HQ.out)⟩
end Go.Proofs.Ytfihmpkkpgmdhac
