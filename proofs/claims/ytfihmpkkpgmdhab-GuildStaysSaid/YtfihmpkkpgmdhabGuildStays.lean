/-
  GuildStays, walked: what stands on the disk stays.
-/
import Derived.Test.YtfihmpkkpgmdhabGuildV
namespace Go.Proofs.Ytfihmpkkpgmdhab
set_option linter.unusedSimpArgs false
set_option linter.unusedVariables false
open Go.RowKit
set_option maxRecDepth 100000 in
set_option maxHeartbeats 8000000 in
theorem guildStays_any (v : Value) (L : List Stp) (w : World) (hv : (∀ r ∈ L, ∀ n ∈ r.ints, I64' n) ∧ RowAt w v L.length (svs L)) :
    Calls Try.prog 14 #[v] w fun e w' => e = .returned (.bool true) ∧ Below w.heap.size w w' := by
  obtain ⟨a, cc, rfl, c1, c2⟩ := hv.2.shape
  have HV := Lib.hid hv.2; clear hv
  go_enter Try.func14, Try.ntmps14
  go_wp2_with fail
  refine (guildBegun_any _).mono ?_
  rintro e w1 ⟨rfl, hb1⟩
  have H1 := Lib.hid ((Holds.old (w := w)).below hb1)
  have Q1 := Lib.hid (Quiet.below hb1); clear hb1
  by_cases hlen : 300 < L.length
  · go_wp2
    go_ret
    exact ⟨rfl, H1.out.toBelow' Q1.out⟩
  · go_wp2_with fail
    refine (gNew_sl _ H1.out).mono ?_
    rintro e w2 ⟨b, rfl, q2, h2⟩
    have H2 := Lib.hid (show Holds w2 (gld b Gld.zero * old w) from h2)
    have Q2 := Lib.hid (Q1.out.trans q2); clear h2 q2
    go_wp2_with fail
    go_loopw [4, 5] (fun s i wr => ∃ (k : Nat) (g : Gld) (l : List Rec), k ≤ L.length ∧ i = .int .i64 k ∧ Holds wr (recs s l * (gld b g * old w)) ∧ Quiet w wr ∧ g.Ok l) (fun _ i _ => L.length - (intOf i).toNat)
    case atStart => exact ⟨0, Gld.zero, [], by omega, rfl, H2.out.nilR, Q2.out, Gld.zero_ok⟩
    case round =>
      obtain ⟨k, g, l, hk, rfl, hh, hq, hok⟩ := hrel
      obtain ⟨wo, rfl⟩ : ∃ wo : World, wo = wr := ⟨_, rfl⟩
      obtain ⟨av, cv, rfl, v1, v2⟩ := hh.row.shape
      have hll : l.length ≤ 200 := by
        have h1 := allB_len g.d.b; rw [hok.wh.all] at h1
        have := hok.fam.ok.b; omega
      have HH := Lib.hid hh; have HQ := Lib.hid hq; have HOK := Lib.hid hok; have HV1 := Lib.hid v1; clear hh hq hok v1 v2
      by_cases hlt : k < L.length
      · obtain ⟨o, ho⟩ : ∃ o, L[k]? = some o := ⟨_, List.getElem?_eq_getElem hlt⟩
        obtain ⟨ga, off, c', e, _, _, hc0⟩ := HV.out.get (by omega)
        simp only [Value.slice.injEq] at e
        obtain ⟨rfl, _, rfl⟩ := e
        obtain ⟨x0, x1, x2, x3, x4, x5, x6, x7, x8⟩ := stp_cells HV.out ho (HH.out.eq (HP.assoc _ _ _).symm)
        obtain ⟨kd, x, kp, ⟨kd2, nw, jb, tr, wk, tm⟩⟩ := o
        dsimp only at x0 x1 x2 x3 x4 x5 x6 x7 x8
        clear ho hc0
        go_wp2_with fail
        refine (gStep_sl b g kd x kp kd2 nw jb tr wk tm l _ HH.out.two HOK.out).mono ?_
        obtain ⟨l', hs⟩ := step_ok HOK.out ⟨kd, x, kp, ⟨kd2, nw, jb, tr, wk, tm⟩⟩
        obtain ⟨⟨g', A⟩, hX⟩ : ∃ X, g.step ⟨kd, x, kp, ⟨kd2, nw, jb, tr, wk, tm⟩⟩ = X := ⟨_, rfl⟩
        rw [hX] at hs ⊢
        have hok' := hs.ok
        have hgrew : ∃ t, l' = l ++ t := by
          rcases hs.grew with h | ⟨n, _, _, _, _, _, _, h⟩
          · exact ⟨[], by rw [h, List.append_nil]⟩
          · exact ⟨_, h⟩
        dsimp only at hok'
        have hll' : l'.length ≤ 200 := by
          have h1 := allB_len g'.d.b; rw [hok'.wh.all] at h1
          have := hok'.fam.ok.b; omega
        have hb15 : g'.d.b.length ≤ 1500 := hok'.fam.ok.b
        have hrem : g'.d.b.length < 9 * l'.length + 9 ∧ 9 * l'.length ≤ g'.d.b.length := by
          obtain ⟨m, hm, hml⟩ := hok'.wh.b
          have := congrArg List.length hm
          rw [List.length_append, encAll_len] at this
          omega
        have hle : l.length ≤ l'.length := by obtain ⟨t, rfl⟩ := hgrew; simp
        have htk : l'.take l.length = l := by obtain ⟨t, rfl⟩ := hgrew; simp
        have HTK := Lib.hid htk
        have HOK' := Lib.hid hok'
        clear hs hX hok' hgrew htk x0 x1 x2 x3 x4 x5 x6 x7 x8
        rintro e w3 ⟨rfl, q3, h3⟩
        obtain ⟨bd, vs, h4⟩ := gld_open h3
        have cg0 := (show BlockAt w3 b 99 (gcells bd vs g'.now) from h4.bl).cell 0 _ rfl
        have H4 := Lib.hid h4; have Q4 := Lib.hid (HQ.out.trans q3); clear h3 h4 q3
        go_wp2_with fail
        refine (bytes_sl bd g'.d _ H4.out.two HOK'.out.fam.ok).mono ?_
        rintro e w5 ⟨vb, rfl, q5, h5⟩
        obtain ⟨ab, cb, rfl, b1, b2⟩ := h5.ownb.bytes.shape
        have H5 := Lib.hid h5; have Q5 := Lib.hid (Q4.out.trans q5); clear h5 q5 cg0 b1 b2
        go_wp2_with fail
        refine (all_sl _ g'.d.b _ H5.out.ownb.bytes (by omega) H5.out).mono ?_
        rw [HOK'.out.wh.all]
        rintro e w6 ⟨vr, rfl, q6, h6⟩
        obtain ⟨ar, cr, rfl, r1, r2⟩ := h6.row.shape
        have H6 := Lib.hid h6; have Q6 := Lib.hid (Q5.out.trans q6); clear h6 q6
        have hcl : l.length ≤ cr := by omega
        go_wp2_with fail
        have hr1 := recs_take H6.out.row hle
        rw [HTK.out] at hr1
        have hr2 : RowAt w6 (.slice av l.length cv) l.length (rvs l) := (H6.out.eq (by ac_rfl : _ = recs (.slice av l.length cv) l * (recs (.slice ar l'.length cr) l' * (ownb (.slice ab g'.d.b.length cb) g'.d.b * (dsk bd g'.d * (gblk b bd vs g'.now * (nodes3 bd vs g'.f * old w))))))).row
        refine (same_recs _ _ l _ hr1 hr2 (by omega)).mono ?_
        rintro e w7 ⟨rfl, n7, rfl⟩
        have H7 := Lib.hid (((H6.out.eq (by ac_rfl : _ = recs (.slice av l.length cv) l * (ownb (.slice ab g'.d.b.length cb) g'.d.b * (gblk b bd vs g'.now * (dsk bd g'.d * (nodes3 bd vs g'.f * (recs (.slice ar l'.length cr) l' * old w))))))).right.right).drewN n7)
        have Q7 := Lib.hid (Q6.out.drewN n7)
        clear H6 Q6 hr1 hr2 H5 Q5 H4 Q4 HTK
        obtain ⟨q, hq1⟩ : ∃ q : Int, (g'.d.b.length : Int) - 9 * (l'.length : Int) = q := ⟨_, rfl⟩
        have hq2 : q < 9 := by omega
        have hq3 : 0 ≤ q := by omega
        go_wp2_with fail
        go_roundw
        case rel => exact ⟨k + 1, g', l', by omega, by go_num, (gld_close H7.out).two, Q7.out, HOK'.out⟩
        case measure => simp [intOf]; omega
      · obtain rfl : k = L.length := by omega
        go_wp2
        go_ret
        exact ⟨rfl, HH.out.right.right.toBelow' HQ.out⟩
end Go.Proofs.Ytfihmpkkpgmdhab
